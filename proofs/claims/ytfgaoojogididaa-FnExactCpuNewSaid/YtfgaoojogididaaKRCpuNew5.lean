/-
  FnExactCpuNew: for every argument, the law returns true, and the arguments read behind the call as they read before.
  Conditions: none beyond the given statement's own.
-/
import Derived.Test.YtfgaoojogididaaKk4
import Derived.WalkKit
import Derived.ProofKit
import Derived.OpenShut
import Derived.ShutString
import Derived.ChangeOld
import Derived.Below
import Derived.SizedLaws
/-
  The spec's run of an image.
-/
set_option linter.unusedVariables false
set_option linter.unusedSimpArgs false
set_option maxRecDepth 4000
namespace Go.Proofs.Ytfgaoojogididaa.AM
open Go.RowKit

private def MW48 : FuncId → Mode := fun f => if f = 61 ∨ f = 78 ∨ f = 79 then .heap else if f = 62 then .fresh else .tree

def execL (m : Image) (A I : List Int) (fu : Int) : Int := if argsOk m A I && inB fu 0 100000 then (execC m A I fu.toNat).2 else 0
theorem Cx.dr_run {h : Hp} {nr : Nm} {fu : Int} {c : Cpu} {w1 w2 w3 w5 : AV} {n1 n2 n3 n5 : List Nm} {bs : Bx} {os : Ox} (x : Cx h ((nr, runOf fu c (ints true c.Input) w2 w3 w5) :: bs) ((w1, (fun b => ints b c.Regs), n1) :: (w2, (fun b => ints b c.Slots), n2) :: (w3, (fun b => intss b c.Mem), n3) :: (w5, (fun b => ints b c.Out), n5) :: os)) : DR true h.rows (.ptr nr 0 0 0) (.tptr true (runT fu c)) :=
  dr_ptr0 x.b0 rfl rfl (.cons (x.o2 true).dr (.cons (x.o1 true).dr (.cons (dr_ints (fun h => h) _) (.cons (.int _ _) (.cons (.int _ _) (.cons (.bool _) (.cons (.int _ _) (.cons (x.o3 true).dr .nil))))))))
theorem endR_run {m : Image} {c : Cpu} (g : Run m c) (h : isRun c = true) : endR { c with Code := 2 } = endOf c := by rw [g.end_run h]; simp [endR]
theorem endR_stop {m : Image} {c : Cpu} (g : Run m c) (h : isRun c = false) : endR c = endOf c := by
  rw [g.end_stop h]
  by_cases hc : c.Code = 0
  · simp [endR, hc]
  · simp [endR, hc, g.val hc]

theorem dr_tup2 {c : Bool} {rows : Nm → Option Row} {a b t u : AV} (h1 : DR c rows a t) (h2 : DR c rows b u) : DR c rows (.tup [a, b]) (.tup [t, u]) := have h : DRs c rows [a, b] [t, u] := .cons h1 (.cons h2 .nil); .tup _ _ h.1 h.2

set_option maxHeartbeats 4000000 in
theorem l14Exec (m : Image) (A I : List Int) (fu : Int) (hs : m.Sizes.length ≤ 2 ^ 62) (hcd : m.Code.length ≤ 2 ^ 62) (hA : A.length ≤ 2 ^ 20) (hI : I.length ≤ 2 ^ 20) :
    Pure Try.prog 59 [.agg (m.cells true), ints true A, ints true I, .int .i64 fu] (.tup [.agg ((execE m A I fu).cells false), .int .i64 (execL m A I fu)]) := by
  intro T
  have hok := specImageOk m hs hcd
  refine enter mixed MW48 Try.func59 rfl (by kernel_rfl) rfl ?_
  repeat' (first
   | with_reducible refine stp ?_
   | with_reducible refine k_blk_o rfl ?_
   | ((try (conv => arg 1; simp [Image.cells])); with_reducible refine evp ?_)
   | ((with_reducible refine apn ?na ?_); (case na => simp [appNames, ints, intss] <;> first | kernel_rfl | (refine ⟨?_, ?_⟩ <;> kernel_rfl)))
   | fail)
  refine cx_k ((Cx.mt.next.box_one (T := T) (i := 0) Cx.mt.off (by simp)).box_add (n := (T, 1, 0)) (by simp [nms]) (by simp)) ?_
  intro h1 x1
  have b1 := x1.bxs
  simp only [Bxs] at b1
  by_cases hg : (argsOk m A I && inB fu 0 100000) = true
  · have hg2 := hg
    simp only [argsOk, Bool.and_eq_true, decide_eq_true_eq] at hg2
    obtain ⟨⟨⟨g1, g2⟩, g3⟩, g4⟩ := hg2
    obtain ⟨n, rfl, hn⟩ := inB_nat g4
    have hc := imageOk_code g1
    have g3' : ¬ (100 : Int) < I.length := by omega
    have e1 : execE m A I n = endOf (execC m A I n).1 := by simp [execE, hg]
    have e2 : execL m A I n = (execC m A I n).2 := by simp [execL, hg]
    have hr0 := start_run (m := m) (A := A) (I := I) (by simp [argsOk, g1, g2, g3])
    rw [e1, e2]
    obtain ⟨s, hsl⟩ : ∃ s : Nat, m.Slots = (s : Int) := ⟨m.Slots.toNat, by omega⟩
    have es : m.Slots.toNat = s := by omega
    repeat' (first
     | with_reducible refine stp ?_
     | with_reducible refine k_blk_o rfl ?_
     | with_reducible refine k_seq_n ?_
     | ((try (conv => arg 1; simp [Image.cells, b1, g1, g2, g3', g4])); with_reducible refine evp ?_)
     | ((with_reducible refine apn ?na ?_); (case na => simp [appNames, ints, intss] <;> first | kernel_rfl | (refine ⟨?_, ?_⟩ <;> kernel_rfl)))
     | ((with_reducible refine tcl ?_); first | ((apply tg (hok)); (case e => rfl); (case d => (refine dq ?_); (repeat' (first | ((refine Da.mk ?_); first | exact dr_words (by simp) _ | assumption) | constructor)))) | ((apply tg (l01In _ _ _)); (case e => rfl); (case d => (refine dq ?_); (repeat' (first | ((refine Da.mk ?_); first | exact dr_words (by simp) _ | assumption) | constructor)))))
     | fail)
    have L := l03Start (x1.next.next) m.Sizes A I s n (by omega) (by omega) (by omega) (fun n hn => by have := hc.2.2.2.2.2.2.2.2.1 n hn; omega)
    rw [← hsl] at L
    refine st_heap rfl L ?_
    rintro v h2 ⟨nr, w2, w3, n2, n3, rfl, x2⟩
    rw [← es] at x2
    have b2 := x2.bxs
    simp only [Bxs, runOf] at b2
    repeat' (first
     | with_reducible refine stp ?_
     | with_reducible refine k_blk_o rfl ?_
     | with_reducible refine k_seq_n ?_
     | ((try (conv => arg 1; simp [b2, ltS, nm_ne])); with_reducible refine evp ?_)
     | ((with_reducible refine apn ?na ?_); (case na => simp [appNames, ints, intss] <;> first | kernel_rfl | (refine ⟨?_, ?_⟩ <;> kernel_rfl)))
     | fail)
    refine st_freshw rfl (l03Zeros 16 (by omega)) (.cons (.int _ _) .nil) ?_
    intro w1 h3 n1 o1 d1 f1 p1 t1
    have x3 := (x2.next.add_own (v := .nilsl) (t := fun b => ints b []) (ns := []) (fun b => .one (.nilsl .nil)) (by simp) (fun n hn => by simp at hn) (fun n hn => rfl) (Nat.le_refl _)).fresh o1 d1 f1 p1 t1
    have ok3 : OutV h3 .nilsl := fun n ver off len e => by cases e
    have b3 := x3.bxs
    simp only [Bxs, runOf] at b3
    repeat' (first
     | with_reducible refine stp ?_
     | with_reducible refine k_blk_o rfl ?_
     | with_reducible refine k_seq_n ?_
     | ((try (conv => arg 1; simp [b3, ltS, nm_ne])); with_reducible refine evp ?_)
     | ((with_reducible refine apn ?na ?_); (case na => simp [appNames, ints, intss] <;> first | kernel_rfl | (refine ⟨?_, ?_⟩ <;> kernel_rfl)))
     | fail)
    generalize hC : startC m.Sizes m.Slots.toNat A I = c0 at *
    have hC1 : c0.Input = I := by rw [← hC]; rfl
    have hC2 : c0.Out = [] := by rw [← hC]; rfl
    have hC3 : c0.Regs = zeros 16 := by rw [← hC]; rfl
    have hC4 : c0.At = 0 := by rw [← hC]; rfl
    have eC : execC m A I n = execN m n c0 := by rw [← hC]; rfl
    have x4 := x3.next.rot3.rot3.rot2
    rw [show (fun b => ints b []) = fun b => ints b c0.Out by rw [hC2], show (16 : Int).toNat = 16 by rfl, ← hC3, ← hC1] at x4
    refine st_loop (fun (k : Nat) σ h => k ≤ n ∧ σ 4 = .ptr (T, 0, 0) 0 0 0 ∧ σ 8 = .ptr (T, 1, 0) 0 0 0 ∧ σ 10 = .ptr nr 0 0 0 ∧ σ 11 = w1 ∧ ∃ at_ ck w5 n5, σ 12 = .int .i64 at_ ∧ Run m ck ∧ (isRun ck = true → at_ = ck.At) ∧ execN m k ck = execC m A I n ∧ ck.Out.length + k ≤ n ∧ ck.Input.length ≤ 100 ∧ OutV h w5 ∧
      Cx h [(nr, runOf k ck (ints true ck.Input) w2 w3 w5), ((T, 1, 0), ⟨0, 3, [[.int .i64 0, .int .i64 0, .nilsl]]⟩), ((T, 0, 0), ⟨0, 4, [[ints true m.Sizes, .int .i64 m.Params, .int .i64 m.Slots, words true m.Code]]⟩)]
        [(w1, (fun b => ints b ck.Regs), n1), (w2, (fun b => ints b ck.Slots), n2), (w3, (fun b => intss b ck.Mem), n3), (w5, (fun b => ints b ck.Out), n5)]) (fun k => k) n ?init ?step
    case init => exact ⟨Nat.le_refl _, by simp, by simp, by simp, by simp, 0, c0, .nilsl, [], by simp, hr0, fun _ => hC4.symm, eC.symm, by simp [hC2], by rw [hC1]; omega, (fun n ver off len e => by cases e), x4⟩
    case step =>
      rintro k σ h ⟨hk, s4, s8, s10, s11, at_, ck, w5, n5, s12, rk, hat, ek, lk, ik, ok, x⟩
      cases hr : isRun ck with
      | false =>
        repeat' (first
         | with_reducible refine stp ?_
         | with_reducible refine k_blk_o rfl ?_
         | with_reducible refine k_seq_n ?_
         | ((try (conv => arg 1; simp [s10])); with_reducible refine evp ?_)
         | ((with_reducible refine apn ?na ?_); (case na => simp [appNames, ints, intss] <;> first | kernel_rfl | (refine ⟨?_, ?_⟩ <;> kernel_rfl)))
         | fail)
        refine st_heap rfl (l03Burn_stop x.next hr) ?_
        rintro v h' ⟨rfl, x'⟩
        have b := x'.bxs
        simp only [Bxs, runOf] at b
        have hd := x'.dr_run
        have ap := x'.aps
        simp only [Aps, List.map_cons, List.map_nil, List.forall_mem_cons] at ap
        have E := l03End k ck (by omega)
        have ee := endR_stop rk hr
        rw [execN_stop hr] at ek
        repeat' (first
         | with_reducible refine stp ?_
         | with_reducible refine k_blk_o rfl ?_
         | with_reducible refine k_seq_n ?_
         | ((try (conv => arg 1; simp [s10])); with_reducible refine evp ?_)
         | ((with_reducible refine apn ?na ?_); (case na => simp [appNames, ints, intss] <;> first | kernel_rfl | (refine ⟨?_, ?_⟩ <;> kernel_rfl)))
         | fail)
        repeat (with_reducible first | refine stp ?_ | refine k_seq_n ?_)
        refine st_lz (by kernel_rfl) ?_
        have hF := And.intro s8 (And.intro s10 (And.intro b ap.1.1))
        repeat' (first
         | with_reducible refine stp ?_
         | with_reducible refine k_blk_o rfl ?_
         | ((try (conv => arg 1; simp [EndV.cells, hF])); with_reducible refine evp ?_)
         | ((with_reducible refine apn ?na ?_); (case na => simp [appNames, ints, intss] <;> first | kernel_rfl | (refine ⟨?_, ?_⟩ <;> kernel_rfl)))
         | ((with_reducible refine tcl ?_); first | ((apply tg (E)); (case e => rfl); (case d => (refine dq ?_); (repeat' (first | ((refine Da.mk ?_); first | exact hd | assumption) | constructor)))))
          | ((with_reducible refine la_id ?_); refine la_end rfl ?_; (repeat (first | refine pl_nil ?_ | refine pl_cons ?_)))
          | ((with_reducible refine la_id ?_); refine la_pick ?_; (conv => arg 1; whnf); (repeat ((fail_if_success (first | ((refine la_q0 rfl ?_); (try (conv => arg 1; simp [EndV.cells, hF])); with_reducible refine evp ?_) | ((refine la_n rfl rfl ?_); (try (conv => arg 1; simp [EndV.cells, hF])); with_reducible refine evp ?_) | ((refine la_q2 rfl (by decide +kernel) ?_); (repeat (first | refine bk_nil ?_ | refine bk_t (by decide +kernel) ?_ | refine bk_f (by decide +kernel) ?_)); (try (conv => arg 1; simp [EndV.cells, hF])); with_reducible refine evp ?_) | ((refine la_q1 rfl (by decide +kernel) ?_); (try (conv => arg 1; simp [EndV.cells, hF])); with_reducible refine evp ?_) | ((refine la_g0 rfl ?_); (try (conv => arg 1; simp [EndV.cells, hF])); with_reducible refine evp ?_; (with_reducible refine evp ?_); try ((try (conv => arg 1; simp [EndV.cells, hF])); with_reducible refine evp ?_)))); (refine la_there ?_); (conv => arg 1; whnf))); first | ((refine la_q0 rfl ?_); (try (conv => arg 1; simp [EndV.cells, hF])); with_reducible refine evp ?_) | ((refine la_n rfl rfl ?_); (try (conv => arg 1; simp [EndV.cells, hF])); with_reducible refine evp ?_) | ((refine la_q2 rfl (by decide +kernel) ?_); (repeat (first | refine bk_nil ?_ | refine bk_t (by decide +kernel) ?_ | refine bk_f (by decide +kernel) ?_)); (try (conv => arg 1; simp [EndV.cells, hF])); with_reducible refine evp ?_) | ((refine la_q1 rfl (by decide +kernel) ?_); (try (conv => arg 1; simp [EndV.cells, hF])); with_reducible refine evp ?_) | ((refine la_g0 rfl ?_); (try (conv => arg 1; simp [EndV.cells, hF])); with_reducible refine evp ?_; (with_reducible refine evp ?_); try ((try (conv => arg 1; simp [EndV.cells, hF])); with_reducible refine evp ?_)))
          | ((with_reducible refine la_id ?_); refine la_all rfl ?_)
          | ((with_reducible refine all_id ?_); (conv => arg 1; whnf); first | exact all_nil | refine all_cons ?_ ?_)
          | (refine la_op rfl (by first | exact frm_s (by decide +kernel) | exact frm_a (by repeat' (first | exact fa_nil | refine fa_cons (by decide +kernel) ?_))) (by intro hq; first | exact trivial | (cases hq; done) | simp [appT, EndV.cells, hF]) ?_; (repeat (first | refine bk_nil ?_ | refine bk_t (by decide +kernel) ?_ | refine bk_f (by decide +kernel) ?_)))
         | fail)
        all_goals
          rw [← ek]
          dsimp only
          rw [← ee]
          repeat' (first
           | with_reducible refine stp ?_
           | with_reducible refine k_blk_o rfl ?_
           | with_reducible refine k_seq_n ?_
           | ((try (conv => arg 1; simp [s8])); with_reducible refine evp ?_)
           | ((with_reducible refine apn ?na ?_); (case na => simp [appNames, ints, intss] <;> first | kernel_rfl | (refine ⟨?_, ?_⟩ <;> kernel_rfl)))
           | fail)
          exact dr_tup2 (dr_agg (drs_end _ (fun h => h))) (.int _ _)
      | true =>
        cases k with
        | zero =>
          repeat' (first
           | with_reducible refine stp ?_
           | with_reducible refine k_blk_o rfl ?_
           | with_reducible refine k_seq_n ?_
           | ((try (conv => arg 1; simp [s10])); with_reducible refine evp ?_)
           | ((with_reducible refine apn ?na ?_); (case na => simp [appNames, ints, intss] <;> first | kernel_rfl | (refine ⟨?_, ?_⟩ <;> kernel_rfl)))
           | fail)
          refine st_heap rfl (l03Burn_none x.next hr) ?_
          rintro v h' ⟨rfl, x'⟩
          have b := x'.bxs
          simp only [Bxs, runOf] at b
          have hd := x'.dr_run
          have ap := x'.aps
          simp only [Aps, List.map_cons, List.map_nil, List.forall_mem_cons] at ap
          have E := l03End 0 { ck with Code := 2 } (by show ck.Out.length ≤ 2 ^ 20; omega)
          have ee := endR_run rk hr
          rw [show execN m 0 ck = (ck, 0) from rfl] at ek
          repeat' (first
           | with_reducible refine stp ?_
           | with_reducible refine k_blk_o rfl ?_
           | with_reducible refine k_seq_n ?_
           | ((try (conv => arg 1; simp [s10])); with_reducible refine evp ?_)
           | ((with_reducible refine apn ?na ?_); (case na => simp [appNames, ints, intss] <;> first | kernel_rfl | (refine ⟨?_, ?_⟩ <;> kernel_rfl)))
           | fail)
          repeat (with_reducible first | refine stp ?_ | refine k_seq_n ?_)
          refine st_lz (by kernel_rfl) ?_
          have hF := And.intro s8 (And.intro s10 (And.intro b ap.1.1))
          repeat' (first
           | with_reducible refine stp ?_
           | with_reducible refine k_blk_o rfl ?_
           | ((try (conv => arg 1; simp [EndV.cells, hF])); with_reducible refine evp ?_)
           | ((with_reducible refine apn ?na ?_); (case na => simp [appNames, ints, intss] <;> first | kernel_rfl | (refine ⟨?_, ?_⟩ <;> kernel_rfl)))
           | ((with_reducible refine tcl ?_); first | ((apply tg (E)); (case e => rfl); (case d => (refine dq ?_); (repeat' (first | ((refine Da.mk ?_); first | exact hd | assumption) | constructor)))))
            | ((with_reducible refine la_id ?_); refine la_end rfl ?_; (repeat (first | refine pl_nil ?_ | refine pl_cons ?_)))
            | ((with_reducible refine la_id ?_); refine la_pick ?_; (conv => arg 1; whnf); (repeat ((fail_if_success (first | ((refine la_q0 rfl ?_); (try (conv => arg 1; simp [EndV.cells, hF])); with_reducible refine evp ?_) | ((refine la_n rfl rfl ?_); (try (conv => arg 1; simp [EndV.cells, hF])); with_reducible refine evp ?_) | ((refine la_q2 rfl (by decide +kernel) ?_); (repeat (first | refine bk_nil ?_ | refine bk_t (by decide +kernel) ?_ | refine bk_f (by decide +kernel) ?_)); (try (conv => arg 1; simp [EndV.cells, hF])); with_reducible refine evp ?_) | ((refine la_q1 rfl (by decide +kernel) ?_); (try (conv => arg 1; simp [EndV.cells, hF])); with_reducible refine evp ?_) | ((refine la_g0 rfl ?_); (try (conv => arg 1; simp [EndV.cells, hF])); with_reducible refine evp ?_; (with_reducible refine evp ?_); try ((try (conv => arg 1; simp [EndV.cells, hF])); with_reducible refine evp ?_)))); (refine la_there ?_); (conv => arg 1; whnf))); first | ((refine la_q0 rfl ?_); (try (conv => arg 1; simp [EndV.cells, hF])); with_reducible refine evp ?_) | ((refine la_n rfl rfl ?_); (try (conv => arg 1; simp [EndV.cells, hF])); with_reducible refine evp ?_) | ((refine la_q2 rfl (by decide +kernel) ?_); (repeat (first | refine bk_nil ?_ | refine bk_t (by decide +kernel) ?_ | refine bk_f (by decide +kernel) ?_)); (try (conv => arg 1; simp [EndV.cells, hF])); with_reducible refine evp ?_) | ((refine la_q1 rfl (by decide +kernel) ?_); (try (conv => arg 1; simp [EndV.cells, hF])); with_reducible refine evp ?_) | ((refine la_g0 rfl ?_); (try (conv => arg 1; simp [EndV.cells, hF])); with_reducible refine evp ?_; (with_reducible refine evp ?_); try ((try (conv => arg 1; simp [EndV.cells, hF])); with_reducible refine evp ?_)))
            | ((with_reducible refine la_id ?_); refine la_all rfl ?_)
            | ((with_reducible refine all_id ?_); (conv => arg 1; whnf); first | exact all_nil | refine all_cons ?_ ?_)
            | (refine la_op rfl (by first | exact frm_s (by decide +kernel) | exact frm_a (by repeat' (first | exact fa_nil | refine fa_cons (by decide +kernel) ?_))) (by intro hq; first | exact trivial | (cases hq; done) | simp [appT, EndV.cells, hF]) ?_; (repeat (first | refine bk_nil ?_ | refine bk_t (by decide +kernel) ?_ | refine bk_f (by decide +kernel) ?_)))
           | fail)
          all_goals
            rw [← ek]
            dsimp only
            rw [← ee]
            repeat' (first
             | with_reducible refine stp ?_
             | with_reducible refine k_blk_o rfl ?_
             | with_reducible refine k_seq_n ?_
             | ((try (conv => arg 1; simp [s8])); with_reducible refine evp ?_)
             | ((with_reducible refine apn ?na ?_); (case na => simp [appNames, ints, intss] <;> first | kernel_rfl | (refine ⟨?_, ?_⟩ <;> kernel_rfl)))
             | fail)
            exact dr_tup2 (dr_agg (drs_end _ (fun h => h))) (.int _ _)
        | succ k =>
          repeat' (first
           | with_reducible refine stp ?_
           | with_reducible refine k_blk_o rfl ?_
           | with_reducible refine k_seq_n ?_
           | ((try (conv => arg 1; simp [s10])); with_reducible refine evp ?_)
           | ((with_reducible refine apn ?na ?_); (case na => simp [appNames, ints, intss] <;> first | kernel_rfl | (refine ⟨?_, ?_⟩ <;> kernel_rfl)))
           | fail)
          refine st_heap rfl (l03Burn_run (by omega) x.next hr).esz ?_
          rintro v h' ⟨⟨rfl, x'⟩, z1⟩
          obtain ⟨i, w, e1, e2, e3⟩ := rk.good.at_ hr
          have ok' : OutV h' w5 := OutV.of_esz (h := h.next) ok (own_of (x'.o3 true) rfl) z1
          have b := x'.bxs
          simp only [Bxs] at b
          repeat' (first
           | with_reducible refine stp ?_
           | with_reducible refine k_blk_o rfl ?_
           | with_reducible refine k_seq_n ?_
           | ((try (conv => arg 1; simp [s4, s10, s11, s12, b, hat hr, e1, e2, words, Word.cells])); with_reducible refine evp ?_)
           | ((with_reducible refine apn ?na ?_); (case na => simp [appNames, ints, intss] <;> first | kernel_rfl | (refine ⟨?_, ?_⟩ <;> kernel_rfl)))
           | fail)
          have sp := (spec_word (rk.good.run hr).1 e1 e2 (by omega) (by omega)).2
          unfold SpecT at sp
          rw [e1] at sp
          refine st_heap rfl (sp _ nr k w1 w2 w3 w5 n1 n2 n3 n5 _ _ x'.next ok').esz ?_
          rintro v h2 ⟨⟨a, w5', n5', rfl, ha, x2, e5⟩, z2⟩
          have ok2 : OutV h2 w5' := by
            rcases e5 with rfl | e5
            · exact OutV.of_esz (h := h'.next) ok' (own_of (x2.o3 true) rfl) z2
            · exact e5
          rw [← e3] at ha x2
          have hs := stepC_slots ck w
          rw [← e3] at hs
          have eq : execN m k (nextC m ck) = execC m A I n := by rw [← ek, execN_run hr]
          repeat' (first
           | with_reducible refine stp ?_
           | with_reducible refine k_blk_o rfl ?_
           | with_reducible refine k_seq_n ?_
           | ((try (conv => arg 1; simp [s10])); with_reducible refine evp ?_)
           | ((with_reducible refine apn ?na ?_); (case na => simp [appNames, ints, intss] <;> first | kernel_rfl | (refine ⟨?_, ?_⟩ <;> kernel_rfl)))
           | fail)
          refine k_lp_n k (by omega) ⟨by omega, by simp [s4], by simp [s8], by simp [s10], by simp [s11], a, nextC m ck, w5', n5', by simp, rk.next hr, fun e => ha (isRun_iff.1 e), eq, by omega, by omega, ok2, x2⟩
  · have e1 : execE m A I fu = ⟨3, 0, []⟩ := by simp [execE, hg]
    have e2 : execL m A I fu = 0 := by simp [execL, hg]
    rw [e1, e2]
    have fin : ∀ h' : Hp, DR false h'.rows (.tup [.agg [.int .i64 3, .int .i64 0, .nilsl], .int .i64 0]) (.tup [.agg (EndV.cells false ⟨3, 0, []⟩), .int .i64 0]) := fun h' => dr_tup2 (dr_agg (.cons (.int _ _) (.cons (.int _ _) (.cons .nilsl .nil)))) (.int _ _)
    cases g1 : imageOk m with
    | false =>
      repeat' (first
       | with_reducible refine stp ?_
       | with_reducible refine k_blk_o rfl ?_
       | with_reducible refine k_seq_n ?_
       | ((try (conv => arg 1; simp [Image.cells, b1, g1, nm_ne, ltS])); with_reducible refine evp ?_)
       | ((with_reducible refine apn ?na ?_); (case na => simp [appNames, ints, intss] <;> first | kernel_rfl | (refine ⟨?_, ?_⟩ <;> kernel_rfl)))
       | ((with_reducible refine tcl ?_); first | ((apply tg (hok)); (case e => rfl); (case d => (refine dq ?_); (repeat' (first | ((refine Da.mk ?_); first | exact dr_words (by simp) _ | assumption) | constructor)))))
       | fail)
      exact fin _
    | true =>
      by_cases g2 : (A.length : Int) = m.Params
      · by_cases g3 : (100 : Int) < I.length
        · skip
          repeat' (first
           | with_reducible refine stp ?_
           | with_reducible refine k_blk_o rfl ?_
           | with_reducible refine k_seq_n ?_
           | ((try (conv => arg 1; simp [Image.cells, b1, g1, g2, g3, nm_ne, ltS])); with_reducible refine evp ?_)
           | ((with_reducible refine apn ?na ?_); (case na => simp [appNames, ints, intss] <;> first | kernel_rfl | (refine ⟨?_, ?_⟩ <;> kernel_rfl)))
           | ((with_reducible refine tcl ?_); first | ((apply tg (hok)); (case e => rfl); (case d => (refine dq ?_); (repeat' (first | ((refine Da.mk ?_); first | exact dr_words (by simp) _ | assumption) | constructor)))))
           | fail)
          exact fin _
        · cases g4 : inB fu 0 100000 with
          | false =>
            repeat' (first
             | with_reducible refine stp ?_
             | with_reducible refine k_blk_o rfl ?_
             | with_reducible refine k_seq_n ?_
             | ((try (conv => arg 1; simp [Image.cells, b1, g1, g2, g3, g4, nm_ne, ltS])); with_reducible refine evp ?_)
             | ((with_reducible refine apn ?na ?_); (case na => simp [appNames, ints, intss] <;> first | kernel_rfl | (refine ⟨?_, ?_⟩ <;> kernel_rfl)))
             | ((with_reducible refine tcl ?_); first | ((apply tg (hok)); (case e => rfl); (case d => (refine dq ?_); (repeat' (first | ((refine Da.mk ?_); first | exact dr_words (by simp) _ | assumption) | constructor)))) | ((apply tg (l01In _ _ _)); (case e => rfl); (case d => (refine dq ?_); (repeat' (first | ((refine Da.mk ?_); first | exact dr_words (by simp) _ | assumption) | constructor)))))
             | fail)
            exact fin _
          | true =>
            exfalso
            simp [argsOk, g1, g2, g4] at hg
            omega
      · skip
        repeat' (first
         | with_reducible refine stp ?_
         | with_reducible refine k_blk_o rfl ?_
         | with_reducible refine k_seq_n ?_
         | ((try (conv => arg 1; simp [Image.cells, b1, g1, g2, nm_ne, ltS])); with_reducible refine evp ?_)
         | ((with_reducible refine apn ?na ?_); (case na => simp [appNames, ints, intss] <;> first | kernel_rfl | (refine ⟨?_, ?_⟩ <;> kernel_rfl)))
         | ((with_reducible refine tcl ?_); first | ((apply tg (hok)); (case e => rfl); (case d => (refine dq ?_); (repeat' (first | ((refine Da.mk ?_); first | exact dr_words (by simp) _ | assumption) | constructor)))))
         | fail)
        exact fin _
end Go.Proofs.Ytfgaoojogididaa.AM

/-
  The spec's run of an image: its end, its cost.
-/
set_option linter.unusedVariables false
set_option linter.unusedSimpArgs false
set_option maxRecDepth 4000
namespace Go.Proofs.Ytfgaoojogididaa.AM
open Go.RowKit

private def MW50 : FuncId → Mode := fun f => .tree

theorem endOf_code {m : Image} {c : Cpu} (g : Run m c) : (endOf c).Code ≠ 3 := by
  cases hr : isRun c with
  | true => rw [g.end_run hr]; simp
  | false =>
    rw [g.end_stop hr]
    show c.Code ≠ 3
    have := g.code
    omega
theorem execE_code (m : Image) (A I : List Int) {fu : Int} (hf : inB fu 0 100000 = true) : ((execE m A I fu).Code = 3) = (argsOk m A I = false) := by
  cases h : argsOk m A I with
  | false => simp [execE, h]
  | true =>
    obtain ⟨n, rfl, hn⟩ := inB_nat hf
    have := endOf_code (execN_ok n _ (start_run h)).1
    have e : execE m A I n = endOf (execC m A I n).1 := by simp [execE, h, hf]
    rw [e]
    simpa [execC] using this

theorem specExec (m : Image) (A I : List Int) (fu : Int) (hs : m.Sizes.length ≤ 2 ^ 62) (hcd : m.Code.length ≤ 2 ^ 62) (hA : A.length ≤ 2 ^ 20) (hI : I.length ≤ 2 ^ 20) :
    Pure Try.prog 35 [.agg (m.cells true), ints true A, ints true I, .int .i64 fu] (.agg ((execE m A I fu).cells false)) := by
  intro T
  have E := l14Exec m A I fu hs hcd hA hI
  refine enter mixed MW50 Try.func35 rfl (by kernel_rfl) rfl ?_
  repeat' (first
   | with_reducible refine stp ?_
   | with_reducible refine k_blk_o rfl ?_
   | with_reducible refine k_seq_n ?_
   | ((try (conv => arg 1; simp [Image.cells, EndV.cells])); with_reducible refine evp ?_)
   | ((with_reducible refine apn ?na ?_); (case na => simp [appNames, ints, intss] <;> first | kernel_rfl | (refine ⟨?_, ?_⟩ <;> kernel_rfl)))
   | ((with_reducible refine tcl ?_); first | ((apply tg (E)); (case e => rfl); (case d => (refine dq ?_); (repeat' (first | ((refine Da.mk ?_); first | exact dr_words (by simp) _ | assumption) | constructor)))))
   | fail)
  exact dr_agg (drs_end (execE m A I fu) (fun h => h))

theorem specCost (m : Image) (A I : List Int) (hs : m.Sizes.length ≤ 2 ^ 62) (hcd : m.Code.length ≤ 2 ^ 62) (hA : A.length ≤ 2 ^ 20) (hI : I.length ≤ 2 ^ 20) :
    Pure Try.prog 26 [.agg (m.cells true), ints true A, ints true I] (.int .i64 (costE m A I)) := by
  intro T
  have E := l14Exec m A I 100000 hs hcd hA hI
  have hc := execE_code m A I (fu := 100000) (by decide)
  have hb : inB 100000 0 100000 = true := by decide
  refine enter mixed MW50 Try.func26 rfl (by kernel_rfl) rfl ?_
  cases h : argsOk m A I with
  | false =>
    have hc2 : (execE m A I 100000).Code = 3 := by rw [hc]; exact h
    have e : costE m A I = -1 := by simp [costE, h]
    rw [e]
    repeat' (first
     | with_reducible refine stp ?_
     | with_reducible refine k_blk_o rfl ?_
     | with_reducible refine k_seq_n ?_
     | ((try (conv => arg 1; simp [Image.cells, EndV.cells, hc2])); with_reducible refine evp ?_)
     | ((with_reducible refine apn ?na ?_); (case na => simp [appNames, ints, intss] <;> first | kernel_rfl | (refine ⟨?_, ?_⟩ <;> kernel_rfl)))
     | ((with_reducible refine tcl ?_); first | ((apply tg (E)); (case e => rfl); (case d => (refine dq ?_); (repeat' (first | ((refine Da.mk ?_); first | exact dr_words (by simp) _ | assumption) | constructor)))))
     | fail)
    exact .int _ _
  | true =>
    have hc2 : ¬ (execE m A I 100000).Code = 3 := by rw [hc, h]; simp
    have e2 : execL m A I 100000 = (execC m A I 100000).2 := by simp [execL, h, hb]
    have hl := (execN_ok 100000 _ (start_run h)).2.1
    have e : costE m A I = 100000 - (execC m A I 100000).2 := by simp [costE, h]
    have hw : IntKind.i64.wrap (100000 - ((execC m A I 100000).2 : Int)) = 100000 - (execC m A I 100000).2 := wrap_id (by unfold execC; omega) (by unfold execC; omega)
    rw [e]
    repeat' (first
     | with_reducible refine stp ?_
     | with_reducible refine k_blk_o rfl ?_
     | with_reducible refine k_seq_n ?_
     | ((try (conv => arg 1; simp [Image.cells, EndV.cells, hc2, e2, hw])); with_reducible refine evp ?_)
     | ((with_reducible refine apn ?na ?_); (case na => simp [appNames, ints, intss] <;> first | kernel_rfl | (refine ⟨?_, ?_⟩ <;> kernel_rfl)))
     | ((with_reducible refine tcl ?_); first | ((apply tg (E)); (case e => rfl); (case d => (refine dq ?_); (repeat' (first | ((refine Da.mk ?_); first | exact dr_words (by simp) _ | assumption) | constructor)))))
     | fail)
    exact .int _ _
end Go.Proofs.Ytfgaoojogididaa.AM

/-
  The spec's stepper at first.
-/
set_option linter.unusedVariables false
set_option linter.unusedSimpArgs false
set_option maxRecDepth 4000
namespace Go.Proofs.Ytfgaoojogididaa.AM
open Go.RowKit

private def MW53 : FuncId → Mode := fun f => if f = 61 then .heap else if f = 62 then .fresh else .tree

set_option maxHeartbeats 4000000 in
theorem specCpuNew (m : Image) (A I : List Int) (hs : m.Sizes.length ≤ 2 ^ 62) (hcd : m.Code.length ≤ 2 ^ 62) (hA : A.length ≤ 2 ^ 20) (hI : I.length ≤ 2 ^ 20) :
    FreshW Try.prog 30 [.agg (m.cells true), ints true A, ints true I] (fun b => .tup [.agg ((newR m A I).1.cells b), .bool (newR m A I).2]) := by
  intro T
  have E := specExec m A I 0 hs hcd hA hI
  have hc := execE_code m A I (fu := 0) (by decide)
  refine enter mixed MW53 Try.func30 rfl (by kernel_rfl) rfl ?_
  repeat' (first
   | with_reducible refine stp ?_
   | with_reducible refine k_blk_o rfl ?_
   | ((try (conv => arg 1; simp [Image.cells])); with_reducible refine evp ?_)
   | ((with_reducible refine apn ?na ?_); (case na => simp [appNames, ints, intss] <;> first | kernel_rfl | (refine ⟨?_, ?_⟩ <;> kernel_rfl)))
   | fail)
  refine cx_k ((Cx.mt.next.box_one (T := T) (i := 0) Cx.mt.off (by simp)).box_add (n := (T, 1, 0)) (by simp [nms]) (by simp)) ?_
  intro h1 x1
  have b1 := x1.bxs
  simp only [Bxs] at b1
  by_cases hg : argsOk m A I = true
  · have hg2 := hg
    simp only [argsOk, Bool.and_eq_true, decide_eq_true_eq] at hg2
    obtain ⟨⟨g1, g2⟩, g3⟩ := hg2
    have hc1 := imageOk_code g1
    obtain ⟨s, hsl⟩ : ∃ s : Nat, m.Slots = (s : Int) := ⟨m.Slots.toNat, by omega⟩
    have es : m.Slots.toNat = s := by omega
    have hI2 : I.length ≤ 4294967296 := by omega
    have e1 : newR m A I = (startC m.Sizes m.Slots.toNat A I, true) := by simp [newR, hg]
    have hc2 : ¬ (execE m A I 0).Code = 3 := by rw [hc, hg]; simp
    rw [e1]
    repeat' (first
     | with_reducible refine stp ?_
     | with_reducible refine k_blk_o rfl ?_
     | with_reducible refine k_seq_n ?_
     | ((try (conv => arg 1; simp [Image.cells, EndV.cells, b1, hc2, nm_ne, ltS])); with_reducible refine evp ?_)
     | ((with_reducible refine apn ?na ?_); (case na => simp [appNames, ints, intss] <;> first | kernel_rfl | (refine ⟨?_, ?_⟩ <;> kernel_rfl)))
     | ((with_reducible refine tcl ?_); first | ((apply tg (E)); (case e => rfl); (case d => (refine dq ?_); (repeat' (first | ((refine Da.mk ?_); first | exact dr_words (by simp) _ | assumption) | constructor)))))
     | fail)
    have L := l03Start (x1.next.next) m.Sizes A I s 0 (by omega) (by omega) (by omega) (fun n hn => by have := hc1.2.2.2.2.2.2.2.2.1 n hn; omega)
    rw [← hsl] at L
    refine st_heap rfl L ?_
    rintro v h2 ⟨nr, w2, w3, n2, n3, rfl, x2⟩
    rw [← es] at x2
    generalize hC : startC m.Sizes m.Slots.toNat A I = c0 at *
    have hC1 : c0.Input = I := by rw [← hC]; rfl
    have hC2 : c0.Out = [] := by rw [← hC]; rfl
    have hC3 : c0.Regs = zeros 16 := by rw [← hC]; rfl
    have b2 := x2.bxs
    simp only [Bxs, runOf] at b2
    have hT : ¬ nr.1 = h2.tick := by have := x2.lt nr (by simp [nms]); omega
    have hT2 : ¬ T = h2.tick := by have := x2.lt (T, 0, 0) (by simp [nms]); simp at this; omega
    have k2 := own_one (own_of (x2.o0 true) rfl)
    have k3 := own_one (own_of (x2.o1 true) rfl)
    repeat' (first
     | with_reducible refine stp ?_
     | with_reducible refine k_blk_o rfl ?_
     | with_reducible refine k_seq_n ?_
     | ((try (conv => arg 1; simp [b2, ltS, nm_ne])); with_reducible refine evp ?_)
     | ((with_reducible refine apn ?na ?_); (case na => simp [appNames, ints, intss] <;> first | kernel_rfl | (refine ⟨?_, ?_⟩ <;> kernel_rfl)))
     | fail)
    repeat (with_reducible first | refine stp ?_ | refine k_seq_n ?_)
    refine st_lz (by kernel_rfl) ?_
    have hF := And.intro b2 (And.intro hT (And.intro hT2 (And.intro hI2 (And.intro k2 k3))))
    repeat' (first
     | with_reducible refine stp ?_
     | with_reducible refine k_blk_o rfl ?_
     | ((try (conv => arg 1; simp [hF])); with_reducible refine evp ?_)
     | ((with_reducible refine apn ?na ?_); (case na => simp [appNames, ints, intss] <;> first | kernel_rfl | (refine ⟨?_, ?_⟩ <;> kernel_rfl)))
      | ((with_reducible refine la_id ?_); refine la_end rfl ?_; (repeat (first | refine pl_nil ?_ | refine pl_cons ?_)))
      | ((with_reducible refine la_id ?_); refine la_pick ?_; (conv => arg 1; whnf); (repeat ((fail_if_success (first | ((refine la_q0 rfl ?_); (try (conv => arg 1; simp [hF])); with_reducible refine evp ?_) | ((refine la_n rfl rfl ?_); (try (conv => arg 1; simp [hF])); with_reducible refine evp ?_) | ((refine la_q2 rfl (by decide +kernel) ?_); (repeat (first | refine bk_nil ?_ | refine bk_t (by decide +kernel) ?_ | refine bk_f (by decide +kernel) ?_)); (try (conv => arg 1; simp [hF])); with_reducible refine evp ?_) | ((refine la_q1 rfl (by decide +kernel) ?_); (try (conv => arg 1; simp [hF])); with_reducible refine evp ?_) | ((refine la_g0 rfl ?_); (try (conv => arg 1; simp [hF])); with_reducible refine evp ?_; (with_reducible refine evp ?_); try ((try (conv => arg 1; simp [hF])); with_reducible refine evp ?_)))); (refine la_there ?_); (conv => arg 1; whnf))); first | ((refine la_q0 rfl ?_); (try (conv => arg 1; simp [hF])); with_reducible refine evp ?_) | ((refine la_n rfl rfl ?_); (try (conv => arg 1; simp [hF])); with_reducible refine evp ?_) | ((refine la_q2 rfl (by decide +kernel) ?_); (repeat (first | refine bk_nil ?_ | refine bk_t (by decide +kernel) ?_ | refine bk_f (by decide +kernel) ?_)); (try (conv => arg 1; simp [hF])); with_reducible refine evp ?_) | ((refine la_q1 rfl (by decide +kernel) ?_); (try (conv => arg 1; simp [hF])); with_reducible refine evp ?_) | ((refine la_g0 rfl ?_); (try (conv => arg 1; simp [hF])); with_reducible refine evp ?_; (with_reducible refine evp ?_); try ((try (conv => arg 1; simp [hF])); with_reducible refine evp ?_)))
      | ((with_reducible refine la_id ?_); refine la_all rfl ?_)
      | ((with_reducible refine all_id ?_); (conv => arg 1; whnf); first | exact all_nil | refine all_cons ?_ ?_)
      | (refine la_op rfl (by first | exact frm_s (by decide +kernel) | exact frm_a (by repeat' (first | exact fa_nil | refine fa_cons (by decide +kernel) ?_))) (by intro hq; first | exact trivial | (cases hq; done) | simp [appT, hF]) ?_; (repeat (first | refine bk_nil ?_ | refine bk_t (by decide +kernel) ?_ | refine bk_f (by decide +kernel) ?_)))
     | fail)
    refine st_freshw rfl (l03Zeros 16 (by omega)) (.cons (.int _ _) .nil) ?_
    intro w1 h3 n1 o1 d1 f1 p1 t1
    have y := x2.next.fresh o1 d1 f1 p1 t1
    have b3 := y.bxs
    simp only [Bxs, runOf] at b3
    have k1 := own_one (ownV_ints (o1 true))
    have z3 : h2.tick < h3.tick := by simp at t1; omega
    have hF := And.intro b3 (And.intro hT (And.intro hT2 (And.intro hI2 (And.intro k1 (And.intro k2 (And.intro k3 z3))))))
    repeat' (first
     | with_reducible refine stp ?_
     | with_reducible refine k_blk_o rfl ?_
     | ((try (conv => arg 1; simp [hF])); with_reducible refine evp ?_)
     | ((with_reducible refine apn ?na ?_); (case na => simp [appNames, ints, intss] <;> first | kernel_rfl | (refine ⟨?_, ?_⟩ <;> kernel_rfl)))
      | ((with_reducible refine la_id ?_); refine la_end rfl ?_; (repeat (first | refine pl_nil ?_ | refine pl_cons ?_)))
      | ((with_reducible refine la_id ?_); refine la_pick ?_; (conv => arg 1; whnf); (repeat ((fail_if_success (first | ((refine la_q0 rfl ?_); (try (conv => arg 1; simp [hF])); with_reducible refine evp ?_) | ((refine la_n rfl rfl ?_); (try (conv => arg 1; simp [hF])); with_reducible refine evp ?_) | ((refine la_q2 rfl (by decide +kernel) ?_); (repeat (first | refine bk_nil ?_ | refine bk_t (by decide +kernel) ?_ | refine bk_f (by decide +kernel) ?_)); (try (conv => arg 1; simp [hF])); with_reducible refine evp ?_) | ((refine la_q1 rfl (by decide +kernel) ?_); (try (conv => arg 1; simp [hF])); with_reducible refine evp ?_) | ((refine la_g0 rfl ?_); (try (conv => arg 1; simp [hF])); with_reducible refine evp ?_; (with_reducible refine evp ?_); try ((try (conv => arg 1; simp [hF])); with_reducible refine evp ?_)))); (refine la_there ?_); (conv => arg 1; whnf))); first | ((refine la_q0 rfl ?_); (try (conv => arg 1; simp [hF])); with_reducible refine evp ?_) | ((refine la_n rfl rfl ?_); (try (conv => arg 1; simp [hF])); with_reducible refine evp ?_) | ((refine la_q2 rfl (by decide +kernel) ?_); (repeat (first | refine bk_nil ?_ | refine bk_t (by decide +kernel) ?_ | refine bk_f (by decide +kernel) ?_)); (try (conv => arg 1; simp [hF])); with_reducible refine evp ?_) | ((refine la_q1 rfl (by decide +kernel) ?_); (try (conv => arg 1; simp [hF])); with_reducible refine evp ?_) | ((refine la_g0 rfl ?_); (try (conv => arg 1; simp [hF])); with_reducible refine evp ?_; (with_reducible refine evp ?_); try ((try (conv => arg 1; simp [hF])); with_reducible refine evp ?_)))
      | ((with_reducible refine la_id ?_); refine la_all rfl ?_)
      | ((with_reducible refine all_id ?_); (conv => arg 1; whnf); first | exact all_nil | refine all_cons ?_ ?_)
      | (refine la_op rfl (by first | exact frm_s (by decide +kernel) | exact frm_a (by repeat' (first | exact fa_nil | refine fa_cons (by decide +kernel) ?_))) (by intro hq; first | exact trivial | (cases hq; done) | simp [appT, hF]) ?_; (repeat (first | refine bk_nil ?_ | refine bk_t (by decide +kernel) ?_ | refine bk_f (by decide +kernel) ?_)))
     | fail)
    repeat' (first
     | with_reducible refine stp ?_
     | with_reducible refine k_blk_o rfl ?_
     | with_reducible refine k_seq_n ?_
     | ((try (conv => arg 1; simp [b3, hT, hT2, k1, k2, k3, z3])); with_reducible refine evp ?_)
     | ((with_reducible refine apn ?na ?_); (case na => simp [appNames, ints, intss] <;> first | kernel_rfl | (refine ⟨?_, ?_⟩ <;> kernel_rfl)))
     | fail)
    have z := Off.fresh (h := h2.next) (h' := h3) (v := w1) (t := fun b => ints b (zeros 16)) x2.off f1 (by simp)
    have x4 := (y.box_new (T := h2.tick) (i := 9) (r := ⟨0, 1, []⟩) (r' := ⟨if I = [] then 0 else 1, 1, I.map fun n => [.int .i64 n]⟩) z z3).close_new (xs := I) rfl
    have x5 := x4.box_set1 (r' := ⟨0, 9, [[.int .i64 0, w1, w2, w3, .sl (h2.tick, 9, 0) (if I = [] then 0 else 1) 0 I.length, .nilsl, .int .i64 0, .bool false, .int .i64 0]]⟩)
    subst hC
    have x6 := ((x5.add_own (v := .nilsl) (t := fun b => ints b []) (ns := []) (fun b => .one (.nilsl .nil)) (by simp) (fun n hn => by simp at hn) (fun n hn => rfl) (Nat.le_refl _)).rot1.rot4.rot4.rot4).cpu_join (c := startC m.Sizes m.Slots.toNat A I)
    exact ⟨_ ++ [], fun b => .tup2 (x6.o0 b) (.one (.bool _ .nil)), by simpa using x6.nodup, by simpa using x6.lts⟩
  · have e1 : newR m A I = (zeroCpu, false) := by simp [newR, hg]
    have hc2 : (execE m A I 0).Code = 3 := by rw [hc]; simpa using hg
    rw [e1]
    repeat' (first
     | with_reducible refine stp ?_
     | with_reducible refine k_blk_o rfl ?_
     | with_reducible refine k_seq_n ?_
     | ((try (conv => arg 1; simp [Image.cells, EndV.cells, b1, hc2, nm_ne, ltS])); with_reducible refine evp ?_)
     | ((with_reducible refine apn ?na ?_); (case na => simp [appNames, ints, intss] <;> first | kernel_rfl | (refine ⟨?_, ?_⟩ <;> kernel_rfl)))
     | ((with_reducible refine tcl ?_); first | ((apply tg (E)); (case e => rfl); (case d => (refine dq ?_); (repeat' (first | ((refine Da.mk ?_); first | exact dr_words (by simp) _ | assumption) | constructor)))))
     | fail)
    exact ⟨[] ++ [], fun b => .tup2 (.agg (.int _ _ (.nilsl (.nilsl (.nilsl (.nilsl (.nilsl (.int _ _ (.bool _ (.int _ _ .nil)))))))))) (.one (.bool _ .nil)), by simp, by simp⟩
end Go.Proofs.Ytfgaoojogididaa.AM

/-
  A stepper's state: marked exactly, held.
-/
set_option linter.unusedVariables false
set_option linter.unusedSimpArgs false
set_option maxRecDepth 4000
namespace Go.Proofs.Ytfgaoojogididaa.AM
open Go.RowKit

private def MW33 : FuncId → Mode := fun f => if f = 33 ∨ f = 52 then .heap else .tree

/-- A state whose sizes are bounded, less tightly. -/
structure Cpu.Mid (c : Cpu) : Prop where
  regs : c.Regs.length ≤ 2 ^ 30
  slots : c.Slots.length ≤ 2 ^ 30
  mem : wtSS c.Mem ≤ 2 ^ 30
  input : c.Input.length ≤ 2 ^ 30
  out : c.Out.length ≤ 2 ^ 30
theorem Cpu.Small.mid {c : Cpu} (h : c.Small) : c.Mid := ⟨by have := h.regs; omega, by have := h.slots; omega, by have := h.mem; omega, by have := h.input; omega, by have := h.out; omega⟩

theorem eqCpuM (c : Cpu) (hs : c.Mid) : Pure Try.prog 17 [.agg (c.cells true), .agg (c.cells true)] (.bool true) := by
  intro T
  have k1 := eqIntS c.Regs (by have := hs.regs; omega)
  have k2 := eqIntS c.Slots (by have := hs.slots; omega)
  have k3 := eqIntSS c.Mem (by have := (mem_small hs.mem).1; omega) (fun x hx => by have := (mem_small hs.mem).2 x hx; omega)
  have k4 := eqIntS c.Input (by have := hs.input; omega)
  have k5 := eqIntS c.Out (by have := hs.out; omega)
  refine enter mixed MW33 Try.func17 rfl (by kernel_rfl) rfl ?_
  by_cases ho : c.Over = true
  all_goals
    repeat' (first
     | with_reducible refine stp ?_
     | with_reducible refine k_blk_o rfl ?_
     | with_reducible refine k_seq_n ?_
     | ((try (conv => arg 1; simp [Cpu.cells, ho])); with_reducible refine evp ?_)
     | ((with_reducible refine apn ?na ?_); (case na => simp [appNames, ints, intss] <;> first | kernel_rfl | (refine ⟨?_, ?_⟩ <;> kernel_rfl)))
     | ((with_reducible refine tcl ?_); first | ((apply tg (k1)); (case e => rfl); (case d => (refine dq ?_); (repeat' (first | ((refine Da.mk ?_); first | assumption) | constructor)))) | ((apply tg (k2)); (case e => rfl); (case d => (refine dq ?_); (repeat' (first | ((refine Da.mk ?_); first | assumption) | constructor)))) | ((apply tg (k3)); (case e => rfl); (case d => (refine dq ?_); (repeat' (first | ((refine Da.mk ?_); first | assumption) | constructor)))) | ((apply tg (k4)); (case e => rfl); (case d => (refine dq ?_); (repeat' (first | ((refine Da.mk ?_); first | assumption) | constructor)))) | ((apply tg (k5)); (case e => rfl); (case d => (refine dq ?_); (repeat' (first | ((refine Da.mk ?_); first | assumption) | constructor)))))
     | fail)
    exact .bool true

/-- How many numbers a state holds. -/
def Cpu.tot (c : Cpu) : Int := c.Regs.length + c.Slots.length + psum c.Mem c.Mem.length + c.Input.length + c.Out.length
def Cpu.marked (k : Int) (c : Cpu) : Cpu := { c with Regs := marks k c.Regs.length, Slots := marks (k + c.Regs.length) c.Slots.length, Mem := marksSS (k + c.Regs.length + c.Slots.length) c.Mem, Input := marks (k + c.Regs.length + c.Slots.length + psum c.Mem c.Mem.length) c.Input.length, Out := marks (k + c.Regs.length + c.Slots.length + psum c.Mem c.Mem.length + c.Input.length) c.Out.length }

set_option maxHeartbeats 1000000 in
theorem markCpuX {h : Hp} {bs : Bx} {os : Ox} {l : List AV} {ns : List Nm} {c : Cpu} (x : Cx h bs ((.agg l, (fun b => .agg (c.cells b)), ns) :: os)) (hs : c.Mid) (k : Int) (hk : 0 ≤ k) (hk2 : k ≤ 2 ^ 40) :
    Sound Try.prog 18 [.agg l, .int .i64 k] h fun r h' => r = .int .i64 (k + c.tot) ∧ ∃ ns', Cx h' bs ((.agg l, (fun b => .agg ((c.marked k).cells b)), ns') :: os) := by
  have z1 := hs.regs
  have z2 := hs.slots
  have z3 := hs.mem
  have z4 := hs.input
  have z5 := hs.out
  have z6 : psum c.Mem c.Mem.length ≤ wtSS c.Mem := by simp only [wtSS]; omega
  obtain ⟨w1, w2, w3, w4, w5, n1, n2, n3, n4, n5, rfl, y⟩ := x.cpu_split
  have q1 := own_one (own_of (y.o0 true) rfl)
  have q2 := own_one (own_of (y.o1 true) rfl)
  have q3 := own_one (own_of (y.o2 true) rfl)
  have q4 := own_one (own_of (y.o3 true) rfl)
  have q5 := own_one (own_of (y.o4 true) rfl)
  refine enter mixed MW33 Try.func18 rfl (by kernel_rfl) rfl ?_
  repeat' (first
   | with_reducible refine stp ?_
   | with_reducible refine k_blk_o rfl ?_
   | ((try (conv => arg 1; simp [q1, q2, q3, q4, q5])); with_reducible refine evp ?_)
   | ((with_reducible refine apn ?na ?_); (case na => simp [appNames, ints, intss] <;> first | kernel_rfl | (refine ⟨?_, ?_⟩ <;> kernel_rfl)))
   | fail)
  refine cx_k (y.next.box_one y.off (by simp)) ?_
  intro h1 y1
  repeat' (first
   | with_reducible refine stp ?_
   | with_reducible refine k_blk_o rfl ?_
   | with_reducible refine k_seq_n ?_
   | ((try (conv => arg 1; simp [y1.b0])); with_reducible refine evp ?_)
   | ((with_reducible refine apn ?na ?_); (case na => simp [appNames, ints, intss] <;> first | kernel_rfl | (refine ⟨?_, ?_⟩ <;> kernel_rfl)))
   | fail)
  refine st_heap rfl (markIntS (own_of (y1.next.o0 true) rfl) y1.next.lts k (by omega) (by omega)) ?_
  rintro r h2 ⟨rfl, o, p, t⟩
  have y2 := (y1.next.mark (fun b => .one (o b)) (fun n hn _ => p n hn) t).rot1
  repeat' (first
   | with_reducible refine stp ?_
   | with_reducible refine k_blk_o rfl ?_
   | with_reducible refine k_seq_n ?_
   | ((try (conv => arg 1; simp [y2.b0])); with_reducible refine evp ?_)
   | ((with_reducible refine apn ?na ?_); (case na => simp [appNames, ints, intss] <;> first | kernel_rfl | (refine ⟨?_, ?_⟩ <;> kernel_rfl)))
   | fail)
  refine st_heap rfl (markIntS (own_of (y2.next.o0 true) rfl) y2.next.lts (k + c.Regs.length) (by omega) (by omega)) ?_
  rintro r h3 ⟨rfl, o, p, t⟩
  have y3 := (y2.next.mark (fun b => .one (o b)) (fun n hn _ => p n hn) t).rot2
  repeat' (first
   | with_reducible refine stp ?_
   | with_reducible refine k_blk_o rfl ?_
   | with_reducible refine k_seq_n ?_
   | ((try (conv => arg 1; simp [y3.b0])); with_reducible refine evp ?_)
   | ((with_reducible refine apn ?na ?_); (case na => simp [appNames, ints, intss] <;> first | kernel_rfl | (refine ⟨?_, ?_⟩ <;> kernel_rfl)))
   | fail)
  refine st_heap rfl (markIntSS (own_of (y3.next.o0 true) rfl) y3.nodup y3.next.lts (k + c.Regs.length + c.Slots.length) (by omega) (by omega)) ?_
  rintro r h4 ⟨rfl, o, p, t⟩
  have y4 := (y3.next.mark (fun b => .one (o b)) (fun n hn _ => p n hn) t).rot3
  repeat' (first
   | with_reducible refine stp ?_
   | with_reducible refine k_blk_o rfl ?_
   | with_reducible refine k_seq_n ?_
   | ((try (conv => arg 1; simp [y4.b0])); with_reducible refine evp ?_)
   | ((with_reducible refine apn ?na ?_); (case na => simp [appNames, ints, intss] <;> first | kernel_rfl | (refine ⟨?_, ?_⟩ <;> kernel_rfl)))
   | fail)
  refine st_heap rfl (markIntS (own_of (y4.next.o0 true) rfl) y4.next.lts (k + c.Regs.length + c.Slots.length + psum c.Mem c.Mem.length) (by omega) (by omega)) ?_
  rintro r h5 ⟨rfl, o, p, t⟩
  have y5 := (y4.next.mark (fun b => .one (o b)) (fun n hn _ => p n hn) t).rot4
  repeat' (first
   | with_reducible refine stp ?_
   | with_reducible refine k_blk_o rfl ?_
   | with_reducible refine k_seq_n ?_
   | ((try (conv => arg 1; simp [y5.b0])); with_reducible refine evp ?_)
   | ((with_reducible refine apn ?na ?_); (case na => simp [appNames, ints, intss] <;> first | kernel_rfl | (refine ⟨?_, ?_⟩ <;> kernel_rfl)))
   | fail)
  refine st_heap rfl (markIntS (own_of (y5.next.o0 true) rfl) y5.next.lts (k + c.Regs.length + c.Slots.length + psum c.Mem c.Mem.length + c.Input.length) (by omega) (by omega)) ?_
  rintro r h6 ⟨rfl, o, p, t⟩
  have y6 := (y5.next.mark (fun b => .one (o b)) (fun n hn _ => p n hn) t).rot1.rot2.rot3.rot4
  repeat' (first
   | with_reducible refine stp ?_
   | with_reducible refine k_blk_o rfl ?_
   | with_reducible refine k_seq_n ?_
   | ((try (conv => arg 1; simp [y6.b0])); with_reducible refine evp ?_)
   | ((with_reducible refine apn ?na ?_); (case na => simp [appNames, ints, intss] <;> first | kernel_rfl | (refine ⟨?_, ?_⟩ <;> kernel_rfl)))
   | fail)
  refine ⟨?_, _, (Cx.box_drop (by first | exact y6 | exact y6.next)).cpu_join (c := c.marked k)⟩
  show AV.int _ _ = AV.int _ _
  congr 1
  simp only [Cpu.tot]
  omega

theorem heldIntSS (xs : List (List Int)) (k : Int) (hk : 0 ≤ k) (hl : k + wtSS xs ≤ 2 ^ 62) : Pure Try.prog 65 [intss true (marksSS k xs), .int .i64 k] (.int .i64 (k + psum xs xs.length)) := by
  intro T
  have zw : xs.length + psum xs xs.length ≤ wtSS xs ∨ psum xs xs.length ≤ wtSS xs ∧ xs.length ≤ wtSS xs := by
    right
    simp only [wtSS]
    omega
  refine enter mixed MW33 Try.func65 rfl (by kernel_rfl) rfl ?_
  repeat' (first
   | with_reducible refine stp ?_
   | with_reducible refine k_blk_o rfl ?_
   | with_reducible refine k_seq_n ?_
   | ((try (conv => arg 1; simp [intss])); with_reducible refine evp ?_)
   | ((with_reducible refine apn ?na ?_); (case na => simp [appNames, ints, intss] <;> first | kernel_rfl | (refine ⟨?_, ?_⟩ <;> kernel_rfl)))
   | fail)
  refine st_loop (fun (i : Nat) σ h => i ≤ xs.length ∧ σ 0 = intss true (marksSS k xs) ∧ σ 1 = .int .i64 (k + psum xs i) ∧ σ 5 = .int .i64 i) (fun i => xs.length - i) 0 ?init ?step
  case init =>
    simp [psum_zero]
  case step =>
    rintro i σ h ⟨hi, h0, h1, h5⟩
    repeat' (first
     | with_reducible refine stp ?_
     | with_reducible refine k_blk_o rfl ?_
     | with_reducible refine k_seq_n ?_
     | ((try (conv => arg 1; simp [intss, h0, h5, marksSS_length])); with_reducible refine evp ?_)
     | ((with_reducible refine apn ?na ?_); (case na => simp [appNames, ints, intss] <;> first | kernel_rfl | (refine ⟨?_, ?_⟩ <;> kernel_rfl)))
     | fail)
    (try with_reducible refine st_if ?_)
    (try (conv => arg 1; simp [intss]))
    (try with_reducible refine at_mk ?_)
    refine ⟨fun hb => ?_, fun hb => ?_⟩
    · have hlt : i < xs.length := by simpa using hb
      have hp := psum_succ xs i hlt
      have hp2 := psum_le xs (i + 1)
      have hw : IntKind.i64.wrap (i + 1) = i + 1 := wrap_id (by omega) (by omega)
      have hneg : ¬ k + (psum xs i : Int) + (xs[i].length : Int) < 0 := by omega
      repeat' (first
       | with_reducible refine stp ?_
       | with_reducible refine k_blk_o rfl ?_
       | with_reducible refine k_seq_n ?_
       | ((try (conv => arg 1; simp [intss, h0, h1, h5, marksSS_get k xs i hlt])); with_reducible refine evp ?_)
       | ((with_reducible refine apn ?na ?_); (case na => simp [appNames, ints, intss] <;> first | kernel_rfl | (refine ⟨?_, ?_⟩ <;> kernel_rfl)))
       | ((with_reducible refine tcl ?_); first | ((apply tg (heldIntS xs[i].length (k + psum xs i) (by omega) (by simp only [wtSS] at hl; omega))); (case e => rfl); (case d => (refine dq ?_); (repeat' (first | ((refine Da.mk ?_); first | assumption) | constructor)))))
       | fail)
      repeat' (first
       | with_reducible refine stp ?_
       | with_reducible refine k_blk_o rfl ?_
       | with_reducible refine k_seq_n ?_
       | ((try (conv => arg 1; simp [h1, h5, hw, hneg])); with_reducible refine evp ?_)
       | ((with_reducible refine apn ?na ?_); (case na => simp [appNames, ints, intss] <;> first | kernel_rfl | (refine ⟨?_, ?_⟩ <;> kernel_rfl)))
       | fail)
      refine k_lp_n (i + 1) (by omega) ⟨by omega, by simp [h0], by simp [h1, hp]; omega, by simp [h5]⟩
    · have : i = xs.length := by simp at hb; omega
      subst this
      repeat' (first
       | with_reducible refine stp ?_
       | with_reducible refine k_blk_o rfl ?_
       | with_reducible refine k_seq_n ?_
       | ((try (conv => arg 1; simp [h1])); with_reducible refine evp ?_)
       | ((with_reducible refine apn ?na ?_); (case na => simp [appNames, ints, intss] <;> first | kernel_rfl | (refine ⟨?_, ?_⟩ <;> kernel_rfl)))
       | fail)
      exact .int _ _

theorem heldCpu (c : Cpu) (hs : c.Mid) (k : Int) (hk : 0 ≤ k) (hk2 : k ≤ 2 ^ 40) :
    Pure Try.prog 34 [.agg ((c.marked k).cells true), .int .i64 k] (.int .i64 (k + c.tot)) := by
  intro T
  have z1 := hs.regs
  have z2 := hs.slots
  have z3 := hs.mem
  have z4 := hs.input
  have z5 := hs.out
  have z6 : psum c.Mem c.Mem.length ≤ wtSS c.Mem := by simp only [wtSS]; omega
  have hh := heldIntSS c.Mem (k + c.Regs.length + c.Slots.length) (by omega) (by omega)
  have a1 : ¬ k + (c.Regs.length : Int) < 0 := by omega
  have a2 : ¬ k + (c.Regs.length : Int) + c.Slots.length < 0 := by omega
  have a3 : ¬ k + (c.Regs.length : Int) + c.Slots.length + psum c.Mem c.Mem.length < 0 := by omega
  have a4 : ¬ k + (c.Regs.length : Int) + c.Slots.length + psum c.Mem c.Mem.length + c.Input.length < 0 := by omega
  have a5 : ¬ k + (c.Regs.length : Int) + c.Slots.length + psum c.Mem c.Mem.length + c.Input.length + c.Out.length < 0 := by omega
  refine enter mixed MW33 Try.func34 rfl (by kernel_rfl) rfl ?_
  repeat' (first
   | with_reducible refine stp ?_
   | with_reducible refine k_blk_o rfl ?_
   | with_reducible refine k_seq_n ?_
   | ((try (conv => arg 1; simp [Cpu.cells, Cpu.marked, a1, a2, a3, a4, a5])); with_reducible refine evp ?_)
   | ((with_reducible refine apn ?na ?_); (case na => simp [appNames, ints, intss] <;> first | kernel_rfl | (refine ⟨?_, ?_⟩ <;> kernel_rfl)))
   | ((with_reducible refine tcl ?_); first | ((apply tg (heldIntS c.Regs.length k (by omega) (by omega))); (case e => rfl); (case d => (refine dq ?_); (repeat' (first | ((refine Da.mk ?_); first | assumption) | constructor)))) | ((apply tg (heldIntS c.Slots.length (k + c.Regs.length) (by omega) (by omega))); (case e => rfl); (case d => (refine dq ?_); (repeat' (first | ((refine Da.mk ?_); first | assumption) | constructor)))) | ((apply tg (hh)); (case e => rfl); (case d => (refine dq ?_); (repeat' (first | ((refine Da.mk ?_); first | assumption) | constructor)))) | ((apply tg (heldIntS c.Input.length (k + c.Regs.length + c.Slots.length + psum c.Mem c.Mem.length) (by omega) (by omega))); (case e => rfl); (case d => (refine dq ?_); (repeat' (first | ((refine Da.mk ?_); first | assumption) | constructor)))) | ((apply tg (heldIntS c.Out.length (k + c.Regs.length + c.Slots.length + psum c.Mem c.Mem.length + c.Input.length) (by omega) (by omega))); (case e => rfl); (case d => (refine dq ?_); (repeat' (first | ((refine Da.mk ?_); first | assumption) | constructor)))))
   | fail)
  refine dr_int ?_
  simp only [Cpu.tot]
  omega
end Go.Proofs.Ytfgaoojogididaa.AM

/-
  Arguments that are whole numbers, and slices of them.
-/
set_option linter.unusedVariables false
namespace Go.Proofs.Ytfgaoojogididaa.AM
open Go.RowKit

theorem av_oneX {P : Program} {t : TypeId} {d : TypeDesc} (h : P.underlying t = some d) (hd : (match d with | .struct _ => false | _ => true) = true) (c : AV) : avOf P t [c] = c := by
  unfold avOf
  rw [h]
  cases d <;> first | rfl | cases hd
theorem av3 (c : AV) : avOf Try.prog 3 [c] = c := av_oneX und_3 rfl c
theorem av22 (c : AV) : avOf Try.prog 22 [c] = c := av_oneX und_22 rfl c
end Go.Proofs.Ytfgaoojogididaa.AM

/-
  A stepper at first: sizes.
-/
set_option linter.unusedVariables false
set_option linter.unusedSimpArgs false
set_option maxRecDepth 4000
namespace Go.Proofs.Ytfgaoojogididaa.AM
open Go.RowKit

theorem Cpu.Mid.tot' {c : Cpu} (h : c.Mid) : 0 ≤ c.tot ∧ c.tot ≤ 2 ^ 40 := by
  have := h.regs; have := h.slots; have z := h.mem; have := h.input; have := h.out
  have : psum c.Mem c.Mem.length ≤ wtSS c.Mem := by simp only [wtSS]; omega
  unfold Cpu.tot
  omega
theorem psum_cons' (x : List Int) (l : List (List Int)) : psum (x :: l) (l.length + 1) = x.length + psum l l.length := by
  simp [psum]
theorem wt_mem0 : ∀ l : List Int, (∀ n ∈ l, n ≤ 16) → wtSS (mem0 l) ≤ l.length * 40
  | [], _ => by simp [mem0, wtSS, psum]
  | n :: l, h => by
    have := wt_mem0 l fun x hx => h x (by simp [hx])
    have h1 := h n (by simp)
    have e := psum_cons' (zeros n.toNat) (mem0 l)
    have hz : (zeros n.toNat).length = n.toNat := by simp [zeros]
    have e2 : mem0 (n :: l) = zeros n.toNat :: mem0 l := rfl
    unfold wtSS at this ⊢
    rw [e2, List.length_cons, List.length_cons, e, hz]
    omega
theorem newR_mid (m : Image) (A I : List Int) : (newR m A I).1.Mid := by
  unfold newR
  split
  · rename_i h
    have hr := start_run h
    simp only [argsOk, Bool.and_eq_true, decide_eq_true_eq] at h
    obtain ⟨⟨h1, h2⟩, h3⟩ := h
    have hc := imageOk_code h1
    have hw := wt_mem0 m.Sizes fun n hn => (hc.2.2.2.2.2.2.2.2.1 n hn).2
    have hs := hr.good.slots
    exact ⟨by simp [startC, zeros], by dsimp only; omega, by show wtSS (mem0 m.Sizes) ≤ _; omega, by show I.length ≤ _; omega, by simp [startC]⟩
  · exact ⟨by simp [zeroCpu], by simp [zeroCpu], by simp [zeroCpu, wtSS, psum], by simp [zeroCpu], by simp [zeroCpu]⟩
end Go.Proofs.Ytfgaoojogididaa.AM

/-
  The law of CpuNew.
-/
set_option linter.unusedVariables false
set_option linter.unusedSimpArgs false
set_option maxRecDepth 4000
namespace Go.Proofs.Ytfgaoojogididaa.AM
open Go.RowKit

private def MLCpuNew : FuncId → Mode := fun f => if f = 14 ∨ f = 23 ∨ f = 27 ∨ f = 31 then .fresh else if f = 18 ∨ f = 32 ∨ f = 33 ∨ f = 19 then .heap else .tree

set_option maxHeartbeats 2000000 in
theorem lawCpuNew (m : Image) (aa : List Int) (bb : List Int) (d_m : m.Data) (d_aa : aa.length ≤ maxLen) (d_bb : bb.length ≤ maxLen) : Sound Try.prog 6 [.agg (m.cells true), ints true aa, ints true bb] (.mt 0) fun v _ => v = .bool true := by
  have hnil : True := trivial
  refine enter mixed MLCpuNew Try.func6 rfl (by kernel_rfl) rfl ?_
  repeat' (first
   | with_reducible refine stp ?_
   | with_reducible refine k_blk_o rfl ?_
   | ((try (conv => arg 1; simp [Image.cells])); with_reducible refine evp ?_)
   | ((with_reducible refine apn ?na ?_); (case na => simp [appNames, ints, intss] <;> first | kernel_rfl | (refine ⟨?_, ?_⟩ <;> kernel_rfl)))
   | fail)
  refine cx_k Cx.mt_box ?_
  intro h1 x1
  repeat' (first
   | with_reducible refine stp ?_
   | with_reducible refine k_blk_o rfl ?_
   | ((try (conv => arg 1; simp [hnil])); with_reducible refine evp ?_)
   | ((with_reducible refine apn ?na ?_); (case na => simp [appNames, ints, intss] <;> first | kernel_rfl | (refine ⟨?_, ?_⟩ <;> kernel_rfl)))
   | fail)
  refine cx_k x1.next ?_
  intro h2 x2
  by_cases hl_aa : (1048576 : Int) < (aa.length : Int)
  · skip
    repeat' (first
     | with_reducible refine stp ?_
     | with_reducible refine k_blk_o rfl ?_
     | with_reducible refine k_seq_n ?_
     | ((try (conv => arg 1; simp [hl_aa])); with_reducible refine evp ?_)
     | ((with_reducible refine apn ?na ?_); (case na => simp [appNames, ints, intss] <;> first | kernel_rfl | (refine ⟨?_, ?_⟩ <;> kernel_rfl)))
     | fail)
    rfl
  have hq_aa := hl_aa
  repeat' (first
   | with_reducible refine stp ?_
   | with_reducible refine k_blk_o rfl ?_
   | ((try (conv => arg 1; simp [hl_aa])); with_reducible refine evp ?_)
   | ((with_reducible refine apn ?na ?_); (case na => simp [appNames, ints, intss] <;> first | kernel_rfl | (refine ⟨?_, ?_⟩ <;> kernel_rfl)))
   | fail)
  refine k_seq_n ?_
  replace hl_aa : aa.length ≤ 2 ^ 20 := by omega
  repeat' (first
   | with_reducible refine stp ?_
   | with_reducible refine k_blk_o rfl ?_
   | ((try (conv => arg 1; simp [hnil])); with_reducible refine evp ?_)
   | ((with_reducible refine apn ?na ?_); (case na => simp [appNames, ints, intss] <;> first | kernel_rfl | (refine ⟨?_, ?_⟩ <;> kernel_rfl)))
   | fail)
  refine cx_k x2.next ?_
  intro h3 x3
  by_cases hl_bb : (1048576 : Int) < (bb.length : Int)
  · skip
    repeat' (first
     | with_reducible refine stp ?_
     | with_reducible refine k_blk_o rfl ?_
     | with_reducible refine k_seq_n ?_
     | ((try (conv => arg 1; simp [hl_bb])); with_reducible refine evp ?_)
     | ((with_reducible refine apn ?na ?_); (case na => simp [appNames, ints, intss] <;> first | kernel_rfl | (refine ⟨?_, ?_⟩ <;> kernel_rfl)))
     | fail)
    rfl
  have hq_bb := hl_bb
  repeat' (first
   | with_reducible refine stp ?_
   | with_reducible refine k_blk_o rfl ?_
   | ((try (conv => arg 1; simp [hl_bb])); with_reducible refine evp ?_)
   | ((with_reducible refine apn ?na ?_); (case na => simp [appNames, ints, intss] <;> first | kernel_rfl | (refine ⟨?_, ?_⟩ <;> kernel_rfl)))
   | fail)
  refine k_seq_n ?_
  replace hl_bb : bb.length ≤ 2 ^ 20 := by omega
  repeat' (first
   | with_reducible refine stp ?_
   | with_reducible refine k_blk_o rfl ?_
   | ((try (conv => arg 1; simp [hnil])); with_reducible refine evp ?_)
   | ((with_reducible refine apn ?na ?_); (case na => simp [appNames, ints, intss] <;> first | kernel_rfl | (refine ⟨?_, ?_⟩ <;> kernel_rfl)))
   | fail)
  refine cx_k x3.next ?_
  intro h4 x4
  obtain ⟨r1, hr_m, hs_m⟩ := szImage m 1048576 (by omega) (by omega) d_m.sizes d_m.code
  repeat' (first
   | with_reducible refine stp ?_
   | with_reducible refine k_blk_o rfl ?_
   | ((try (conv => arg 1; simp [x4.b0])); with_reducible refine evp ?_)
   | ((with_reducible refine apn ?na ?_); (case na => simp [appNames, ints, intss] <;> first | kernel_rfl | (refine ⟨?_, ?_⟩ <;> kernel_rfl)))
   | fail)
  refine st_tree rfl (hr_m) (.cons (dr_agg (drs_image m fun h => h)) (.cons (.int _ _) .nil)) ?_
  repeat' (first
   | with_reducible refine stp ?_
   | with_reducible refine k_blk_o rfl ?_
   | ((try (conv => arg 1; simp [x4.b0])); with_reducible refine evp ?_)
   | ((with_reducible refine apn ?na ?_); (case na => simp [appNames, ints, intss] <;> first | kernel_rfl | (refine ⟨?_, ?_⟩ <;> kernel_rfl)))
   | fail)
  refine cx_k x4.next ?_
  intro h5 x5
  repeat' (first
   | with_reducible refine stp ?_
   | with_reducible refine k_blk_o rfl ?_
   | ((try (conv => arg 1; simp [hnil])); with_reducible refine evp ?_)
   | ((with_reducible refine apn ?na ?_); (case na => simp [appNames, ints, intss] <;> first | kernel_rfl | (refine ⟨?_, ?_⟩ <;> kernel_rfl)))
   | fail)
  refine cx_k x5.next ?_
  intro h6 x6
  by_cases hneg : r1 < 0
  · skip
    repeat' (first
     | with_reducible refine stp ?_
     | with_reducible refine k_blk_o rfl ?_
     | with_reducible refine k_seq_n ?_
     | ((try (conv => arg 1; simp [hneg])); with_reducible refine evp ?_)
     | ((with_reducible refine apn ?na ?_); (case na => simp [appNames, ints, intss] <;> first | kernel_rfl | (refine ⟨?_, ?_⟩ <;> kernel_rfl)))
     | fail)
    rfl
  repeat' (first
   | with_reducible refine stp ?_
   | with_reducible refine k_blk_o rfl ?_
   | ((try (conv => arg 1; simp [hneg])); with_reducible refine evp ?_)
   | ((with_reducible refine apn ?na ?_); (case na => simp [appNames, ints, intss] <;> first | kernel_rfl | (refine ⟨?_, ?_⟩ <;> kernel_rfl)))
   | fail)
  refine k_seq_n ?_
  replace hs_m := hs_m.resolve_left hneg
  obtain ⟨hs_m, hg1_m, hg2_m⟩ := hs_m
  have S := (specCpuNew m aa bb (by have := hs_m.sizes; omega) (by have := hs_m.code; omega) (by omega) (by omega)).pure
  have I := implCpuNew m aa bb (by have := hs_m.sizes; omega) (by have := hs_m.code; omega) (by omega) (by omega)
  have hr := newR_mid m aa bb
  generalize hRB : newR m aa bb = RB at S I hr
  obtain ⟨R, B⟩ := RB
  dsimp only at S I hr
  have ⟨ht1, ht2⟩ := hr.tot'
  repeat' (first
   | with_reducible refine stp ?_
   | with_reducible refine k_blk_o rfl ?_
   | ((try (conv => arg 1; simp [x6.b0])); with_reducible refine evp ?_)
   | ((with_reducible refine apn ?na ?_); (case na => simp [appNames, ints, intss] <;> first | kernel_rfl | (refine ⟨?_, ?_⟩ <;> kernel_rfl)))
   | fail)
  refine st_fresh rfl (toImage m hs_m) (.cons (dr_agg (drs_image m fun h => h)) .nil) ?_
  intro v1 h7 n1 o1 e1 f1 p1 t1
  have x7 := x6.next.fresh o1 e1 f1 p1 t1
  have z7 : h6.tick < h7.tick := by simp only [hp_next_tick] at t1; omega
  obtain ⟨wa1, wb1, _, _, rfl, _, qa1, qb1⟩ := ownV_image (o1 true)
  have qa1 := own_one qa1
  have qb1 := own_one' qb1
  repeat' (first
   | with_reducible refine stp ?_
   | with_reducible refine k_blk_o rfl ?_
   | ((try (conv => arg 1; simp [x7.b0, z7, qa1.1, qb1.1])); with_reducible refine evp ?_)
   | ((with_reducible refine apn ?na ?_); (case na => simp [appNames, ints, intss] <;> first | kernel_rfl | (refine ⟨?_, ?_⟩ <;> kernel_rfl)))
   | fail)
  refine st_fresh rfl (toIntS aa hl_aa) (.cons (dr_ints (fun h => h) _) .nil) ?_
  intro v2 h8 n2 o2 e2 f2 p2 t2
  have x8 := x7.fresh o2 e2 f2 p2 t2
  have z8 : h6.tick < h8.tick := by omega
  repeat' (first
   | with_reducible refine stp ?_
   | with_reducible refine k_blk_o rfl ?_
   | ((try (conv => arg 1; simp [x8.b0, z8])); with_reducible refine evp ?_)
   | ((with_reducible refine apn ?na ?_); (case na => simp [appNames, ints, intss] <;> first | kernel_rfl | (refine ⟨?_, ?_⟩ <;> kernel_rfl)))
   | fail)
  refine st_fresh rfl (toIntS bb hl_bb) (.cons (dr_ints (fun h => h) _) .nil) ?_
  intro v3 h9 n3 o3 e3 f3 p3 t3
  have x9 := x8.fresh o3 e3 f3 p3 t3
  have z9 : h6.tick < h9.tick := by omega
  repeat' (first
   | with_reducible refine stp ?_
   | with_reducible refine k_blk_o rfl ?_
   | ((try (conv => arg 1; simp [x9.b0, z9])); with_reducible refine evp ?_)
   | ((with_reducible refine apn ?na ?_); (case na => simp [appNames, ints, intss] <;> first | kernel_rfl | (refine ⟨?_, ?_⟩ <;> kernel_rfl)))
   | fail)
  refine st_tree rfl (S) (.cons ((x9.o2 true).dr) (.cons ((x9.o1 true).dr) (.cons ((x9.o0 true).dr) .nil))) ?_
  repeat' (first
   | with_reducible refine stp ?_
   | with_reducible refine k_blk_o rfl ?_
   | ((try (conv => arg 1; simp [x9.b0, z9, Cpu.cells])); with_reducible refine evp ?_)
   | ((with_reducible refine apn ?na ?_); (case na => simp [appNames, ints, intss] <;> first | kernel_rfl | (refine ⟨?_, ?_⟩ <;> kernel_rfl)))
   | fail)
  refine cx_k (x9.box_new (((x6.off.fresh f1 (by simp [hp_next_tick])).fresh f2 z7).fresh f3 z8) z9) ?_
  intro h10 x10
  repeat' (first
   | with_reducible refine stp ?_
   | with_reducible refine k_blk_o rfl ?_
   | ((try (conv => arg 1; simp [x10.b1])); with_reducible refine evp ?_)
   | ((with_reducible refine apn ?na ?_); (case na => simp [appNames, ints, intss] <;> first | kernel_rfl | (refine ⟨?_, ?_⟩ <;> kernel_rfl)))
   | fail)
  refine st_fresh rfl (toImage m hs_m) (.cons (dr_agg (drs_image m fun h => h)) .nil) ?_
  intro v4 h11 n4 o4 e4 f4 p4 t4
  have x11 := x10.next.fresh o4 e4 f4 p4 t4
  have z11 : h10.tick < h11.tick := by simp only [hp_next_tick] at t4; omega
  obtain ⟨wa4, wb4, _, _, rfl, _, qa4, qb4⟩ := ownV_image (o4 true)
  have qa4 := own_one qa4
  have qb4 := own_one' qb4
  repeat' (first
   | with_reducible refine stp ?_
   | with_reducible refine k_blk_o rfl ?_
   | ((try (conv => arg 1; simp [x11.b1, z11, qa4.1, qb4.1])); with_reducible refine evp ?_)
   | ((with_reducible refine apn ?na ?_); (case na => simp [appNames, ints, intss] <;> first | kernel_rfl | (refine ⟨?_, ?_⟩ <;> kernel_rfl)))
   | fail)
  refine cx_k (x11.box_new (x10.off.fresh f4 (by simp [hp_next_tick])) z11) ?_
  intro h12 x12
  repeat' (first
   | with_reducible refine stp ?_
   | with_reducible refine k_blk_o rfl ?_
   | ((try (conv => arg 1; simp [hnil])); with_reducible refine evp ?_)
   | ((with_reducible refine apn ?na ?_); (case na => simp [appNames, ints, intss] <;> first | kernel_rfl | (refine ⟨?_, ?_⟩ <;> kernel_rfl)))
   | fail)
  refine st_fresh rfl (toIntS aa hl_aa) (.cons (dr_ints (fun h => h) _) .nil) ?_
  intro v5 h13 n5 o5 e5 f5 p5 t5
  have x13 := x12.next.fresh o5 e5 f5 p5 t5
  have z13 : h12.tick < h13.tick := by simp only [hp_next_tick] at t5; omega
  repeat' (first
   | with_reducible refine stp ?_
   | with_reducible refine k_blk_o rfl ?_
   | ((try (conv => arg 1; simp [z13])); with_reducible refine evp ?_)
   | ((with_reducible refine apn ?na ?_); (case na => simp [appNames, ints, intss] <;> first | kernel_rfl | (refine ⟨?_, ?_⟩ <;> kernel_rfl)))
   | fail)
  refine cx_k x13 ?_
  intro h14 x14
  repeat' (first
   | with_reducible refine stp ?_
   | with_reducible refine k_blk_o rfl ?_
   | ((try (conv => arg 1; simp [hnil])); with_reducible refine evp ?_)
   | ((with_reducible refine apn ?na ?_); (case na => simp [appNames, ints, intss] <;> first | kernel_rfl | (refine ⟨?_, ?_⟩ <;> kernel_rfl)))
   | fail)
  refine st_fresh rfl (toIntS bb hl_bb) (.cons (dr_ints (fun h => h) _) .nil) ?_
  intro v6 h15 n6 o6 e6 f6 p6 t6
  have x15 := x14.next.fresh o6 e6 f6 p6 t6
  have z15 : h14.tick < h15.tick := by simp only [hp_next_tick] at t6; omega
  repeat' (first
   | with_reducible refine stp ?_
   | with_reducible refine k_blk_o rfl ?_
   | ((try (conv => arg 1; simp [z15])); with_reducible refine evp ?_)
   | ((with_reducible refine apn ?na ?_); (case na => simp [appNames, ints, intss] <;> first | kernel_rfl | (refine ⟨?_, ?_⟩ <;> kernel_rfl)))
   | fail)
  refine cx_k x15 ?_
  intro h16 x16
  repeat' (first
   | with_reducible refine stp ?_
   | with_reducible refine k_blk_o rfl ?_
   | ((try (conv => arg 1; simp [x16.b0, qa4.1, qb4.1])); with_reducible refine evp ?_)
   | ((with_reducible refine apn ?na ?_); (case na => simp [appNames, ints, intss] <;> first | kernel_rfl | (refine ⟨?_, ?_⟩ <;> kernel_rfl)))
   | fail)
  refine st_freshw rfl I (.cons ((x16.next.o2 true).dr) (.cons ((x16.next.o1 true).dr) (.cons ((x16.next.o0 true).dr) .nil))) ?_
  intro v7 h17 n7 o7 e7 f7 p7 t7
  obtain ⟨v7, rfl, ow7⟩ := ownV_pair o7
  clear o7
  have o7 := ow7
  have x17 := x16.next.fresh o7 e7 f7 p7 t7
  have z17 : h16.tick < h17.tick := by simp only [hp_next_tick] at t7; omega
  obtain ⟨wa7, wb7, wc7, wd7, we7, _, _, _, _, _, rfl, _, qa7, qb7, qc7, qd7, qe7⟩ := ownV_cpu (o7 true)
  have qa7 := own_one qa7
  have qb7 := own_one qb7
  have qc7 := own_one qc7
  have qd7 := own_one qd7
  have qe7 := own_one qe7
  repeat' (first
   | with_reducible refine stp ?_
   | with_reducible refine k_blk_o rfl ?_
   | ((try (conv => arg 1; simp [x17.b0, qa4.1, qb4.1, z17, qa7.1, qb7.1, qc7.1, qd7.1, qe7.1])); with_reducible refine evp ?_)
   | ((with_reducible refine apn ?na ?_); (case na => simp [appNames, ints, intss] <;> first | kernel_rfl | (refine ⟨?_, ?_⟩ <;> kernel_rfl)))
   | fail)
  refine cx_k (x17.box_new (x16.off.fresh f7 (by simp [hp_next_tick])) z17) ?_
  intro h18 x18
  repeat' (first
   | with_reducible refine stp ?_
   | with_reducible refine k_blk_o rfl ?_
   | ((try (conv => arg 1; simp [x18.b0, x18.b2, qa7.1, qb7.1, qc7.1, qd7.1, qe7.1])); with_reducible refine evp ?_)
   | ((with_reducible refine apn ?na ?_); (case na => simp [appNames, ints, intss] <;> first | kernel_rfl | (refine ⟨?_, ?_⟩ <;> kernel_rfl)))
   | fail)
  refine st_tree rfl (eqCpuM R hr) (.cons ((x18.next.o0 true).dr) (.cons (dr_agg (drs_cpu R (by simp))) .nil)) ?_
  repeat' (first
   | with_reducible refine stp ?_
   | with_reducible refine k_blk_o rfl ?_
   | ((try (conv => arg 1; simp [x18.b0, x18.b2, qa7.1, qb7.1, qc7.1, qd7.1, qe7.1])); with_reducible refine evp ?_)
   | ((with_reducible refine apn ?na ?_); (case na => simp [appNames, ints, intss] <;> first | kernel_rfl | (refine ⟨?_, ?_⟩ <;> kernel_rfl)))
   | fail)
  refine cx_k x18.next ?_
  intro h19 x19
  repeat' (first
   | with_reducible refine stp ?_
   | with_reducible refine k_blk_o rfl ?_
   | ((try (conv => arg 1; simp [hnil])); with_reducible refine evp ?_)
   | ((with_reducible refine apn ?na ?_); (case na => simp [appNames, ints, intss] <;> first | kernel_rfl | (refine ⟨?_, ?_⟩ <;> kernel_rfl)))
   | fail)
  refine k_seq_n ?_
  repeat' (first
   | with_reducible refine stp ?_
   | with_reducible refine k_blk_o rfl ?_
   | ((try (conv => arg 1; simp [hnil])); with_reducible refine evp ?_)
   | ((with_reducible refine apn ?na ?_); (case na => simp [appNames, ints, intss] <;> first | kernel_rfl | (refine ⟨?_, ?_⟩ <;> kernel_rfl)))
   | fail)
  repeat (with_reducible first | refine stp ?_ | refine k_seq_n ?_)
  refine st_draw 5 (fun _ => false) (by kernel_rfl) ?_
  simp only [List.take_succ_cons, List.take_zero, List.drop_succ_cons, List.drop_zero, List.take_nil, List.drop_nil]
  repeat' (first
   | with_reducible refine stp ?_
   | with_reducible refine k_blk_o rfl ?_
   | ((try (conv => arg 1; simp [x19.b1, x19.b3, x19.l1, x19.l3, qa4.1, qb4.1])); with_reducible refine evp ?_)
   | ((with_reducible refine apn ?na ?_); (case na => simp [appNames, ints, intss] <;> first | kernel_rfl | (refine ⟨?_, ?_⟩ <;> kernel_rfl)))
   | fail)
  refine treeW_pure (toImage m hs_m).pure (.cons (dr_agg (drs_image m fun h => h)) .nil) ?_
  repeat' (first
   | with_reducible refine stp ?_
   | with_reducible refine k_blk_o rfl ?_
   | ((try (conv => arg 1; simp [x19.b1, x19.b3, x19.l1, x19.l3, qa4.1, qb4.1])); with_reducible refine evp ?_)
   | ((with_reducible refine apn ?na ?_); (case na => simp [appNames, ints, intss] <;> first | kernel_rfl | (refine ⟨?_, ?_⟩ <;> kernel_rfl)))
   | fail)
  refine treeW_pure (eqImage m hs_m) (.cons ((x19.m3 true).dr) (.cons (dr_agg (drs_image m (by simp))) .nil)) ?_
  repeat' (first
   | with_reducible refine stp ?_
   | with_reducible refine k_blk_o rfl ?_
   | ((try (conv => arg 1; simp [x19.b1, x19.b3, x19.l1, x19.l3, qa4.1, qb4.1])); with_reducible refine evp ?_)
   | ((with_reducible refine apn ?na ?_); (case na => simp [appNames, ints, intss] <;> first | kernel_rfl | (refine ⟨?_, ?_⟩ <;> kernel_rfl)))
   | fail)
  refine cx_k x19.next ?_
  intro h20 x20
  repeat' (first
   | with_reducible refine stp ?_
   | with_reducible refine k_blk_o rfl ?_
   | ((try (conv => arg 1; simp [hnil])); with_reducible refine evp ?_)
   | ((with_reducible refine apn ?na ?_); (case na => simp [appNames, ints, intss] <;> first | kernel_rfl | (refine ⟨?_, ?_⟩ <;> kernel_rfl)))
   | fail)
  refine k_seq_n ?_
  repeat' (first
   | with_reducible refine stp ?_
   | with_reducible refine k_blk_o rfl ?_
   | ((try (conv => arg 1; simp [hnil])); with_reducible refine evp ?_)
   | ((with_reducible refine apn ?na ?_); (case na => simp [appNames, ints, intss] <;> first | kernel_rfl | (refine ⟨?_, ?_⟩ <;> kernel_rfl)))
   | fail)
  refine st_fresh rfl (toIntS aa hl_aa) (.cons (dr_ints (fun h => h) _) .nil) ?_
  intro v8 h21 n8 o8 e8 f8 p8 t8
  have x21 := x20.next.fresh o8 e8 f8 p8 t8
  have z21 : h20.tick < h21.tick := by simp only [hp_next_tick] at t8; omega
  repeat' (first
   | with_reducible refine stp ?_
   | with_reducible refine k_blk_o rfl ?_
   | ((try (conv => arg 1; simp [z21])); with_reducible refine evp ?_)
   | ((with_reducible refine apn ?na ?_); (case na => simp [appNames, ints, intss] <;> first | kernel_rfl | (refine ⟨?_, ?_⟩ <;> kernel_rfl)))
   | fail)
  refine st_tree rfl (eqIntS aa (by omega)) (.cons ((x21.o3 true).dr) (.cons ((x21.o0 true).dr) .nil)) ?_
  repeat' (first
   | with_reducible refine stp ?_
   | with_reducible refine k_blk_o rfl ?_
   | ((try (conv => arg 1; simp [z21])); with_reducible refine evp ?_)
   | ((with_reducible refine apn ?na ?_); (case na => simp [appNames, ints, intss] <;> first | kernel_rfl | (refine ⟨?_, ?_⟩ <;> kernel_rfl)))
   | fail)
  refine cx_k x21 ?_
  intro h22 x22
  repeat' (first
   | with_reducible refine stp ?_
   | with_reducible refine k_blk_o rfl ?_
   | ((try (conv => arg 1; simp [hnil])); with_reducible refine evp ?_)
   | ((with_reducible refine apn ?na ?_); (case na => simp [appNames, ints, intss] <;> first | kernel_rfl | (refine ⟨?_, ?_⟩ <;> kernel_rfl)))
   | fail)
  refine k_seq_n ?_
  repeat' (first
   | with_reducible refine stp ?_
   | with_reducible refine k_blk_o rfl ?_
   | ((try (conv => arg 1; simp [hnil])); with_reducible refine evp ?_)
   | ((with_reducible refine apn ?na ?_); (case na => simp [appNames, ints, intss] <;> first | kernel_rfl | (refine ⟨?_, ?_⟩ <;> kernel_rfl)))
   | fail)
  refine st_fresh rfl (toIntS bb hl_bb) (.cons (dr_ints (fun h => h) _) .nil) ?_
  intro v9 h23 n9 o9 e9 f9 p9 t9
  have x23 := x22.next.fresh o9 e9 f9 p9 t9
  have z23 : h22.tick < h23.tick := by simp only [hp_next_tick] at t9; omega
  repeat' (first
   | with_reducible refine stp ?_
   | with_reducible refine k_blk_o rfl ?_
   | ((try (conv => arg 1; simp [z23])); with_reducible refine evp ?_)
   | ((with_reducible refine apn ?na ?_); (case na => simp [appNames, ints, intss] <;> first | kernel_rfl | (refine ⟨?_, ?_⟩ <;> kernel_rfl)))
   | fail)
  refine st_tree rfl (eqIntS bb (by omega)) (.cons ((x23.o3 true).dr) (.cons ((x23.o0 true).dr) .nil)) ?_
  repeat' (first
   | with_reducible refine stp ?_
   | with_reducible refine k_blk_o rfl ?_
   | ((try (conv => arg 1; simp [z23])); with_reducible refine evp ?_)
   | ((with_reducible refine apn ?na ?_); (case na => simp [appNames, ints, intss] <;> first | kernel_rfl | (refine ⟨?_, ?_⟩ <;> kernel_rfl)))
   | fail)
  refine cx_k x23 ?_
  intro h24 x24
  repeat' (first
   | with_reducible refine stp ?_
   | with_reducible refine k_blk_o rfl ?_
   | ((try (conv => arg 1; simp [hnil])); with_reducible refine evp ?_)
   | ((with_reducible refine apn ?na ?_); (case na => simp [appNames, ints, intss] <;> first | kernel_rfl | (refine ⟨?_, ?_⟩ <;> kernel_rfl)))
   | fail)
  refine k_seq_n ?_
  repeat' (first
   | with_reducible refine stp ?_
   | with_reducible refine k_blk_o rfl ?_
   | ((try (conv => arg 1; simp [hnil])); with_reducible refine evp ?_)
   | ((with_reducible refine apn ?na ?_); (case na => simp [appNames, ints, intss] <;> first | kernel_rfl | (refine ⟨?_, ?_⟩ <;> kernel_rfl)))
   | fail)
  refine cx_k x24.next ?_
  intro h25 x25
  repeat' (first
   | with_reducible refine stp ?_
   | with_reducible refine k_blk_o rfl ?_
   | ((try (conv => arg 1; simp [x25.b1, qa4.1, qb4.1])); with_reducible refine evp ?_)
   | ((with_reducible refine apn ?na ?_); (case na => simp [appNames, ints, intss] <;> first | kernel_rfl | (refine ⟨?_, ?_⟩ <;> kernel_rfl)))
   | fail)
  have y1 := x25.next.rot5
  refine st_heap rfl (markImage (y1.o0 true) y1.nodup y1.lts hs_m (1) (by omega) (by omega)) ?_
  rintro r h26 ⟨⟨k1, rfl, hk1, hk1'⟩, pk1, tk1⟩
  have x26 := y1.forget pk1 tk1
  repeat' (first
   | with_reducible refine stp ?_
   | with_reducible refine k_blk_o rfl ?_
   | ((try (conv => arg 1; simp [x26.b1, qa4.1, qb4.1])); with_reducible refine evp ?_)
   | ((with_reducible refine apn ?na ?_); (case na => simp [appNames, ints, intss] <;> first | kernel_rfl | (refine ⟨?_, ?_⟩ <;> kernel_rfl)))
   | fail)
  refine cx_k x26 ?_
  intro h27 x27
  repeat' (first
   | with_reducible refine stp ?_
   | with_reducible refine k_blk_o rfl ?_
   | ((try (conv => arg 1; simp [hnil])); with_reducible refine evp ?_)
   | ((with_reducible refine apn ?na ?_); (case na => simp [appNames, ints, intss] <;> first | kernel_rfl | (refine ⟨?_, ?_⟩ <;> kernel_rfl)))
   | fail)
  have y2 := x27.next.rot4
  refine st_heap rfl (markIntS (own_of (y2.o0 true) rfl) y2.lts (k1) (by omega) (by omega)) ?_
  rintro r h28 ⟨rfl, _, pk2, tk2⟩
  have x28 := y2.forget (fun n a _ => pk2 n a) tk2
  repeat' (first
   | with_reducible refine stp ?_
   | with_reducible refine k_blk_o rfl ?_
   | ((try (conv => arg 1; simp [hnil])); with_reducible refine evp ?_)
   | ((with_reducible refine apn ?na ?_); (case na => simp [appNames, ints, intss] <;> first | kernel_rfl | (refine ⟨?_, ?_⟩ <;> kernel_rfl)))
   | fail)
  refine cx_k x28 ?_
  intro h29 x29
  repeat' (first
   | with_reducible refine stp ?_
   | with_reducible refine k_blk_o rfl ?_
   | ((try (conv => arg 1; simp [hnil])); with_reducible refine evp ?_)
   | ((with_reducible refine apn ?na ?_); (case na => simp [appNames, ints, intss] <;> first | kernel_rfl | (refine ⟨?_, ?_⟩ <;> kernel_rfl)))
   | fail)
  have y3 := x29.next.rot3
  refine st_heap rfl (markIntS (own_of (y3.o0 true) rfl) y3.lts (k1 + (aa.length : Int)) (by omega) (by omega)) ?_
  rintro r h30 ⟨rfl, _, pk3, tk3⟩
  have x30 := y3.forget (fun n a _ => pk3 n a) tk3
  repeat' (first
   | with_reducible refine stp ?_
   | with_reducible refine k_blk_o rfl ?_
   | ((try (conv => arg 1; simp [hnil])); with_reducible refine evp ?_)
   | ((with_reducible refine apn ?na ?_); (case na => simp [appNames, ints, intss] <;> first | kernel_rfl | (refine ⟨?_, ?_⟩ <;> kernel_rfl)))
   | fail)
  refine cx_k x30 ?_
  intro h31 x31
  have hkneg : ¬ k1 + (aa.length : Int) + (bb.length : Int) < 0 := by omega
  repeat' (first
   | with_reducible refine stp ?_
   | with_reducible refine k_blk_o rfl ?_
   | ((try (conv => arg 1; simp [x31.b0, x31.b2, qa7.1, qb7.1, qc7.1, qd7.1, qe7.1, hkneg])); with_reducible refine evp ?_)
   | ((with_reducible refine apn ?na ?_); (case na => simp [appNames, ints, intss] <;> first | kernel_rfl | (refine ⟨?_, ?_⟩ <;> kernel_rfl)))
   | fail)
  refine st_tree rfl (eqCpuM R hr) (.cons ((x31.next.o2 true).dr) (.cons (dr_agg (drs_cpu R (by simp))) .nil)) ?_
  repeat' (first
   | with_reducible refine stp ?_
   | with_reducible refine k_blk_o rfl ?_
   | ((try (conv => arg 1; simp [x31.b0, x31.b2, qa7.1, qb7.1, qc7.1, qd7.1, qe7.1, hkneg])); with_reducible refine evp ?_)
   | ((with_reducible refine apn ?na ?_); (case na => simp [appNames, ints, intss] <;> first | kernel_rfl | (refine ⟨?_, ?_⟩ <;> kernel_rfl)))
   | fail)
  refine cx_k x31.next ?_
  intro h32 x32
  repeat' (first
   | with_reducible refine stp ?_
   | with_reducible refine k_blk_o rfl ?_
   | ((try (conv => arg 1; simp [hkneg])); with_reducible refine evp ?_)
   | ((with_reducible refine apn ?na ?_); (case na => simp [appNames, ints, intss] <;> first | kernel_rfl | (refine ⟨?_, ?_⟩ <;> kernel_rfl)))
   | fail)
  refine k_seq_n ?_
  repeat' (first
   | with_reducible refine stp ?_
   | with_reducible refine k_blk_o rfl ?_
   | ((try (conv => arg 1; simp [hkneg])); with_reducible refine evp ?_)
   | ((with_reducible refine apn ?na ?_); (case na => simp [appNames, ints, intss] <;> first | kernel_rfl | (refine ⟨?_, ?_⟩ <;> kernel_rfl)))
   | fail)
  refine cx_k x32.next ?_
  intro h33 x33
  repeat' (first
   | with_reducible refine stp ?_
   | with_reducible refine k_blk_o rfl ?_
   | ((try (conv => arg 1; simp [x33.b0, qa7.1, qb7.1, qc7.1, qd7.1, qe7.1, hkneg])); with_reducible refine evp ?_)
   | ((with_reducible refine apn ?na ?_); (case na => simp [appNames, ints, intss] <;> first | kernel_rfl | (refine ⟨?_, ?_⟩ <;> kernel_rfl)))
   | fail)
  have y4 := x33.next.rot2
  refine st_heap rfl (markCpuX y4 hr 1 (by omega) (by omega)) ?_
  rintro r h34 ⟨rfl, ng, x34⟩
  have hgneg : ¬ 1 + R.tot < 0 := by omega
  repeat' (first
   | with_reducible refine stp ?_
   | with_reducible refine k_blk_o rfl ?_
   | ((try (conv => arg 1; simp [x34.b0, qa7.1, qb7.1, qc7.1, qd7.1, qe7.1, hkneg, hgneg])); with_reducible refine evp ?_)
   | ((with_reducible refine apn ?na ?_); (case na => simp [appNames, ints, intss] <;> first | kernel_rfl | (refine ⟨?_, ?_⟩ <;> kernel_rfl)))
   | fail)
  refine cx_k x34 ?_
  intro h35 x35
  repeat' (first
   | with_reducible refine stp ?_
   | with_reducible refine k_blk_o rfl ?_
   | ((try (conv => arg 1; simp [hkneg, hgneg])); with_reducible refine evp ?_)
   | ((with_reducible refine apn ?na ?_); (case na => simp [appNames, ints, intss] <;> first | kernel_rfl | (refine ⟨?_, ?_⟩ <;> kernel_rfl)))
   | fail)
  refine cx_k x35.next ?_
  intro h36 x36
  repeat' (first
   | with_reducible refine stp ?_
   | with_reducible refine k_blk_o rfl ?_
   | ((try (conv => arg 1; simp [x36.b0, qa7.1, qb7.1, qc7.1, qd7.1, qe7.1, hkneg, hgneg])); with_reducible refine evp ?_)
   | ((with_reducible refine apn ?na ?_); (case na => simp [appNames, ints, intss] <;> first | kernel_rfl | (refine ⟨?_, ?_⟩ <;> kernel_rfl)))
   | fail)
  refine st_tree rfl (heldCpu R hr 1 (by omega) (by omega)) (.cons ((x36.next.o0 true).dr) (.cons (.int _ _) .nil)) ?_
  repeat' (first
   | with_reducible refine stp ?_
   | with_reducible refine k_blk_o rfl ?_
   | ((try (conv => arg 1; simp [x36.b0, qa7.1, qb7.1, qc7.1, qd7.1, qe7.1, hkneg, hgneg])); with_reducible refine evp ?_)
   | ((with_reducible refine apn ?na ?_); (case na => simp [appNames, ints, intss] <;> first | kernel_rfl | (refine ⟨?_, ?_⟩ <;> kernel_rfl)))
   | fail)
  refine cx_k x36.next ?_
  intro h37 x37
  repeat' (first
   | with_reducible refine stp ?_
   | with_reducible refine k_blk_o rfl ?_
   | ((try (conv => arg 1; simp [hkneg, hgneg])); with_reducible refine evp ?_)
   | ((with_reducible refine apn ?na ?_); (case na => simp [appNames, ints, intss] <;> first | kernel_rfl | (refine ⟨?_, ?_⟩ <;> kernel_rfl)))
   | fail)
  refine cx_k x37.next ?_
  intro h38 x38
  repeat' (first
   | with_reducible refine stp ?_
   | with_reducible refine k_blk_o rfl ?_
   | ((try (conv => arg 1; simp [hkneg, hgneg])); with_reducible refine evp ?_)
   | ((with_reducible refine apn ?na ?_); (case na => simp [appNames, ints, intss] <;> first | kernel_rfl | (refine ⟨?_, ?_⟩ <;> kernel_rfl)))
   | fail)
  refine k_seq_n ?_
  repeat' (first
   | with_reducible refine stp ?_
   | with_reducible refine k_blk_o rfl ?_
   | ((try (conv => arg 1; simp [hkneg, hgneg])); with_reducible refine evp ?_)
   | ((with_reducible refine apn ?na ?_); (case na => simp [appNames, ints, intss] <;> first | kernel_rfl | (refine ⟨?_, ?_⟩ <;> kernel_rfl)))
   | fail)
  refine cx_k x38.next ?_
  intro h39 x39
  repeat' (first
   | with_reducible refine stp ?_
   | with_reducible refine k_blk_o rfl ?_
   | ((try (conv => arg 1; simp [hkneg, hgneg])); with_reducible refine evp ?_)
   | ((with_reducible refine apn ?na ?_); (case na => simp [appNames, ints, intss] <;> first | kernel_rfl | (refine ⟨?_, ?_⟩ <;> kernel_rfl)))
   | fail)
  refine k_seq_n ?_
  repeat' (first
   | with_reducible refine stp ?_
   | with_reducible refine k_blk_o rfl ?_
   | ((try (conv => arg 1; simp [x39.b3, hkneg, hgneg])); with_reducible refine evp ?_)
   | ((with_reducible refine apn ?na ?_); (case na => simp [appNames, ints, intss] <;> first | kernel_rfl | (refine ⟨?_, ?_⟩ <;> kernel_rfl)))
   | fail)
  refine st_fresh rfl (toImage m hs_m) (.cons (dr_agg (drs_image m fun h => h)) .nil) ?_
  intro v10 h40 n10 o10 e10 f10 p10 t10
  have x40 := x39.next.fresh o10 e10 f10 p10 t10
  have z40 : h39.tick < h40.tick := by simp only [hp_next_tick] at t10; omega
  obtain ⟨wa10, wb10, _, _, rfl, _, qa10, qb10⟩ := ownV_image (o10 true)
  have qa10 := own_one qa10
  have qb10 := own_one' qb10
  repeat' (first
   | with_reducible refine stp ?_
   | with_reducible refine k_blk_o rfl ?_
   | ((try (conv => arg 1; simp [x40.b3, z40, qa10.1, qb10.1, hkneg, hgneg])); with_reducible refine evp ?_)
   | ((with_reducible refine apn ?na ?_); (case na => simp [appNames, ints, intss] <;> first | kernel_rfl | (refine ⟨?_, ?_⟩ <;> kernel_rfl)))
   | fail)
  refine st_fresh rfl (toIntS aa hl_aa) (.cons (dr_ints (fun h => h) _) .nil) ?_
  intro v11 h41 n11 o11 e11 f11 p11 t11
  have x41 := x40.fresh o11 e11 f11 p11 t11
  have z41 : h39.tick < h41.tick := by omega
  repeat' (first
   | with_reducible refine stp ?_
   | with_reducible refine k_blk_o rfl ?_
   | ((try (conv => arg 1; simp [x41.b3, z41, hkneg, hgneg])); with_reducible refine evp ?_)
   | ((with_reducible refine apn ?na ?_); (case na => simp [appNames, ints, intss] <;> first | kernel_rfl | (refine ⟨?_, ?_⟩ <;> kernel_rfl)))
   | fail)
  refine st_fresh rfl (toIntS bb hl_bb) (.cons (dr_ints (fun h => h) _) .nil) ?_
  intro v12 h42 n12 o12 e12 f12 p12 t12
  have x42 := x41.fresh o12 e12 f12 p12 t12
  have z42 : h39.tick < h42.tick := by omega
  repeat' (first
   | with_reducible refine stp ?_
   | with_reducible refine k_blk_o rfl ?_
   | ((try (conv => arg 1; simp [x42.b3, z42, hkneg, hgneg])); with_reducible refine evp ?_)
   | ((with_reducible refine apn ?na ?_); (case na => simp [appNames, ints, intss] <;> first | kernel_rfl | (refine ⟨?_, ?_⟩ <;> kernel_rfl)))
   | fail)
  refine st_freshw rfl I (.cons ((x42.o2 true).dr) (.cons ((x42.o1 true).dr) (.cons ((x42.o0 true).dr) .nil))) ?_
  intro v13 h43 n13 o13 e13 f13 p13 t13
  obtain ⟨v13, rfl, ow13⟩ := ownV_pair o13
  clear o13
  have o13 := ow13
  have x43 := x42.fresh o13 e13 f13 p13 t13
  have z43 : h39.tick < h43.tick := by omega
  obtain ⟨wa13, wb13, wc13, wd13, we13, _, _, _, _, _, rfl, _, qa13, qb13, qc13, qd13, qe13⟩ := ownV_cpu (o13 true)
  have qa13 := own_one qa13
  have qb13 := own_one qb13
  have qc13 := own_one qc13
  have qd13 := own_one qd13
  have qe13 := own_one qe13
  repeat' (first
   | with_reducible refine stp ?_
   | with_reducible refine k_blk_o rfl ?_
   | ((try (conv => arg 1; simp [x43.b3, z43, qa13.1, qb13.1, qc13.1, qd13.1, qe13.1, hkneg, hgneg])); with_reducible refine evp ?_)
   | ((with_reducible refine apn ?na ?_); (case na => simp [appNames, ints, intss] <;> first | kernel_rfl | (refine ⟨?_, ?_⟩ <;> kernel_rfl)))
   | fail)
  refine cx_k (x43.box_new ((((x39.off.fresh f10 (by simp [hp_next_tick])).fresh f11 z40).fresh f12 z41).fresh f13 z42) z43) ?_
  intro h44 x44
  repeat' (first
   | with_reducible refine stp ?_
   | with_reducible refine k_blk_o rfl ?_
   | ((try (conv => arg 1; simp [x44.b0, x44.b3, qa13.1, qb13.1, qc13.1, qd13.1, qe13.1, hkneg, hgneg])); with_reducible refine evp ?_)
   | ((with_reducible refine apn ?na ?_); (case na => simp [appNames, ints, intss] <;> first | kernel_rfl | (refine ⟨?_, ?_⟩ <;> kernel_rfl)))
   | fail)
  refine st_tree rfl (eqCpuM R hr) (.cons ((x44.next.o0 true).dr) (.cons (dr_agg (drs_cpu R (by simp))) .nil)) ?_
  repeat' (first
   | with_reducible refine stp ?_
   | with_reducible refine k_blk_o rfl ?_
   | ((try (conv => arg 1; simp [x44.b0, x44.b3, qa13.1, qb13.1, qc13.1, qd13.1, qe13.1, hkneg, hgneg])); with_reducible refine evp ?_)
   | ((with_reducible refine apn ?na ?_); (case na => simp [appNames, ints, intss] <;> first | kernel_rfl | (refine ⟨?_, ?_⟩ <;> kernel_rfl)))
   | fail)
  refine cx_k x44.next ?_
  intro h45 x45
  repeat' (first
   | with_reducible refine stp ?_
   | with_reducible refine k_blk_o rfl ?_
   | ((try (conv => arg 1; simp [hkneg, hgneg])); with_reducible refine evp ?_)
   | ((with_reducible refine apn ?na ?_); (case na => simp [appNames, ints, intss] <;> first | kernel_rfl | (refine ⟨?_, ?_⟩ <;> kernel_rfl)))
   | fail)
  refine k_seq_n ?_
  repeat' (first
   | with_reducible refine stp ?_
   | with_reducible refine k_blk_o rfl ?_
   | ((try (conv => arg 1; simp [hkneg, hgneg])); with_reducible refine evp ?_)
   | ((with_reducible refine apn ?na ?_); (case na => simp [appNames, ints, intss] <;> first | kernel_rfl | (refine ⟨?_, ?_⟩ <;> kernel_rfl)))
   | fail)
  refine cx_k x45.next ?_
  intro h46 x46
  repeat' (first
   | with_reducible refine stp ?_
   | with_reducible refine k_blk_o rfl ?_
   | ((try (conv => arg 1; simp [x46.b1, qa7.1, qb7.1, qc7.1, qd7.1, qe7.1, hkneg, hgneg])); with_reducible refine evp ?_)
   | ((with_reducible refine apn ?na ?_); (case na => simp [appNames, ints, intss] <;> first | kernel_rfl | (refine ⟨?_, ?_⟩ <;> kernel_rfl)))
   | fail)
  refine st_tree rfl (heldCpu R hr 1 (by omega) (by omega)) (.cons ((x46.next.o4 true).dr) (.cons (.int _ _) .nil)) ?_
  repeat' (first
   | with_reducible refine stp ?_
   | with_reducible refine k_blk_o rfl ?_
   | ((try (conv => arg 1; simp [x46.b1, qa7.1, qb7.1, qc7.1, qd7.1, qe7.1, hkneg, hgneg])); with_reducible refine evp ?_)
   | ((with_reducible refine apn ?na ?_); (case na => simp [appNames, ints, intss] <;> first | kernel_rfl | (refine ⟨?_, ?_⟩ <;> kernel_rfl)))
   | fail)
  refine cx_k x46.next ?_
  intro h47 x47
  repeat' (first
   | with_reducible refine stp ?_
   | with_reducible refine k_blk_o rfl ?_
   | ((try (conv => arg 1; simp [hkneg, hgneg])); with_reducible refine evp ?_)
   | ((with_reducible refine apn ?na ?_); (case na => simp [appNames, ints, intss] <;> first | kernel_rfl | (refine ⟨?_, ?_⟩ <;> kernel_rfl)))
   | fail)
  refine cx_k x47.next ?_
  intro h48 x48
  repeat' (first
   | with_reducible refine stp ?_
   | with_reducible refine k_blk_o rfl ?_
   | ((try (conv => arg 1; simp [hkneg, hgneg])); with_reducible refine evp ?_)
   | ((with_reducible refine apn ?na ?_); (case na => simp [appNames, ints, intss] <;> first | kernel_rfl | (refine ⟨?_, ?_⟩ <;> kernel_rfl)))
   | fail)
  refine k_seq_n ?_
  repeat' (first
   | with_reducible refine stp ?_
   | with_reducible refine k_blk_o rfl ?_
   | ((try (conv => arg 1; simp [hkneg, hgneg])); with_reducible refine evp ?_)
   | ((with_reducible refine apn ?na ?_); (case na => simp [appNames, ints, intss] <;> first | kernel_rfl | (refine ⟨?_, ?_⟩ <;> kernel_rfl)))
   | fail)
  refine cx_k x48.next ?_
  intro h49 x49
  repeat' (first
   | with_reducible refine stp ?_
   | with_reducible refine k_blk_o rfl ?_
   | ((try (conv => arg 1; simp [hkneg, hgneg])); with_reducible refine evp ?_)
   | ((with_reducible refine apn ?na ?_); (case na => simp [appNames, ints, intss] <;> first | kernel_rfl | (refine ⟨?_, ?_⟩ <;> kernel_rfl)))
   | fail)
  refine k_seq_n ?_
  repeat' (first
   | with_reducible refine stp ?_
   | with_reducible refine k_blk_o rfl ?_
   | with_reducible refine k_seq_n ?_
   | ((try (conv => arg 1; simp [hkneg, hgneg])); with_reducible refine evp ?_)
   | ((with_reducible refine apn ?na ?_); (case na => simp [appNames, ints, intss] <;> first | kernel_rfl | (refine ⟨?_, ?_⟩ <;> kernel_rfl)))
   | fail)
  rfl
end Go.Proofs.Ytfgaoojogididaa.AM


namespace Go.Proofs.Ytfgaoojogididaa.fnExactCpuNew
open Go.ChangeShapes Go.WideShapes Go.ChangeAt Go.RowKit
set_option linter.unusedVariables false
theorem own : ownKnob Try.prog.godebug = none := by kernel_rfl

theorem sound (l : List AM.AV) (h : AM.ShpAll Try.prog [39, 22, 22] l) : AM.Sound Try.prog 6 l (.mt 0) fun v _ => v = .bool true := by
  obtain ⟨cells0, l0, g0, e0, k0⟩ := AM.shpAll_cons h
  obtain ⟨cells1, l1, g1, e1, k1⟩ := AM.shpAll_cons k0
  obtain ⟨cells2, l2, g2, e2, k2⟩ := AM.shpAll_cons k1
  have e' := AM.shpAll_nil k2
  subst e' e2 e1 e0
  obtain ⟨a0, rfl, d0⟩ := AM.shp_image g0
  obtain ⟨a1, rfl, d1, _⟩ := g1.ints_inv AM.und_22 AM.und_3
  obtain ⟨a2, rfl, d2, _⟩ := g2.ints_inv AM.und_22 AM.und_3
  rw [AM.agg_39, AM.av22, AM.av22]
  exact AM.lawCpuNew a0 a1 a2 d0 d1 d2

set_option maxRecDepth 100000 in
theorem lifted (os : Os) (started : os.Started) (H : Type) (enc : TypeId × Value → H) :
    ReturnsInHanded {} Try.checked os 6 .any (Rows.fnExactCpuNewSpec.pre6 enc Try.prog Try.f6 Rows.fnExactCpuNewRow.domain false) (Rows.fnExactCpuNewSpec.post enc Try.prog Try.f6 false true false false) := by
  refine returnsInHanded_of_change_sized (C := Try.checked) own started (by kernel_rfl) Try.func6
    (ChangeSpec.witness6 (enc := enc) (C := Try.checked) false ⟨#[], #[.agg #[.slice none 0 0, .int .i64 0, .int .i64 0, .slice none 0 0], .slice none 0 0, .slice none 0 0], []⟩ 8 (by kernel_rfl) (by kernel_rfl) (by kernel_rfl) (by kernel_rfl)) ?_
  intro W base args ds gs before hval0 hW hcnd hsz0 _
  have hval : ∀ (j : Nat) t v, Try.f6.params[j]? = some t → args[j]? = some v → Value.okWide Try.prog W .any base t v := hval0
  have hW' := hW
  obtain ⟨p, q, hA0, hV, rfl, hfz, hnd⟩ := hW
  have hA : DataW.TrodAll enc Try.prog W 0 (fun _ => true) true Try.f6.params.toList args.toList ds p := hA0
  rw [Try.params6] at hA hval
  obtain ⟨v0, vs0, d0, ds0, p0, q0, hargs, rfl, rfl, h0, r0⟩ := trodAll_cons hA
  obtain ⟨v1, vs1, d1, ds1, p1, q1, rfl, rfl, rfl, h1, r1⟩ := trodAll_cons r0
  obtain ⟨v2, vs2, d2, ds2, p2, q2, rfl, rfl, rfl, h2, r2⟩ := trodAll_cons r1
  obtain ⟨rfl, rfl, rfl⟩ := trodAll_nil r2
  obtain rfl : args = #[v0, v1, v2] := by cases args; simp_all
  obtain ⟨rfl, rfl⟩ := trodVars_none hV
  clear hA0 hval0 hsz0
  refine (AM.law_calls (params := [39, 22, 22]) (ts := [39, 3, 22, 37, 94]) sound (by kernel_rfl) (by simp) (args := #[v0, v1, v2]) (fun j t v a b => hval j t v (by simpa using a) b) hA).mono fun e W' ⟨he, bel⟩ => ?_
  subst he
  exact ⟨_, rfl, _, _, _, [], _, [], hW', trodAll_mk1 (shut_bool Try.underlying4 _), AM.back_all AM.laid bel _ _ _ _ (by kernel_rfl) hA, rfl, bel.frame _, fun h => by cases h⟩
theorem over : Rows.fnExactCpuNewRow.holds Try.pinned (OpenSpec.ofChange Rows.fnExactCpuNewSpec) :=
  OpenClaim.holds_of_wide 6 Try.f6 rfl rfl rfl rfl rfl rfl rfl ⟨rfl, rfl, rfl, rfl, rfl⟩ rfl rfl rfl rfl rfl (by kernel_rfl) Try.func6 (by kernel_rfl)
    (of_decide_eq_true (by kernel_rfl)) (by unfold Func.isWrapper; first | (rw [if_pos (by decide +kernel)]; kernel_rfl) | (rw [if_neg (by decide +kernel)]; exact ⟨rfl, rfl⟩))
    (fun os started H enc _ => lifted os started H enc)
theorem proved : Rows.FnExactCpuNewSaid := over
end Go.Proofs.Ytfgaoojogididaa.fnExactCpuNew
namespace Go.Proofs.Ytfgaoojogididaa
theorem fnExactCpuNew_holds : Rows.FnExactCpuNewSaid := fnExactCpuNew.proved
end Go.Proofs.Ytfgaoojogididaa
