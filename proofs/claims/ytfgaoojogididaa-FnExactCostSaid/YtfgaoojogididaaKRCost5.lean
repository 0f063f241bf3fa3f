/-
  FnExactCost: for every argument, the law returns true, and the arguments read behind the call as they read before.
  Conditions: none beyond the given statement's own.
-/
import Derived.Test.YtfgaoojogididaaKk4
import Derived.WalkKit
import Derived.ProofKit
import Derived.OpenShut
import Derived.ShutString
import Derived.ChangeOld
import Derived.Below
import Derived.SizedLaws
/-
  The program's run of an image.
-/
set_option linter.unusedVariables false
set_option linter.unusedSimpArgs false
set_option maxRecDepth 4000
namespace Go.Proofs.Ytfgaoojogididaa.AM
open Go.RowKit

private def MW51 : FuncId → Mode := fun f => if f = 63 ∨ f = 72 then .heap else .tree

theorem Sound.tk {P : Program} {f : FuncId} {args : List AV} {h : Hp} {K : AV → Hp → Prop} (s : Sound P f args h K) : Sound P f args h fun v h' => K v h' ∧ h.tick ≤ h'.tick :=
  ⟨s.1, fun mu pr w vs R hv => (s.2 mu pr w vs R hv).mono fun e w' ⟨z, v, h', mu', pr', e1, k, r, A⟩ => ⟨z, v, h', mu', pr', e1, ⟨k, A.tick⟩, r, A⟩⟩
theorem runsX (c : Cpu) (u s : AV) : Pure Try.prog 71 [.tptr true (c.cells true ++ [u, s])] (.bool (isRun c)) := by
  intro T
  refine enter mixed MW51 Try.func71 rfl (by kernel_rfl) rfl ?_
  by_cases hz : c.Code = 0
  · skip
    repeat' (first
     | with_reducible refine stp ?_
     | with_reducible refine k_blk_o rfl ?_
     | with_reducible refine k_seq_n ?_
     | ((try (conv => arg 1; simp [Cpu.cells, hz])); with_reducible refine evp ?_)
     | ((with_reducible refine apn ?na ?_); (case na => simp [appNames, ints, intss] <;> first | kernel_rfl | (refine ⟨?_, ?_⟩ <;> kernel_rfl)))
     | fail)
    simp [resV, hz, isRun]; exact .bool _
  · skip
    repeat' (first
     | with_reducible refine stp ?_
     | with_reducible refine k_blk_o rfl ?_
     | with_reducible refine k_seq_n ?_
     | ((try (conv => arg 1; simp [Cpu.cells, hz])); with_reducible refine evp ?_)
     | ((with_reducible refine apn ?na ?_); (case na => simp [appNames, ints, intss] <;> first | kernel_rfl | (refine ⟨?_, ?_⟩ <;> kernel_rfl)))
     | fail)
    simp [resV, hz, isRun]; exact .bool _

section
variable {h : Hp} {bs : Bx} {os : Ox} {nb : Nm} {l : List AV} {ns : List Nm} {c : Cpu} {u s : AV}
theorem Cx.dr_boxX (hu : ∀ rows, DR true rows u u) (hv : ∀ rows, DR true rows s s) (x : Cx h ((nb, boxX [u, s] l) :: bs) ((.agg l, (fun b => .agg (c.cells b)), ns) :: os)) : DR true h.rows (.ptr nb 0 0 0) (.tptr true (c.cells true ++ [u, s])) := by
  have d := (x.o0 true).dr
  generalize ht : AV.agg (c.cells true) = t at d
  cases d with
  | agg cs ts h1 h2 =>
    cases ht
    refine dr_ptr0 x.b0 rfl rfl ⟨by simp [h1], fun j a b ha hb => ?_⟩
    by_cases hj : j < l.length
    · rw [List.getElem?_append_left hj] at ha
      rw [List.getElem?_append_left (by rw [h1]; exact hj)] at hb
      exact h2 j a b ha hb
    · rw [List.getElem?_append_right (by omega)] at ha
      rw [List.getElem?_append_right (by rw [h1]; omega), h1] at hb
      rw [ha] at hb
      cases hb
      have : j - l.length = 0 ∨ j - l.length = 1 := by
        have := (List.getElem?_eq_some_iff.1 ha).1
        simp at this
        omega
      rcases this with e | e <;> rw [e] at ha <;> simp at ha <;> subst ha
      · exact hu _
      · exact hv _
end

/-- A run's row. -/
def boxR (u : Int) (s : Bool) (l : List AV) : Row := ⟨0, 11, [l ++ [.int .i64 u, .bool s]]⟩
/-- A state's cells and two more. -/
structure XOk (l : List AV) : Prop where
  one : ∀ (u : Int) (s : Bool), ones (l ++ [.int .i64 u, .bool s]) = true
  len : l.length = 9
  t9 : ∀ e, List.take 9 (l ++ e) = l
  d9 : ∀ e, List.drop 9 (l ++ e) = e
  t10 : ∀ a b : AV, List.take 10 (l ++ [a, b]) = l ++ [a]
  d10 : ∀ a b : AV, List.drop 10 (l ++ [a, b]) = [b]
  d11 : ∀ a b : AV, List.drop 11 (l ++ [a, b]) = []
theorem CellsOk.x {l : List AV} (c : CellsOk l) : XOk l := by
  obtain ⟨c1, c2, c3⟩ := c
  refine ⟨fun u s => by simpa [ones, AV.one] using c1, c2, fun e => by rw [List.take_append_of_le_length (by omega)]; exact c3.1, fun e => ?_, fun a b => ?_, fun a b => ?_, fun a b => ?_⟩
  · rw [List.drop_append_of_le_length (by omega), c3.2]; rfl
  · rw [List.take_append, c2, List.take_of_length_le (by omega)]; rfl
  · rw [List.drop_append, c2, List.drop_of_length_le (by omega)]; rfl
  · rw [List.drop_append, c2, List.drop_of_length_le (by omega)]; rfl

def failCpu : Cpu := ⟨0, [], [], [], [], [], 3, false, 0⟩
/-- What a run of the program is behind it. -/
def runP (m : Image) (A I : List Int) (fu : Int) : Cpu × Int × Bool := if argsOk m A I && inB fu 0 100000 then ((execC m A I fu.toNat).1, fu - (execC m A I fu.toNat).2, isRun (execC m A I fu.toNat).1) else (failCpu, 0, false)

set_option maxHeartbeats 4000000 in
theorem exec (m : Image) (A I : List Int) (fu : Int) (hs : m.Sizes.length ≤ 2 ^ 62) (hcd : m.Code.length ≤ 2 ^ 62) (hA : A.length ≤ 2 ^ 20) (hI : I.length ≤ 2 ^ 20) {h : Hp} {bs : Bx} {os : Ox} (x : Cx h bs os) :
    Sound Try.prog 60 [.agg (m.cells true), ints true A, ints true I, .int .i64 fu] h fun v h' => ∃ nb l ns, v = .ptr nb 0 0 0 ∧ Cx h' ((nb, boxX [.int .i64 (runP m A I fu).2.1, .bool (runP m A I fu).2.2] l) :: bs) ((.agg l, (fun b => .agg ((runP m A I fu).1.cells b)), ns) :: os) := by
  refine enter mixed MW51 Try.func60 rfl (by kernel_rfl) rfl ?_
  repeat' (first
   | with_reducible refine stp ?_
   | with_reducible refine k_blk_o rfl ?_
   | ((try (conv => arg 1; simp [Image.cells])); with_reducible refine evp ?_)
   | ((with_reducible refine apn ?na ?_); (case na => simp [appNames, ints, intss] <;> first | kernel_rfl | (refine ⟨?_, ?_⟩ <;> kernel_rfl)))
   | fail)
  refine cx_k (x.next.box_one (i := 0) x.off (by simp)) ?_
  intro h1 x1
  have b1 := x1.bxs
  simp only [Bxs] at b1
  repeat' (first
   | with_reducible refine stp ?_
   | with_reducible refine k_blk_o rfl ?_
   | with_reducible refine k_seq_n ?_
   | ((try (conv => arg 1; simp [b1, nm_ne, ltS])); with_reducible refine evp ?_)
   | ((with_reducible refine apn ?na ?_); (case na => simp [appNames, ints, intss] <;> first | kernel_rfl | (refine ⟨?_, ?_⟩ <;> kernel_rfl)))
   | fail)
  refine st_heap rfl (newCpu m A I hs hcd hA hI x1.next).tk ?_
  rintro v h2 ⟨⟨l, ns, rfl, x2, ok2, lo⟩, t2⟩
  have z2 : h1.tick < h2.tick := by simp only [hp_next_tick] at t2; omega
  have b2 := x2.bxs
  simp only [Bxs] at b2
  obtain ⟨cl1, cl2, cl3⟩ := x2.cells_ok
  by_cases hg : (argsOk m A I && inB fu 0 100000) = true
  · have hg2 := hg
    simp only [Bool.and_eq_true] at hg2
    obtain ⟨n, rfl, hn⟩ := inB_nat hg2.2
    have hr0 := start_run hg2.1
    have e1 : runP m A I n = ((execC m A I n).1, (n : Int) - (execC m A I n).2, isRun (execC m A I n).1) := by simp [runP, hg]
    have e0 : newR m A I = (startC m.Sizes m.Slots.toNat A I, true) := by simp [newR, hg2.1]
    rw [e0] at x2
    rw [show (newR m A I).2 = true by rw [e0]]
    have ⟨X1, X2, X3, X4, X5, X6, X7⟩ := x2.cells_ok.x
    repeat' (first
     | with_reducible refine stp ?_
     | with_reducible refine k_blk_o rfl ?_
     | ((try (conv => arg 1; simp [b2, z2, nm_ne, ltS, cl1, cl2, cl3, X1, hg2.2])); with_reducible refine evp ?_)
     | ((with_reducible refine apn ?na ?_); (case na => simp [appNames, ints, intss] <;> first | kernel_rfl | (refine ⟨?_, ?_⟩ <;> kernel_rfl)))
     | ((with_reducible refine tcl ?_); first | ((apply tg (in_ _ _ _)); (case e => rfl); (case d => (refine dq ?_); (repeat' (first | ((refine Da.mk ?_); first | assumption) | constructor)))))
     | fail)
    have lt2 := x2.ok_lt
    refine cx_kg (fun h' => OutOk h' l) (x2.box_new (Off.fresh (h := h1.next) (h' := h2) x1.off (fun n hn => ⟨lo n hn, x2.lts n hn⟩) (by simp)) z2) (fun n ver off len e => ?_) ?_
    · obtain ⟨r, g1, g2, g3⟩ := ok2 n ver off len e
      have hne : ¬ n = (h1.tick, 7, 0) := fun e' => by
        have := lo n (lt2 n ver off len e)
        rw [e'] at this
        simp only [hp_next_tick] at this
        omega
      exact ⟨r, by simp [hne, g1], g2, g3⟩
    intro h3 x3 ok3
    have b3 := x3.bxs
    simp only [Bxs] at b3
    repeat' (first
     | with_reducible refine stp ?_
     | with_reducible refine k_blk_o rfl ?_
     | with_reducible refine k_seq_n ?_
     | ((try (conv => arg 1; simp [b3, nm_ne, ltS, cl1, cl2, cl3, X1, hg2.2])); with_reducible refine evp ?_)
     | ((with_reducible refine apn ?na ?_); (case na => simp [appNames, ints, intss] <;> first | kernel_rfl | (refine ⟨?_, ?_⟩ <;> kernel_rfl)))
     | ((with_reducible refine tcl ?_); first | ((apply tg (in_ _ _ _)); (case e => rfl); (case d => (refine dq ?_); (repeat' (first | ((refine Da.mk ?_); first | assumption) | constructor)))))
     | fail)
    refine st_loop (fun (p : Nat × Bool) σ h' => p.1 ≤ n ∧ σ 3 = .int .i64 n ∧ σ 4 = .ptr (h.tick, 0, 0) 0 0 0 ∧ σ 11 = .ptr (h3.tick + 1, 2, 0) 0 0 0 ∧ ∃ ck l ns, Run m ck ∧ (p.2 = true → p.1 = 0 ∧ isRun ck = true) ∧ execN m p.1 ck = execC m A I n ∧ ck.Out.length + p.1 ≤ n ∧ OutOk h' l ∧
      Cx h' (((h3.tick + 1, 2, 0), boxR ((n : Int) - p.1) p.2 l) :: ((h.tick, 0, 0), ⟨0, 4, [[ints true m.Sizes, .int .i64 m.Params, .int .i64 m.Slots, words true m.Code]]⟩) :: bs) ((.agg l, (fun b => .agg (ck.cells b)), ns) :: os)) (fun p => 2 * p.1 + if p.2 then 0 else 1) (n, false) ?init ?step
    case init =>
      have x4 := ((x3.next.next.box_one (T := h3.tick + 1) (i := 2) (r := boxR 0 false l) x3.next.off (by simp)).bperm (List.Perm.swap _ _ _)).box_drop
      refine ⟨Nat.le_refl _, by simp, by simp, by simp, _, l, ns, hr0, fun e => by (cases e), rfl, by simp [startC], fun n ver off len e => ?_, ?_⟩
      case refine_2 =>
        dsimp only
        rw [show (n : Int) - (n : Int) = 0 by omega]
        exact x4
      obtain ⟨r, g1, g2, g3⟩ := ok3 n ver off len e
      have hn := x3.lts n (lt2 n ver off len e)
      exact ⟨r, by simp [nm_ne (show n.1 < h3.tick + 1 by omega), g1], g2, g3⟩
    case step =>
      rintro ⟨k, spent⟩ σ h' ⟨hk, s3, s4, s11, ck, l, ns, rk, hsp, ek, lk, ok, x⟩
      have ⟨X1, X2, X3, X4, X5, X6, X7⟩ := x.cells_ok.x
      have hd := x.dr_boxX (fun _ => .int _ _) (fun _ => .bool _)
      have R := runsX ck (.int .i64 ((n : Int) - k)) (.bool spent)
      have b := x.bxs
      simp only [Bxs, boxR] at b
      cases hr : isRun ck with
      | false =>
        obtain rfl : spent = false := by
          cases spent with
          | false => rfl
          | true => have := (hsp rfl).2; rw [hr] at this; cases this
        repeat' (first
         | with_reducible refine stp ?_
         | with_reducible refine k_blk_o rfl ?_
         | with_reducible refine k_seq_n ?_
         | ((try (conv => arg 1; simp [s3, s4, s11, b, hr, X1, X2, X3, X4, X5, X6, X7, nm_ne, ltS])); with_reducible refine evp ?_)
         | ((with_reducible refine apn ?na ?_); (case na => simp [appNames, ints, intss] <;> first | kernel_rfl | (refine ⟨?_, ?_⟩ <;> kernel_rfl)))
         | ((with_reducible refine tcl ?_); first | ((apply tg (R)); (case e => rfl); (case d => (refine dq ?_); (repeat' (first | ((refine Da.mk ?_); first | exact hd | assumption) | constructor)))))
         | fail)
        rw [execN_stop hr] at ek
        rw [e1, ← ek]
        dsimp only
        rw [hr]
        exact ⟨_, l, ns, rfl, (x.next.next.bperm (List.Perm.swap _ _ _)).box_drop⟩
      | true =>
        cases spent with
        | true =>
          obtain ⟨rfl, _⟩ := hsp rfl
          repeat' (first
           | with_reducible refine stp ?_
           | with_reducible refine k_blk_o rfl ?_
           | with_reducible refine k_seq_n ?_
           | ((try (conv => arg 1; simp [s3, s4, s11, b, hr, X1, X2, X3, X4, X5, X6, X7, nm_ne, ltS])); with_reducible refine evp ?_)
           | ((with_reducible refine apn ?na ?_); (case na => simp [appNames, ints, intss] <;> first | kernel_rfl | (refine ⟨?_, ?_⟩ <;> kernel_rfl)))
           | ((with_reducible refine tcl ?_); first | ((apply tg (R)); (case e => rfl); (case d => (refine dq ?_); (repeat' (first | ((refine Da.mk ?_); first | exact hd | assumption) | constructor)))))
           | fail)
          rw [show execN m 0 ck = (ck, 0) from rfl] at ek
          rw [e1, ← ek]
          dsimp only
          rw [hr]
          exact ⟨_, l, ns, rfl, (x.next.next.bperm (List.Perm.swap _ _ _)).box_drop⟩
        | false =>
          cases k with
          | zero =>
            have hz : (n : Int) - (0 : Nat) = n := by omega
            repeat' (first
             | with_reducible refine stp ?_
             | with_reducible refine k_blk_o rfl ?_
             | with_reducible refine k_seq_n ?_
             | ((try (conv => arg 1; simp [s3, s4, s11, b, hr, X1, X2, X3, X4, X5, X6, X7, nm_ne, ltS])); with_reducible refine evp ?_)
             | ((with_reducible refine apn ?na ?_); (case na => simp [appNames, ints, intss] <;> first | kernel_rfl | (refine ⟨?_, ?_⟩ <;> kernel_rfl)))
             | ((with_reducible refine tcl ?_); first | ((apply tg (R)); (case e => rfl); (case d => (refine dq ?_); (repeat' (first | ((refine Da.mk ?_); first | exact hd | assumption) | constructor)))))
             | fail)
            refine k_lp_n (0, true) (by simp) ⟨Nat.zero_le _, by simp [s3], by simp [s4], by simp [s11], ck, l, ns, rk, fun _ => ⟨rfl, hr⟩, ek, lk, ?_, ?_⟩
            case refine_2 =>
              dsimp only
              rw [hz]
              exact x.next.next.next.box_set
            exact OutOk.put (h := h'.next.next.next) ok x.next.next.next (n0 := (h3.tick + 1, 2, 0)) (by simp)
          | succ k =>
            have hz : ¬ (n : Int) - (k + 1) = n := by omega
            have hw : IntKind.i64.wrap ((n : Int) - (k + 1) + 1) = n - k := by rw [wrap_id (by omega) (by omega)]; omega
            obtain ⟨i, w, e2, e3, e4⟩ := rk.good.at_ hr
            repeat' (first
             | with_reducible refine stp ?_
             | with_reducible refine k_blk_o rfl ?_
             | with_reducible refine k_seq_n ?_
             | ((try (conv => arg 1; simp [s3, s4, s11, b, hr, hz, hw, X1, X2, X3, X4, X5, X6, X7, nm_ne, ltS])); with_reducible refine evp ?_)
             | ((with_reducible refine apn ?na ?_); (case na => simp [appNames, ints, intss] <;> first | kernel_rfl | (refine ⟨?_, ?_⟩ <;> kernel_rfl)))
             | ((with_reducible refine tcl ?_); first | ((apply tg (R)); (case e => rfl); (case d => (refine dq ?_); (repeat' (first | ((refine Da.mk ?_); first | exact hd | assumption) | constructor)))))
             | fail)
            repeat (with_reducible first | refine stp ?_ | refine k_seq_n ?_)
            refine st_lz (by kernel_rfl) ?_
            have hF := And.intro s3 (And.intro s4 (And.intro s11 (And.intro b (And.intro hr (And.intro hz hw)))))
            repeat' (first
             | with_reducible refine stp ?_
             | with_reducible refine k_blk_o rfl ?_
             | ((try (conv => arg 1; simp [X1, X2, X3, X4, X5, X6, X7, nm_ne, ltS, hF])); with_reducible refine evp ?_)
             | ((with_reducible refine apn ?na ?_); (case na => simp [appNames, ints, intss] <;> first | kernel_rfl | (refine ⟨?_, ?_⟩ <;> kernel_rfl)))
              | ((with_reducible refine la_id ?_); refine la_end rfl ?_; (repeat (first | refine pl_nil ?_ | refine pl_cons ?_)))
              | ((with_reducible refine la_id ?_); refine la_pick ?_; (conv => arg 1; whnf); (repeat ((fail_if_success (first | ((refine la_q0 rfl ?_); (try (conv => arg 1; simp [X1, X2, X3, X4, X5, X6, X7, nm_ne, ltS, hF])); with_reducible refine evp ?_) | ((refine la_n rfl rfl ?_); (try (conv => arg 1; simp [X1, X2, X3, X4, X5, X6, X7, nm_ne, ltS, hF])); with_reducible refine evp ?_) | ((refine la_q2 rfl (by decide +kernel) ?_); (repeat (first | refine bk_nil ?_ | refine bk_t (by decide +kernel) ?_ | refine bk_f (by decide +kernel) ?_)); (try (conv => arg 1; simp [X1, X2, X3, X4, X5, X6, X7, nm_ne, ltS, hF])); with_reducible refine evp ?_) | ((refine la_q1 rfl (by decide +kernel) ?_); (try (conv => arg 1; simp [X1, X2, X3, X4, X5, X6, X7, nm_ne, ltS, hF])); with_reducible refine evp ?_) | ((refine la_g0 rfl ?_); (try (conv => arg 1; simp [X1, X2, X3, X4, X5, X6, X7, nm_ne, ltS, hF])); with_reducible refine evp ?_; (with_reducible refine evp ?_); try ((try (conv => arg 1; simp [X1, X2, X3, X4, X5, X6, X7, nm_ne, ltS, hF])); with_reducible refine evp ?_)))); (refine la_there ?_); (conv => arg 1; whnf))); first | ((refine la_q0 rfl ?_); (try (conv => arg 1; simp [X1, X2, X3, X4, X5, X6, X7, nm_ne, ltS, hF])); with_reducible refine evp ?_) | ((refine la_n rfl rfl ?_); (try (conv => arg 1; simp [X1, X2, X3, X4, X5, X6, X7, nm_ne, ltS, hF])); with_reducible refine evp ?_) | ((refine la_q2 rfl (by decide +kernel) ?_); (repeat (first | refine bk_nil ?_ | refine bk_t (by decide +kernel) ?_ | refine bk_f (by decide +kernel) ?_)); (try (conv => arg 1; simp [X1, X2, X3, X4, X5, X6, X7, nm_ne, ltS, hF])); with_reducible refine evp ?_) | ((refine la_q1 rfl (by decide +kernel) ?_); (try (conv => arg 1; simp [X1, X2, X3, X4, X5, X6, X7, nm_ne, ltS, hF])); with_reducible refine evp ?_) | ((refine la_g0 rfl ?_); (try (conv => arg 1; simp [X1, X2, X3, X4, X5, X6, X7, nm_ne, ltS, hF])); with_reducible refine evp ?_; (with_reducible refine evp ?_); try ((try (conv => arg 1; simp [X1, X2, X3, X4, X5, X6, X7, nm_ne, ltS, hF])); with_reducible refine evp ?_)))
              | ((with_reducible refine la_id ?_); refine la_all rfl ?_)
              | ((with_reducible refine all_id ?_); (conv => arg 1; whnf); first | exact all_nil | refine all_cons ?_ ?_)
              | (refine la_op rfl (by first | exact frm_s (by decide +kernel) | exact frm_a (by repeat' (first | exact fa_nil | refine fa_cons (by decide +kernel) ?_))) (by intro hq; first | exact trivial | (cases hq; done) | simp [appT, X1, X2, X3, X4, X5, X6, X7, nm_ne, ltS, hF]) ?_; (repeat (first | refine bk_nil ?_ | refine bk_t (by decide +kernel) ?_ | refine bk_f (by decide +kernel) ?_)))
             | fail)
            have x' := (x.next.next.next.box_set (r' := boxX [.int .i64 ((n : Int) - k), .bool false] l)).next
            have ok' := OutOk.put (h := h'.next.next.next) (r := boxX [.int .i64 ((n : Int) - k), .bool false] l) ok x.next.next.next (n0 := (h3.tick + 1, 2, 0)) (by simp)
            refine st_heap rfl ((step_okX (rk.good.run hr).1 e2 e3 (by omega)) _ _ (h3.tick + 1, 2, 0) l ns _ _ x' ok').esz ?_
            rintro v h4 ⟨⟨l', ns', x4, hor⟩, z⟩
            have ok4 : OutOk h4 l' := hor.elim (fun e => OutOk.of_esz ok' e x4 z) id
            have hs := stepC_slots ck w
            rw [← e4] at hs x4
            repeat' (first
             | with_reducible refine stp ?_
             | with_reducible refine k_blk_o rfl ?_
             | ((try (conv => arg 1; simp [s3])); with_reducible refine evp ?_)
             | ((with_reducible refine apn ?na ?_); (case na => simp [appNames, ints, intss] <;> first | kernel_rfl | (refine ⟨?_, ?_⟩ <;> kernel_rfl)))
              | ((with_reducible refine la_id ?_); refine la_end rfl ?_; (repeat (first | refine pl_nil ?_ | refine pl_cons ?_)))
              | ((with_reducible refine la_id ?_); refine la_pick ?_; (conv => arg 1; whnf); (repeat ((fail_if_success (first | ((refine la_q0 rfl ?_); (try (conv => arg 1; simp [s3])); with_reducible refine evp ?_) | ((refine la_n rfl rfl ?_); (try (conv => arg 1; simp [s3])); with_reducible refine evp ?_) | ((refine la_q2 rfl (by decide +kernel) ?_); (repeat (first | refine bk_nil ?_ | refine bk_t (by decide +kernel) ?_ | refine bk_f (by decide +kernel) ?_)); (try (conv => arg 1; simp [s3])); with_reducible refine evp ?_) | ((refine la_q1 rfl (by decide +kernel) ?_); (try (conv => arg 1; simp [s3])); with_reducible refine evp ?_) | ((refine la_g0 rfl ?_); (try (conv => arg 1; simp [s3])); with_reducible refine evp ?_; (with_reducible refine evp ?_); try ((try (conv => arg 1; simp [s3])); with_reducible refine evp ?_)))); (refine la_there ?_); (conv => arg 1; whnf))); first | ((refine la_q0 rfl ?_); (try (conv => arg 1; simp [s3])); with_reducible refine evp ?_) | ((refine la_n rfl rfl ?_); (try (conv => arg 1; simp [s3])); with_reducible refine evp ?_) | ((refine la_q2 rfl (by decide +kernel) ?_); (repeat (first | refine bk_nil ?_ | refine bk_t (by decide +kernel) ?_ | refine bk_f (by decide +kernel) ?_)); (try (conv => arg 1; simp [s3])); with_reducible refine evp ?_) | ((refine la_q1 rfl (by decide +kernel) ?_); (try (conv => arg 1; simp [s3])); with_reducible refine evp ?_) | ((refine la_g0 rfl ?_); (try (conv => arg 1; simp [s3])); with_reducible refine evp ?_; (with_reducible refine evp ?_); try ((try (conv => arg 1; simp [s3])); with_reducible refine evp ?_)))
              | ((with_reducible refine la_id ?_); refine la_all rfl ?_)
              | ((with_reducible refine all_id ?_); (conv => arg 1; whnf); first | exact all_nil | refine all_cons ?_ ?_)
              | (refine la_op rfl (by first | exact frm_s (by decide +kernel) | exact frm_a (by repeat' (first | exact fa_nil | refine fa_cons (by decide +kernel) ?_))) (by intro hq; first | exact trivial | (cases hq; done) | simp [appT, s3]) ?_; (repeat (first | refine bk_nil ?_ | refine bk_t (by decide +kernel) ?_ | refine bk_f (by decide +kernel) ?_)))
             | fail)
            repeat' (first
             | with_reducible refine stp ?_
             | with_reducible refine k_blk_o rfl ?_
             | with_reducible refine k_seq_n ?_
             | ((try (conv => arg 1; simp [s3])); with_reducible refine evp ?_)
             | ((with_reducible refine apn ?na ?_); (case na => simp [appNames, ints, intss] <;> first | kernel_rfl | (refine ⟨?_, ?_⟩ <;> kernel_rfl)))
             | fail)
            refine k_lp_n (k, false) (by simp) ⟨by dsimp only; omega, by simp [s3], by simp [s4], by simp [s11], nextC m ck, l', ns', rk.next hr, fun e => by (cases e), by rw [← ek, execN_run hr], by dsimp only at lk ⊢; omega, ok4, x4⟩
  · have e1 : runP m A I fu = (failCpu, 0, false) := by simp [runP, hg]
    rw [e1]
    have x3 := x2.drop
    have x5 := (x3.box_new (T := h1.tick) (i := 7) (r := ⟨0, 9, [[.int .i64 0, .nilsl, .nilsl, .nilsl, .nilsl, .nilsl, .int .i64 0, .bool false, .int .i64 0]]⟩) (r' := ⟨0, 9, [l]⟩) x1.off z2).box_drop
    have x6 := ((x5.next.next.box_one (T := h2.tick + 1) (i := 2) (r := boxX [.int .i64 0, .bool false] [.int .i64 0, .nilsl, .nilsl, .nilsl, .nilsl, .nilsl, .int .i64 3, .bool false, .int .i64 0]) x5.next.off (by simp)).bperm (List.Perm.swap _ _ _)).box_drop
    have x7 := x6.add_own (v := .agg [.int .i64 0, .nilsl, .nilsl, .nilsl, .nilsl, .nilsl, .int .i64 3, .bool false, .int .i64 0]) (t := fun b => .agg (failCpu.cells b)) (ns := []) (fun b => .agg (.int _ _ (.nilsl (.nilsl (.nilsl (.nilsl (.nilsl (.int _ _ (.bool _ (.int _ _ .nil)))))))))) (by simp) (fun n hn => by simp at hn) (fun n hn => rfl) (Nat.le_refl _)
    cases ha : (newR m A I).2 with
    | false =>
      repeat' (first
       | with_reducible refine stp ?_
       | with_reducible refine k_blk_o rfl ?_
       | with_reducible refine k_seq_n ?_
       | ((try (conv => arg 1; simp [b2, z2, nm_ne, ltS, cl1, cl2, cl3])); with_reducible refine evp ?_)
       | ((with_reducible refine apn ?na ?_); (case na => simp [appNames, ints, intss] <;> first | kernel_rfl | (refine ⟨?_, ?_⟩ <;> kernel_rfl)))
       | fail)
      exact ⟨_, _, _, rfl, x7⟩
    | true =>
      have hb : inB fu 0 100000 = false := by
        cases hb : inB fu 0 100000 with
        | false => rfl
        | true =>
          cases hq : argsOk m A I with
          | true => simp [hq, hb] at hg
          | false => simp [newR, hq] at ha
      repeat' (first
       | with_reducible refine stp ?_
       | with_reducible refine k_blk_o rfl ?_
       | with_reducible refine k_seq_n ?_
       | ((try (conv => arg 1; simp [b2, z2, nm_ne, ltS, cl1, cl2, cl3, hb])); with_reducible refine evp ?_)
       | ((with_reducible refine apn ?na ?_); (case na => simp [appNames, ints, intss] <;> first | kernel_rfl | (refine ⟨?_, ?_⟩ <;> kernel_rfl)))
       | ((with_reducible refine tcl ?_); first | ((apply tg (in_ _ _ _)); (case e => rfl); (case d => (refine dq ?_); (repeat' (first | ((refine Da.mk ?_); first | assumption) | constructor)))))
       | fail)
      exact ⟨_, _, _, rfl, x7⟩
end Go.Proofs.Ytfgaoojogididaa.AM

/-
  The spec's run of an image: fuel, its end.
-/
set_option linter.unusedVariables false
set_option linter.unusedSimpArgs false
set_option maxRecDepth 4000
namespace Go.Proofs.Ytfgaoojogididaa.AM
open Go.RowKit

private def MW47 : FuncId → Mode := fun f => .tree

def runT (fu : Int) (c : Cpu) : List AV := [intss true c.Mem, ints true c.Slots, ints true c.Input, .int .i64 fu, .int .i64 c.Code, .bool c.Over, .int .i64 c.Val, ints true c.Out]
def endR (c : Cpu) : EndV := ⟨c.Code, if c.Code = 0 then c.Val else 0, c.Out⟩

set_option maxHeartbeats 1000000 in
theorem l03End (fu : Int) (c : Cpu) (hl : c.Out.length ≤ 2 ^ 20) : Pure Try.prog 80 [.tptr true (runT fu c)] (.agg ((endR c).cells false)) := by
  obtain ⟨At, Regs, Slots, Mem, Input, Out, Code, Over, Val⟩ := c
  simp only at hl
  intro T
  have hl2 : Out.length ≤ 4294967296 := by omega
  have hnil : True := trivial
  refine enter mixed MW47 Try.func80 rfl (by kernel_rfl) rfl ?_
  by_cases hz : Code = 0
  all_goals try subst hz
  all_goals
    repeat' (first
     | with_reducible refine stp ?_
     | with_reducible refine k_blk_o rfl ?_
     | ((try (conv => arg 1; simp [hnil])); with_reducible refine evp ?_)
     | ((with_reducible refine apn ?na ?_); (case na => simp [appNames, ints, intss] <;> first | kernel_rfl | (refine ⟨?_, ?_⟩ <;> kernel_rfl)))
     | fail)
    repeat (with_reducible first | refine stp ?_ | refine k_seq_n ?_)
    refine st_lz (by kernel_rfl) ?_
    repeat' (first
     | with_reducible refine stp ?_
     | with_reducible refine k_blk_o rfl ?_
     | ((try (conv => arg 1; simp [runT, hl2])); with_reducible refine evp ?_)
     | ((with_reducible refine apn ?na ?_); (case na => simp [appNames, ints, intss] <;> first | kernel_rfl | (refine ⟨?_, ?_⟩ <;> kernel_rfl)))
      | ((with_reducible refine la_id ?_); refine la_end rfl ?_; (repeat (first | refine pl_nil ?_ | refine pl_cons ?_)))
      | ((with_reducible refine la_id ?_); refine la_pick ?_; (conv => arg 1; whnf); (repeat ((fail_if_success (first | ((refine la_q0 rfl ?_); (try (conv => arg 1; simp [runT, hl2])); with_reducible refine evp ?_) | ((refine la_n rfl rfl ?_); (try (conv => arg 1; simp [runT, hl2])); with_reducible refine evp ?_) | ((refine la_q2 rfl (by decide +kernel) ?_); (repeat (first | refine bk_nil ?_ | refine bk_t (by decide +kernel) ?_ | refine bk_f (by decide +kernel) ?_)); (try (conv => arg 1; simp [runT, hl2])); with_reducible refine evp ?_) | ((refine la_q1 rfl (by decide +kernel) ?_); (try (conv => arg 1; simp [runT, hl2])); with_reducible refine evp ?_) | ((refine la_g0 rfl ?_); (try (conv => arg 1; simp [runT, hl2])); with_reducible refine evp ?_; (with_reducible refine evp ?_); try ((try (conv => arg 1; simp [runT, hl2])); with_reducible refine evp ?_)))); (refine la_there ?_); (conv => arg 1; whnf))); first | ((refine la_q0 rfl ?_); (try (conv => arg 1; simp [runT, hl2])); with_reducible refine evp ?_) | ((refine la_n rfl rfl ?_); (try (conv => arg 1; simp [runT, hl2])); with_reducible refine evp ?_) | ((refine la_q2 rfl (by decide +kernel) ?_); (repeat (first | refine bk_nil ?_ | refine bk_t (by decide +kernel) ?_ | refine bk_f (by decide +kernel) ?_)); (try (conv => arg 1; simp [runT, hl2])); with_reducible refine evp ?_) | ((refine la_q1 rfl (by decide +kernel) ?_); (try (conv => arg 1; simp [runT, hl2])); with_reducible refine evp ?_) | ((refine la_g0 rfl ?_); (try (conv => arg 1; simp [runT, hl2])); with_reducible refine evp ?_; (with_reducible refine evp ?_); try ((try (conv => arg 1; simp [runT, hl2])); with_reducible refine evp ?_)))
      | ((with_reducible refine la_id ?_); refine la_all rfl ?_)
      | ((with_reducible refine all_id ?_); (conv => arg 1; whnf); first | exact all_nil | refine all_cons ?_ ?_)
      | (refine la_op rfl (by first | exact frm_s (by decide +kernel) | exact frm_a (by repeat' (first | exact fa_nil | refine fa_cons (by decide +kernel) ?_))) (by intro hq; first | exact trivial | (cases hq; done) | simp [appT, runT, hl2]) ?_; (repeat (first | refine bk_nil ?_ | refine bk_t (by decide +kernel) ?_ | refine bk_f (by decide +kernel) ?_)))
     | fail)
    repeat' (first
     | with_reducible refine stp ?_
     | with_reducible refine k_blk_o rfl ?_
     | with_reducible refine k_seq_n ?_
     | ((try (conv => arg 1; simp [runT, *])); with_reducible refine evp ?_)
     | ((with_reducible refine apn ?na ?_); (case na => simp [appNames, ints, intss] <;> first | kernel_rfl | (refine ⟨?_, ?_⟩ <;> kernel_rfl)))
     | fail)
    conv => arg 4; simp [endR, EndV.cells, *]
    refine dr_agg (.cons (.int _ _) (.cons (.int _ _) (.cons ?_ .nil)))
    refine (own_ints (ys := Out) ?_ List.take_length rfl).dr 0 _ _ rfl rfl
    simp [hp_next_rows, hp_rows_put]

section
variable {h : Hp} {nr : Nm} {c : Cpu} {wi w2 w3 w5 : AV} {bs : Bx} {os : Ox}
theorem l03Burn_stop {fu : Int} (x : Cx h ((nr, runOf fu c wi w2 w3 w5) :: bs) os) (hr : isRun c = false) :
    Sound Try.prog 78 [.ptr nr 0 0 0] h fun v h' => v = .bool false ∧ Cx h' ((nr, runOf fu c wi w2 w3 w5) :: bs) os := by
  have b := x.bxs
  simp only [Bxs, runOf] at b
  have hr' : c.Code = 0 → c.Over = true := fun e => by cases ho : c.Over with
    | true => rfl
    | false => rw [isRun_iff.2 ⟨e, ho⟩] at hr; cases hr
  refine enter mixed MW47 Try.func78 rfl (by kernel_rfl) rfl ?_
  by_cases hc : c.Code = 0
  · have ho := hr' hc
    repeat' (first
     | with_reducible refine stp ?_
     | with_reducible refine k_blk_o rfl ?_
     | with_reducible refine k_seq_n ?_
     | ((try (conv => arg 1; simp [b, hc, ho, ltS, nm_ne])); with_reducible refine evp ?_)
     | ((with_reducible refine apn ?na ?_); (case na => simp [appNames, ints, intss] <;> first | kernel_rfl | (refine ⟨?_, ?_⟩ <;> kernel_rfl)))
     | fail)
    exact ⟨rfl, Cx.to x⟩
  · skip
    repeat' (first
     | with_reducible refine stp ?_
     | with_reducible refine k_blk_o rfl ?_
     | with_reducible refine k_seq_n ?_
     | ((try (conv => arg 1; simp [b, hc, ltS, nm_ne])); with_reducible refine evp ?_)
     | ((with_reducible refine apn ?na ?_); (case na => simp [appNames, ints, intss] <;> first | kernel_rfl | (refine ⟨?_, ?_⟩ <;> kernel_rfl)))
     | fail)
    exact ⟨rfl, Cx.to x⟩
theorem l03Burn_none (x : Cx h ((nr, runOf 0 c wi w2 w3 w5) :: bs) os) (hr : isRun c = true) :
    Sound Try.prog 78 [.ptr nr 0 0 0] h fun v h' => v = .bool false ∧ Cx h' ((nr, runOf 0 { c with Code := 2 } wi w2 w3 w5) :: bs) os := by
  have b := x.bxs
  simp only [Bxs, runOf] at b
  obtain ⟨hc, ho⟩ := isRun_iff.1 hr
  refine enter mixed MW47 Try.func78 rfl (by kernel_rfl) rfl ?_
  obtain ⟨At, Regs, Slots, Mem, Input, Out, Code, Over, Val⟩ := c
  simp only at hc ho
  subst hc ho
  repeat' (first
   | with_reducible refine stp ?_
   | with_reducible refine k_blk_o rfl ?_
   | with_reducible refine k_seq_n ?_
   | ((try (conv => arg 1; simp [b, ltS, nm_ne])); with_reducible refine evp ?_)
   | ((with_reducible refine apn ?na ?_); (case na => simp [appNames, ints, intss] <;> first | kernel_rfl | (refine ⟨?_, ?_⟩ <;> kernel_rfl)))
   | fail)
  exact ⟨rfl, (x.next.next.next.next.box_set (r' := runOf 0 ⟨At, Regs, Slots, Mem, Input, Out, 2, false, Val⟩ wi w2 w3 w5)).next⟩
theorem l03Burn_run {n : Nat} (hn : n ≤ 100000) (x : Cx h ((nr, runOf ((n + 1 : Nat) : Int) c wi w2 w3 w5) :: bs) os) (hr : isRun c = true) :
    Sound Try.prog 78 [.ptr nr 0 0 0] h fun v h' => v = .bool true ∧ Cx h' ((nr, runOf n c wi w2 w3 w5) :: bs) os := by
  have b := x.bxs
  simp only [Bxs, runOf] at b
  obtain ⟨hc, ho⟩ := isRun_iff.1 hr
  have hz : ¬ (n : Int) + 1 = 0 := by omega
  have hw : IntKind.i64.wrap (n : Int) = n := wrap_id (by omega) (by omega)
  refine enter mixed MW47 Try.func78 rfl (by kernel_rfl) rfl ?_
  obtain ⟨At, Regs, Slots, Mem, Input, Out, Code, Over, Val⟩ := c
  simp only at hc ho
  subst hc ho
  repeat' (first
   | with_reducible refine stp ?_
   | with_reducible refine k_blk_o rfl ?_
   | with_reducible refine k_seq_n ?_
   | ((try (conv => arg 1; simp [b, hz, hw, ltS, nm_ne])); with_reducible refine evp ?_)
   | ((with_reducible refine apn ?na ?_); (case na => simp [appNames, ints, intss] <;> first | kernel_rfl | (refine ⟨?_, ?_⟩ <;> kernel_rfl)))
   | fail)
  exact ⟨rfl, (x.next.next.next.next.box_set (r' := runOf n ⟨At, Regs, Slots, Mem, Input, Out, 0, false, Val⟩ wi w2 w3 w5)).next⟩
end
end Go.Proofs.Ytfgaoojogididaa.AM

/-
  The spec's run of an image.
-/
set_option linter.unusedVariables false
set_option linter.unusedSimpArgs false
set_option maxRecDepth 4000
namespace Go.Proofs.Ytfgaoojogididaa.AM
open Go.RowKit

private def MW48 : FuncId → Mode := fun f => if f = 61 ∨ f = 78 ∨ f = 79 then .heap else if f = 62 then .fresh else .tree

def execL (m : Image) (A I : List Int) (fu : Int) : Int := if argsOk m A I && inB fu 0 100000 then (execC m A I fu.toNat).2 else 0
theorem Cx.dr_run {h : Hp} {nr : Nm} {fu : Int} {c : Cpu} {w1 w2 w3 w5 : AV} {n1 n2 n3 n5 : List Nm} {bs : Bx} {os : Ox} (x : Cx h ((nr, runOf fu c (ints true c.Input) w2 w3 w5) :: bs) ((w1, (fun b => ints b c.Regs), n1) :: (w2, (fun b => ints b c.Slots), n2) :: (w3, (fun b => intss b c.Mem), n3) :: (w5, (fun b => ints b c.Out), n5) :: os)) : DR true h.rows (.ptr nr 0 0 0) (.tptr true (runT fu c)) :=
  dr_ptr0 x.b0 rfl rfl (.cons (x.o2 true).dr (.cons (x.o1 true).dr (.cons (dr_ints (fun h => h) _) (.cons (.int _ _) (.cons (.int _ _) (.cons (.bool _) (.cons (.int _ _) (.cons (x.o3 true).dr .nil))))))))
theorem endR_run {m : Image} {c : Cpu} (g : Run m c) (h : isRun c = true) : endR { c with Code := 2 } = endOf c := by rw [g.end_run h]; simp [endR]
theorem endR_stop {m : Image} {c : Cpu} (g : Run m c) (h : isRun c = false) : endR c = endOf c := by
  rw [g.end_stop h]
  by_cases hc : c.Code = 0
  · simp [endR, hc]
  · simp [endR, hc, g.val hc]

theorem dr_tup2 {c : Bool} {rows : Nm → Option Row} {a b t u : AV} (h1 : DR c rows a t) (h2 : DR c rows b u) : DR c rows (.tup [a, b]) (.tup [t, u]) := have h : DRs c rows [a, b] [t, u] := .cons h1 (.cons h2 .nil); .tup _ _ h.1 h.2

set_option maxHeartbeats 4000000 in
theorem l14Exec (m : Image) (A I : List Int) (fu : Int) (hs : m.Sizes.length ≤ 2 ^ 62) (hcd : m.Code.length ≤ 2 ^ 62) (hA : A.length ≤ 2 ^ 20) (hI : I.length ≤ 2 ^ 20) :
    Pure Try.prog 59 [.agg (m.cells true), ints true A, ints true I, .int .i64 fu] (.tup [.agg ((execE m A I fu).cells false), .int .i64 (execL m A I fu)]) := by
  intro T
  have hok := specImageOk m hs hcd
  refine enter mixed MW48 Try.func59 rfl (by kernel_rfl) rfl ?_
  repeat' (first
   | with_reducible refine stp ?_
   | with_reducible refine k_blk_o rfl ?_
   | ((try (conv => arg 1; simp [Image.cells])); with_reducible refine evp ?_)
   | ((with_reducible refine apn ?na ?_); (case na => simp [appNames, ints, intss] <;> first | kernel_rfl | (refine ⟨?_, ?_⟩ <;> kernel_rfl)))
   | fail)
  refine cx_k ((Cx.mt.next.box_one (T := T) (i := 0) Cx.mt.off (by simp)).box_add (n := (T, 1, 0)) (by simp [nms]) (by simp)) ?_
  intro h1 x1
  have b1 := x1.bxs
  simp only [Bxs] at b1
  by_cases hg : (argsOk m A I && inB fu 0 100000) = true
  · have hg2 := hg
    simp only [argsOk, Bool.and_eq_true, decide_eq_true_eq] at hg2
    obtain ⟨⟨⟨g1, g2⟩, g3⟩, g4⟩ := hg2
    obtain ⟨n, rfl, hn⟩ := inB_nat g4
    have hc := imageOk_code g1
    have g3' : ¬ (100 : Int) < I.length := by omega
    have e1 : execE m A I n = endOf (execC m A I n).1 := by simp [execE, hg]
    have e2 : execL m A I n = (execC m A I n).2 := by simp [execL, hg]
    have hr0 := start_run (m := m) (A := A) (I := I) (by simp [argsOk, g1, g2, g3])
    rw [e1, e2]
    obtain ⟨s, hsl⟩ : ∃ s : Nat, m.Slots = (s : Int) := ⟨m.Slots.toNat, by omega⟩
    have es : m.Slots.toNat = s := by omega
    repeat' (first
     | with_reducible refine stp ?_
     | with_reducible refine k_blk_o rfl ?_
     | with_reducible refine k_seq_n ?_
     | ((try (conv => arg 1; simp [Image.cells, b1, g1, g2, g3', g4])); with_reducible refine evp ?_)
     | ((with_reducible refine apn ?na ?_); (case na => simp [appNames, ints, intss] <;> first | kernel_rfl | (refine ⟨?_, ?_⟩ <;> kernel_rfl)))
     | ((with_reducible refine tcl ?_); first | ((apply tg (hok)); (case e => rfl); (case d => (refine dq ?_); (repeat' (first | ((refine Da.mk ?_); first | exact dr_words (by simp) _ | assumption) | constructor)))) | ((apply tg (l01In _ _ _)); (case e => rfl); (case d => (refine dq ?_); (repeat' (first | ((refine Da.mk ?_); first | exact dr_words (by simp) _ | assumption) | constructor)))))
     | fail)
    have L := l03Start (x1.next.next) m.Sizes A I s n (by omega) (by omega) (by omega) (fun n hn => by have := hc.2.2.2.2.2.2.2.2.1 n hn; omega)
    rw [← hsl] at L
    refine st_heap rfl L ?_
    rintro v h2 ⟨nr, w2, w3, n2, n3, rfl, x2⟩
    rw [← es] at x2
    have b2 := x2.bxs
    simp only [Bxs, runOf] at b2
    repeat' (first
     | with_reducible refine stp ?_
     | with_reducible refine k_blk_o rfl ?_
     | with_reducible refine k_seq_n ?_
     | ((try (conv => arg 1; simp [b2, ltS, nm_ne])); with_reducible refine evp ?_)
     | ((with_reducible refine apn ?na ?_); (case na => simp [appNames, ints, intss] <;> first | kernel_rfl | (refine ⟨?_, ?_⟩ <;> kernel_rfl)))
     | fail)
    refine st_freshw rfl (l03Zeros 16 (by omega)) (.cons (.int _ _) .nil) ?_
    intro w1 h3 n1 o1 d1 f1 p1 t1
    have x3 := (x2.next.add_own (v := .nilsl) (t := fun b => ints b []) (ns := []) (fun b => .one (.nilsl .nil)) (by simp) (fun n hn => by simp at hn) (fun n hn => rfl) (Nat.le_refl _)).fresh o1 d1 f1 p1 t1
    have ok3 : OutV h3 .nilsl := fun n ver off len e => by cases e
    have b3 := x3.bxs
    simp only [Bxs, runOf] at b3
    repeat' (first
     | with_reducible refine stp ?_
     | with_reducible refine k_blk_o rfl ?_
     | with_reducible refine k_seq_n ?_
     | ((try (conv => arg 1; simp [b3, ltS, nm_ne])); with_reducible refine evp ?_)
     | ((with_reducible refine apn ?na ?_); (case na => simp [appNames, ints, intss] <;> first | kernel_rfl | (refine ⟨?_, ?_⟩ <;> kernel_rfl)))
     | fail)
    generalize hC : startC m.Sizes m.Slots.toNat A I = c0 at *
    have hC1 : c0.Input = I := by rw [← hC]; rfl
    have hC2 : c0.Out = [] := by rw [← hC]; rfl
    have hC3 : c0.Regs = zeros 16 := by rw [← hC]; rfl
    have hC4 : c0.At = 0 := by rw [← hC]; rfl
    have eC : execC m A I n = execN m n c0 := by rw [← hC]; rfl
    have x4 := x3.next.rot3.rot3.rot2
    rw [show (fun b => ints b []) = fun b => ints b c0.Out by rw [hC2], show (16 : Int).toNat = 16 by rfl, ← hC3, ← hC1] at x4
    refine st_loop (fun (k : Nat) σ h => k ≤ n ∧ σ 4 = .ptr (T, 0, 0) 0 0 0 ∧ σ 8 = .ptr (T, 1, 0) 0 0 0 ∧ σ 10 = .ptr nr 0 0 0 ∧ σ 11 = w1 ∧ ∃ at_ ck w5 n5, σ 12 = .int .i64 at_ ∧ Run m ck ∧ (isRun ck = true → at_ = ck.At) ∧ execN m k ck = execC m A I n ∧ ck.Out.length + k ≤ n ∧ ck.Input.length ≤ 100 ∧ OutV h w5 ∧
      Cx h [(nr, runOf k ck (ints true ck.Input) w2 w3 w5), ((T, 1, 0), ⟨0, 3, [[.int .i64 0, .int .i64 0, .nilsl]]⟩), ((T, 0, 0), ⟨0, 4, [[ints true m.Sizes, .int .i64 m.Params, .int .i64 m.Slots, words true m.Code]]⟩)]
        [(w1, (fun b => ints b ck.Regs), n1), (w2, (fun b => ints b ck.Slots), n2), (w3, (fun b => intss b ck.Mem), n3), (w5, (fun b => ints b ck.Out), n5)]) (fun k => k) n ?init ?step
    case init => exact ⟨Nat.le_refl _, by simp, by simp, by simp, by simp, 0, c0, .nilsl, [], by simp, hr0, fun _ => hC4.symm, eC.symm, by simp [hC2], by rw [hC1]; omega, (fun n ver off len e => by cases e), x4⟩
    case step =>
      rintro k σ h ⟨hk, s4, s8, s10, s11, at_, ck, w5, n5, s12, rk, hat, ek, lk, ik, ok, x⟩
      cases hr : isRun ck with
      | false =>
        repeat' (first
         | with_reducible refine stp ?_
         | with_reducible refine k_blk_o rfl ?_
         | with_reducible refine k_seq_n ?_
         | ((try (conv => arg 1; simp [s10])); with_reducible refine evp ?_)
         | ((with_reducible refine apn ?na ?_); (case na => simp [appNames, ints, intss] <;> first | kernel_rfl | (refine ⟨?_, ?_⟩ <;> kernel_rfl)))
         | fail)
        refine st_heap rfl (l03Burn_stop x.next hr) ?_
        rintro v h' ⟨rfl, x'⟩
        have b := x'.bxs
        simp only [Bxs, runOf] at b
        have hd := x'.dr_run
        have ap := x'.aps
        simp only [Aps, List.map_cons, List.map_nil, List.forall_mem_cons] at ap
        have E := l03End k ck (by omega)
        have ee := endR_stop rk hr
        rw [execN_stop hr] at ek
        repeat' (first
         | with_reducible refine stp ?_
         | with_reducible refine k_blk_o rfl ?_
         | with_reducible refine k_seq_n ?_
         | ((try (conv => arg 1; simp [s10])); with_reducible refine evp ?_)
         | ((with_reducible refine apn ?na ?_); (case na => simp [appNames, ints, intss] <;> first | kernel_rfl | (refine ⟨?_, ?_⟩ <;> kernel_rfl)))
         | fail)
        repeat (with_reducible first | refine stp ?_ | refine k_seq_n ?_)
        refine st_lz (by kernel_rfl) ?_
        have hF := And.intro s8 (And.intro s10 (And.intro b ap.1.1))
        repeat' (first
         | with_reducible refine stp ?_
         | with_reducible refine k_blk_o rfl ?_
         | ((try (conv => arg 1; simp [EndV.cells, hF])); with_reducible refine evp ?_)
         | ((with_reducible refine apn ?na ?_); (case na => simp [appNames, ints, intss] <;> first | kernel_rfl | (refine ⟨?_, ?_⟩ <;> kernel_rfl)))
         | ((with_reducible refine tcl ?_); first | ((apply tg (E)); (case e => rfl); (case d => (refine dq ?_); (repeat' (first | ((refine Da.mk ?_); first | exact hd | assumption) | constructor)))))
          | ((with_reducible refine la_id ?_); refine la_end rfl ?_; (repeat (first | refine pl_nil ?_ | refine pl_cons ?_)))
          | ((with_reducible refine la_id ?_); refine la_pick ?_; (conv => arg 1; whnf); (repeat ((fail_if_success (first | ((refine la_q0 rfl ?_); (try (conv => arg 1; simp [EndV.cells, hF])); with_reducible refine evp ?_) | ((refine la_n rfl rfl ?_); (try (conv => arg 1; simp [EndV.cells, hF])); with_reducible refine evp ?_) | ((refine la_q2 rfl (by decide +kernel) ?_); (repeat (first | refine bk_nil ?_ | refine bk_t (by decide +kernel) ?_ | refine bk_f (by decide +kernel) ?_)); (try (conv => arg 1; simp [EndV.cells, hF])); with_reducible refine evp ?_) | ((refine la_q1 rfl (by decide +kernel) ?_); (try (conv => arg 1; simp [EndV.cells, hF])); with_reducible refine evp ?_) | ((refine la_g0 rfl ?_); (try (conv => arg 1; simp [EndV.cells, hF])); with_reducible refine evp ?_; (with_reducible refine evp ?_); try ((try (conv => arg 1; simp [EndV.cells, hF])); with_reducible refine evp ?_)))); (refine la_there ?_); (conv => arg 1; whnf))); first | ((refine la_q0 rfl ?_); (try (conv => arg 1; simp [EndV.cells, hF])); with_reducible refine evp ?_) | ((refine la_n rfl rfl ?_); (try (conv => arg 1; simp [EndV.cells, hF])); with_reducible refine evp ?_) | ((refine la_q2 rfl (by decide +kernel) ?_); (repeat (first | refine bk_nil ?_ | refine bk_t (by decide +kernel) ?_ | refine bk_f (by decide +kernel) ?_)); (try (conv => arg 1; simp [EndV.cells, hF])); with_reducible refine evp ?_) | ((refine la_q1 rfl (by decide +kernel) ?_); (try (conv => arg 1; simp [EndV.cells, hF])); with_reducible refine evp ?_) | ((refine la_g0 rfl ?_); (try (conv => arg 1; simp [EndV.cells, hF])); with_reducible refine evp ?_; (with_reducible refine evp ?_); try ((try (conv => arg 1; simp [EndV.cells, hF])); with_reducible refine evp ?_)))
          | ((with_reducible refine la_id ?_); refine la_all rfl ?_)
          | ((with_reducible refine all_id ?_); (conv => arg 1; whnf); first | exact all_nil | refine all_cons ?_ ?_)
          | (refine la_op rfl (by first | exact frm_s (by decide +kernel) | exact frm_a (by repeat' (first | exact fa_nil | refine fa_cons (by decide +kernel) ?_))) (by intro hq; first | exact trivial | (cases hq; done) | simp [appT, EndV.cells, hF]) ?_; (repeat (first | refine bk_nil ?_ | refine bk_t (by decide +kernel) ?_ | refine bk_f (by decide +kernel) ?_)))
         | fail)
        all_goals
          rw [← ek]
          dsimp only
          rw [← ee]
          repeat' (first
           | with_reducible refine stp ?_
           | with_reducible refine k_blk_o rfl ?_
           | with_reducible refine k_seq_n ?_
           | ((try (conv => arg 1; simp [s8])); with_reducible refine evp ?_)
           | ((with_reducible refine apn ?na ?_); (case na => simp [appNames, ints, intss] <;> first | kernel_rfl | (refine ⟨?_, ?_⟩ <;> kernel_rfl)))
           | fail)
          exact dr_tup2 (dr_agg (drs_end _ (fun h => h))) (.int _ _)
      | true =>
        cases k with
        | zero =>
          repeat' (first
           | with_reducible refine stp ?_
           | with_reducible refine k_blk_o rfl ?_
           | with_reducible refine k_seq_n ?_
           | ((try (conv => arg 1; simp [s10])); with_reducible refine evp ?_)
           | ((with_reducible refine apn ?na ?_); (case na => simp [appNames, ints, intss] <;> first | kernel_rfl | (refine ⟨?_, ?_⟩ <;> kernel_rfl)))
           | fail)
          refine st_heap rfl (l03Burn_none x.next hr) ?_
          rintro v h' ⟨rfl, x'⟩
          have b := x'.bxs
          simp only [Bxs, runOf] at b
          have hd := x'.dr_run
          have ap := x'.aps
          simp only [Aps, List.map_cons, List.map_nil, List.forall_mem_cons] at ap
          have E := l03End 0 { ck with Code := 2 } (by show ck.Out.length ≤ 2 ^ 20; omega)
          have ee := endR_run rk hr
          rw [show execN m 0 ck = (ck, 0) from rfl] at ek
          repeat' (first
           | with_reducible refine stp ?_
           | with_reducible refine k_blk_o rfl ?_
           | with_reducible refine k_seq_n ?_
           | ((try (conv => arg 1; simp [s10])); with_reducible refine evp ?_)
           | ((with_reducible refine apn ?na ?_); (case na => simp [appNames, ints, intss] <;> first | kernel_rfl | (refine ⟨?_, ?_⟩ <;> kernel_rfl)))
           | fail)
          repeat (with_reducible first | refine stp ?_ | refine k_seq_n ?_)
          refine st_lz (by kernel_rfl) ?_
          have hF := And.intro s8 (And.intro s10 (And.intro b ap.1.1))
          repeat' (first
           | with_reducible refine stp ?_
           | with_reducible refine k_blk_o rfl ?_
           | ((try (conv => arg 1; simp [EndV.cells, hF])); with_reducible refine evp ?_)
           | ((with_reducible refine apn ?na ?_); (case na => simp [appNames, ints, intss] <;> first | kernel_rfl | (refine ⟨?_, ?_⟩ <;> kernel_rfl)))
           | ((with_reducible refine tcl ?_); first | ((apply tg (E)); (case e => rfl); (case d => (refine dq ?_); (repeat' (first | ((refine Da.mk ?_); first | exact hd | assumption) | constructor)))))
            | ((with_reducible refine la_id ?_); refine la_end rfl ?_; (repeat (first | refine pl_nil ?_ | refine pl_cons ?_)))
            | ((with_reducible refine la_id ?_); refine la_pick ?_; (conv => arg 1; whnf); (repeat ((fail_if_success (first | ((refine la_q0 rfl ?_); (try (conv => arg 1; simp [EndV.cells, hF])); with_reducible refine evp ?_) | ((refine la_n rfl rfl ?_); (try (conv => arg 1; simp [EndV.cells, hF])); with_reducible refine evp ?_) | ((refine la_q2 rfl (by decide +kernel) ?_); (repeat (first | refine bk_nil ?_ | refine bk_t (by decide +kernel) ?_ | refine bk_f (by decide +kernel) ?_)); (try (conv => arg 1; simp [EndV.cells, hF])); with_reducible refine evp ?_) | ((refine la_q1 rfl (by decide +kernel) ?_); (try (conv => arg 1; simp [EndV.cells, hF])); with_reducible refine evp ?_) | ((refine la_g0 rfl ?_); (try (conv => arg 1; simp [EndV.cells, hF])); with_reducible refine evp ?_; (with_reducible refine evp ?_); try ((try (conv => arg 1; simp [EndV.cells, hF])); with_reducible refine evp ?_)))); (refine la_there ?_); (conv => arg 1; whnf))); first | ((refine la_q0 rfl ?_); (try (conv => arg 1; simp [EndV.cells, hF])); with_reducible refine evp ?_) | ((refine la_n rfl rfl ?_); (try (conv => arg 1; simp [EndV.cells, hF])); with_reducible refine evp ?_) | ((refine la_q2 rfl (by decide +kernel) ?_); (repeat (first | refine bk_nil ?_ | refine bk_t (by decide +kernel) ?_ | refine bk_f (by decide +kernel) ?_)); (try (conv => arg 1; simp [EndV.cells, hF])); with_reducible refine evp ?_) | ((refine la_q1 rfl (by decide +kernel) ?_); (try (conv => arg 1; simp [EndV.cells, hF])); with_reducible refine evp ?_) | ((refine la_g0 rfl ?_); (try (conv => arg 1; simp [EndV.cells, hF])); with_reducible refine evp ?_; (with_reducible refine evp ?_); try ((try (conv => arg 1; simp [EndV.cells, hF])); with_reducible refine evp ?_)))
            | ((with_reducible refine la_id ?_); refine la_all rfl ?_)
            | ((with_reducible refine all_id ?_); (conv => arg 1; whnf); first | exact all_nil | refine all_cons ?_ ?_)
            | (refine la_op rfl (by first | exact frm_s (by decide +kernel) | exact frm_a (by repeat' (first | exact fa_nil | refine fa_cons (by decide +kernel) ?_))) (by intro hq; first | exact trivial | (cases hq; done) | simp [appT, EndV.cells, hF]) ?_; (repeat (first | refine bk_nil ?_ | refine bk_t (by decide +kernel) ?_ | refine bk_f (by decide +kernel) ?_)))
           | fail)
          all_goals
            rw [← ek]
            dsimp only
            rw [← ee]
            repeat' (first
             | with_reducible refine stp ?_
             | with_reducible refine k_blk_o rfl ?_
             | with_reducible refine k_seq_n ?_
             | ((try (conv => arg 1; simp [s8])); with_reducible refine evp ?_)
             | ((with_reducible refine apn ?na ?_); (case na => simp [appNames, ints, intss] <;> first | kernel_rfl | (refine ⟨?_, ?_⟩ <;> kernel_rfl)))
             | fail)
            exact dr_tup2 (dr_agg (drs_end _ (fun h => h))) (.int _ _)
        | succ k =>
          repeat' (first
           | with_reducible refine stp ?_
           | with_reducible refine k_blk_o rfl ?_
           | with_reducible refine k_seq_n ?_
           | ((try (conv => arg 1; simp [s10])); with_reducible refine evp ?_)
           | ((with_reducible refine apn ?na ?_); (case na => simp [appNames, ints, intss] <;> first | kernel_rfl | (refine ⟨?_, ?_⟩ <;> kernel_rfl)))
           | fail)
          refine st_heap rfl (l03Burn_run (by omega) x.next hr).esz ?_
          rintro v h' ⟨⟨rfl, x'⟩, z1⟩
          obtain ⟨i, w, e1, e2, e3⟩ := rk.good.at_ hr
          have ok' : OutV h' w5 := OutV.of_esz (h := h.next) ok (own_of (x'.o3 true) rfl) z1
          have b := x'.bxs
          simp only [Bxs] at b
          repeat' (first
           | with_reducible refine stp ?_
           | with_reducible refine k_blk_o rfl ?_
           | with_reducible refine k_seq_n ?_
           | ((try (conv => arg 1; simp [s4, s10, s11, s12, b, hat hr, e1, e2, words, Word.cells])); with_reducible refine evp ?_)
           | ((with_reducible refine apn ?na ?_); (case na => simp [appNames, ints, intss] <;> first | kernel_rfl | (refine ⟨?_, ?_⟩ <;> kernel_rfl)))
           | fail)
          have sp := (spec_word (rk.good.run hr).1 e1 e2 (by omega) (by omega)).2
          unfold SpecT at sp
          rw [e1] at sp
          refine st_heap rfl (sp _ nr k w1 w2 w3 w5 n1 n2 n3 n5 _ _ x'.next ok').esz ?_
          rintro v h2 ⟨⟨a, w5', n5', rfl, ha, x2, e5⟩, z2⟩
          have ok2 : OutV h2 w5' := by
            rcases e5 with rfl | e5
            · exact OutV.of_esz (h := h'.next) ok' (own_of (x2.o3 true) rfl) z2
            · exact e5
          rw [← e3] at ha x2
          have hs := stepC_slots ck w
          rw [← e3] at hs
          have eq : execN m k (nextC m ck) = execC m A I n := by rw [← ek, execN_run hr]
          repeat' (first
           | with_reducible refine stp ?_
           | with_reducible refine k_blk_o rfl ?_
           | with_reducible refine k_seq_n ?_
           | ((try (conv => arg 1; simp [s10])); with_reducible refine evp ?_)
           | ((with_reducible refine apn ?na ?_); (case na => simp [appNames, ints, intss] <;> first | kernel_rfl | (refine ⟨?_, ?_⟩ <;> kernel_rfl)))
           | fail)
          refine k_lp_n k (by omega) ⟨by omega, by simp [s4], by simp [s8], by simp [s10], by simp [s11], a, nextC m ck, w5', n5', by simp, rk.next hr, fun e => ha (isRun_iff.1 e), eq, by omega, by omega, ok2, x2⟩
  · have e1 : execE m A I fu = ⟨3, 0, []⟩ := by simp [execE, hg]
    have e2 : execL m A I fu = 0 := by simp [execL, hg]
    rw [e1, e2]
    have fin : ∀ h' : Hp, DR false h'.rows (.tup [.agg [.int .i64 3, .int .i64 0, .nilsl], .int .i64 0]) (.tup [.agg (EndV.cells false ⟨3, 0, []⟩), .int .i64 0]) := fun h' => dr_tup2 (dr_agg (.cons (.int _ _) (.cons (.int _ _) (.cons .nilsl .nil)))) (.int _ _)
    cases g1 : imageOk m with
    | false =>
      repeat' (first
       | with_reducible refine stp ?_
       | with_reducible refine k_blk_o rfl ?_
       | with_reducible refine k_seq_n ?_
       | ((try (conv => arg 1; simp [Image.cells, b1, g1, nm_ne, ltS])); with_reducible refine evp ?_)
       | ((with_reducible refine apn ?na ?_); (case na => simp [appNames, ints, intss] <;> first | kernel_rfl | (refine ⟨?_, ?_⟩ <;> kernel_rfl)))
       | ((with_reducible refine tcl ?_); first | ((apply tg (hok)); (case e => rfl); (case d => (refine dq ?_); (repeat' (first | ((refine Da.mk ?_); first | exact dr_words (by simp) _ | assumption) | constructor)))))
       | fail)
      exact fin _
    | true =>
      by_cases g2 : (A.length : Int) = m.Params
      · by_cases g3 : (100 : Int) < I.length
        · skip
          repeat' (first
           | with_reducible refine stp ?_
           | with_reducible refine k_blk_o rfl ?_
           | with_reducible refine k_seq_n ?_
           | ((try (conv => arg 1; simp [Image.cells, b1, g1, g2, g3, nm_ne, ltS])); with_reducible refine evp ?_)
           | ((with_reducible refine apn ?na ?_); (case na => simp [appNames, ints, intss] <;> first | kernel_rfl | (refine ⟨?_, ?_⟩ <;> kernel_rfl)))
           | ((with_reducible refine tcl ?_); first | ((apply tg (hok)); (case e => rfl); (case d => (refine dq ?_); (repeat' (first | ((refine Da.mk ?_); first | exact dr_words (by simp) _ | assumption) | constructor)))))
           | fail)
          exact fin _
        · cases g4 : inB fu 0 100000 with
          | false =>
            repeat' (first
             | with_reducible refine stp ?_
             | with_reducible refine k_blk_o rfl ?_
             | with_reducible refine k_seq_n ?_
             | ((try (conv => arg 1; simp [Image.cells, b1, g1, g2, g3, g4, nm_ne, ltS])); with_reducible refine evp ?_)
             | ((with_reducible refine apn ?na ?_); (case na => simp [appNames, ints, intss] <;> first | kernel_rfl | (refine ⟨?_, ?_⟩ <;> kernel_rfl)))
             | ((with_reducible refine tcl ?_); first | ((apply tg (hok)); (case e => rfl); (case d => (refine dq ?_); (repeat' (first | ((refine Da.mk ?_); first | exact dr_words (by simp) _ | assumption) | constructor)))) | ((apply tg (l01In _ _ _)); (case e => rfl); (case d => (refine dq ?_); (repeat' (first | ((refine Da.mk ?_); first | exact dr_words (by simp) _ | assumption) | constructor)))))
             | fail)
            exact fin _
          | true =>
            exfalso
            simp [argsOk, g1, g2, g4] at hg
            omega
      · skip
        repeat' (first
         | with_reducible refine stp ?_
         | with_reducible refine k_blk_o rfl ?_
         | with_reducible refine k_seq_n ?_
         | ((try (conv => arg 1; simp [Image.cells, b1, g1, g2, nm_ne, ltS])); with_reducible refine evp ?_)
         | ((with_reducible refine apn ?na ?_); (case na => simp [appNames, ints, intss] <;> first | kernel_rfl | (refine ⟨?_, ?_⟩ <;> kernel_rfl)))
         | ((with_reducible refine tcl ?_); first | ((apply tg (hok)); (case e => rfl); (case d => (refine dq ?_); (repeat' (first | ((refine Da.mk ?_); first | exact dr_words (by simp) _ | assumption) | constructor)))))
         | fail)
        exact fin _
end Go.Proofs.Ytfgaoojogididaa.AM

/-
  The spec's run of an image: its end, its cost.
-/
set_option linter.unusedVariables false
set_option linter.unusedSimpArgs false
set_option maxRecDepth 4000
namespace Go.Proofs.Ytfgaoojogididaa.AM
open Go.RowKit

private def MW50 : FuncId → Mode := fun f => .tree

theorem endOf_code {m : Image} {c : Cpu} (g : Run m c) : (endOf c).Code ≠ 3 := by
  cases hr : isRun c with
  | true => rw [g.end_run hr]; simp
  | false =>
    rw [g.end_stop hr]
    show c.Code ≠ 3
    have := g.code
    omega
theorem execE_code (m : Image) (A I : List Int) {fu : Int} (hf : inB fu 0 100000 = true) : ((execE m A I fu).Code = 3) = (argsOk m A I = false) := by
  cases h : argsOk m A I with
  | false => simp [execE, h]
  | true =>
    obtain ⟨n, rfl, hn⟩ := inB_nat hf
    have := endOf_code (execN_ok n _ (start_run h)).1
    have e : execE m A I n = endOf (execC m A I n).1 := by simp [execE, h, hf]
    rw [e]
    simpa [execC] using this

theorem specExec (m : Image) (A I : List Int) (fu : Int) (hs : m.Sizes.length ≤ 2 ^ 62) (hcd : m.Code.length ≤ 2 ^ 62) (hA : A.length ≤ 2 ^ 20) (hI : I.length ≤ 2 ^ 20) :
    Pure Try.prog 35 [.agg (m.cells true), ints true A, ints true I, .int .i64 fu] (.agg ((execE m A I fu).cells false)) := by
  intro T
  have E := l14Exec m A I fu hs hcd hA hI
  refine enter mixed MW50 Try.func35 rfl (by kernel_rfl) rfl ?_
  repeat' (first
   | with_reducible refine stp ?_
   | with_reducible refine k_blk_o rfl ?_
   | with_reducible refine k_seq_n ?_
   | ((try (conv => arg 1; simp [Image.cells, EndV.cells])); with_reducible refine evp ?_)
   | ((with_reducible refine apn ?na ?_); (case na => simp [appNames, ints, intss] <;> first | kernel_rfl | (refine ⟨?_, ?_⟩ <;> kernel_rfl)))
   | ((with_reducible refine tcl ?_); first | ((apply tg (E)); (case e => rfl); (case d => (refine dq ?_); (repeat' (first | ((refine Da.mk ?_); first | exact dr_words (by simp) _ | assumption) | constructor)))))
   | fail)
  exact dr_agg (drs_end (execE m A I fu) (fun h => h))

theorem specCost (m : Image) (A I : List Int) (hs : m.Sizes.length ≤ 2 ^ 62) (hcd : m.Code.length ≤ 2 ^ 62) (hA : A.length ≤ 2 ^ 20) (hI : I.length ≤ 2 ^ 20) :
    Pure Try.prog 26 [.agg (m.cells true), ints true A, ints true I] (.int .i64 (costE m A I)) := by
  intro T
  have E := l14Exec m A I 100000 hs hcd hA hI
  have hc := execE_code m A I (fu := 100000) (by decide)
  have hb : inB 100000 0 100000 = true := by decide
  refine enter mixed MW50 Try.func26 rfl (by kernel_rfl) rfl ?_
  cases h : argsOk m A I with
  | false =>
    have hc2 : (execE m A I 100000).Code = 3 := by rw [hc]; exact h
    have e : costE m A I = -1 := by simp [costE, h]
    rw [e]
    repeat' (first
     | with_reducible refine stp ?_
     | with_reducible refine k_blk_o rfl ?_
     | with_reducible refine k_seq_n ?_
     | ((try (conv => arg 1; simp [Image.cells, EndV.cells, hc2])); with_reducible refine evp ?_)
     | ((with_reducible refine apn ?na ?_); (case na => simp [appNames, ints, intss] <;> first | kernel_rfl | (refine ⟨?_, ?_⟩ <;> kernel_rfl)))
     | ((with_reducible refine tcl ?_); first | ((apply tg (E)); (case e => rfl); (case d => (refine dq ?_); (repeat' (first | ((refine Da.mk ?_); first | exact dr_words (by simp) _ | assumption) | constructor)))))
     | fail)
    exact .int _ _
  | true =>
    have hc2 : ¬ (execE m A I 100000).Code = 3 := by rw [hc, h]; simp
    have e2 : execL m A I 100000 = (execC m A I 100000).2 := by simp [execL, h, hb]
    have hl := (execN_ok 100000 _ (start_run h)).2.1
    have e : costE m A I = 100000 - (execC m A I 100000).2 := by simp [costE, h]
    have hw : IntKind.i64.wrap (100000 - ((execC m A I 100000).2 : Int)) = 100000 - (execC m A I 100000).2 := wrap_id (by unfold execC; omega) (by unfold execC; omega)
    rw [e]
    repeat' (first
     | with_reducible refine stp ?_
     | with_reducible refine k_blk_o rfl ?_
     | with_reducible refine k_seq_n ?_
     | ((try (conv => arg 1; simp [Image.cells, EndV.cells, hc2, e2, hw])); with_reducible refine evp ?_)
     | ((with_reducible refine apn ?na ?_); (case na => simp [appNames, ints, intss] <;> first | kernel_rfl | (refine ⟨?_, ?_⟩ <;> kernel_rfl)))
     | ((with_reducible refine tcl ?_); first | ((apply tg (E)); (case e => rfl); (case d => (refine dq ?_); (repeat' (first | ((refine Da.mk ?_); first | exact dr_words (by simp) _ | assumption) | constructor)))))
     | fail)
    exact .int _ _
end Go.Proofs.Ytfgaoojogididaa.AM

/-
  Arguments that are whole numbers, and slices of them.
-/
set_option linter.unusedVariables false
namespace Go.Proofs.Ytfgaoojogididaa.AM
open Go.RowKit

theorem av_oneX {P : Program} {t : TypeId} {d : TypeDesc} (h : P.underlying t = some d) (hd : (match d with | .struct _ => false | _ => true) = true) (c : AV) : avOf P t [c] = c := by
  unfold avOf
  rw [h]
  cases d <;> first | rfl | cases hd
theorem av3 (c : AV) : avOf Try.prog 3 [c] = c := av_oneX und_3 rfl c
theorem av22 (c : AV) : avOf Try.prog 22 [c] = c := av_oneX und_22 rfl c
end Go.Proofs.Ytfgaoojogididaa.AM

/-
  The program's run of an image: its end, its cost; a stepper at first.
-/
set_option linter.unusedVariables false
set_option linter.unusedSimpArgs false
set_option maxRecDepth 4000
namespace Go.Proofs.Ytfgaoojogididaa.AM
open Go.RowKit

private def MW52 : FuncId → Mode := fun f => if f = 60 ∨ f = 63 then .heap else if f = 66 then .fresh else .tree

set_option maxHeartbeats 8000000 in
theorem runEnd (c : Cpu) (u : Int) (s : Bool) (hl : c.Out.length ≤ 2 ^ 20) : FreshW Try.prog 66 [.tptr true (c.cells true ++ [.int .i64 u, .bool s])] (fun b => .agg ((⟨if s = true then 2 else c.Code, c.Val, c.Out⟩ : EndV).cells b)) := by
  obtain ⟨At, Regs, Slots, Mem, Input, Out, Code, Over, Val⟩ := c
  simp only at hl
  intro T
  have hl2 : Out.length ≤ 4294967296 := by omega
  have hnil : True := trivial
  refine enter mixed MW52 Try.func66 rfl (by kernel_rfl) rfl ?_
  cases s
  all_goals
    repeat' (first
     | with_reducible refine stp ?_
     | with_reducible refine k_blk_o rfl ?_
     | ((try (conv => arg 1; simp [hnil])); with_reducible refine evp ?_)
     | ((with_reducible refine apn ?na ?_); (case na => simp [appNames, ints, intss] <;> first | kernel_rfl | (refine ⟨?_, ?_⟩ <;> kernel_rfl)))
     | fail)
    repeat (with_reducible first | refine stp ?_ | refine k_seq_n ?_)
    refine st_lz (by kernel_rfl) ?_
    repeat' (first
     | with_reducible refine stp ?_
     | with_reducible refine k_blk_o rfl ?_
     | ((try (conv => arg 1; simp [Cpu.cells, hl2])); with_reducible refine evp ?_)
     | ((with_reducible refine apn ?na ?_); (case na => simp [appNames, ints, intss] <;> first | kernel_rfl | (refine ⟨?_, ?_⟩ <;> kernel_rfl)))
      | ((with_reducible refine la_id ?_); refine la_end rfl ?_; (repeat (first | refine pl_nil ?_ | refine pl_cons ?_)))
      | ((with_reducible refine la_id ?_); refine la_pick ?_; (conv => arg 1; whnf); (repeat ((fail_if_success (first | ((refine la_q0 rfl ?_); (try (conv => arg 1; simp [Cpu.cells, hl2])); with_reducible refine evp ?_) | ((refine la_n rfl rfl ?_); (try (conv => arg 1; simp [Cpu.cells, hl2])); with_reducible refine evp ?_) | ((refine la_q2 rfl (by decide +kernel) ?_); (repeat (first | refine bk_nil ?_ | refine bk_t (by decide +kernel) ?_ | refine bk_f (by decide +kernel) ?_)); (try (conv => arg 1; simp [Cpu.cells, hl2])); with_reducible refine evp ?_) | ((refine la_q1 rfl (by decide +kernel) ?_); (try (conv => arg 1; simp [Cpu.cells, hl2])); with_reducible refine evp ?_) | ((refine la_g0 rfl ?_); (try (conv => arg 1; simp [Cpu.cells, hl2])); with_reducible refine evp ?_; (with_reducible refine evp ?_); try ((try (conv => arg 1; simp [Cpu.cells, hl2])); with_reducible refine evp ?_)))); (refine la_there ?_); (conv => arg 1; whnf))); first | ((refine la_q0 rfl ?_); (try (conv => arg 1; simp [Cpu.cells, hl2])); with_reducible refine evp ?_) | ((refine la_n rfl rfl ?_); (try (conv => arg 1; simp [Cpu.cells, hl2])); with_reducible refine evp ?_) | ((refine la_q2 rfl (by decide +kernel) ?_); (repeat (first | refine bk_nil ?_ | refine bk_t (by decide +kernel) ?_ | refine bk_f (by decide +kernel) ?_)); (try (conv => arg 1; simp [Cpu.cells, hl2])); with_reducible refine evp ?_) | ((refine la_q1 rfl (by decide +kernel) ?_); (try (conv => arg 1; simp [Cpu.cells, hl2])); with_reducible refine evp ?_) | ((refine la_g0 rfl ?_); (try (conv => arg 1; simp [Cpu.cells, hl2])); with_reducible refine evp ?_; (with_reducible refine evp ?_); try ((try (conv => arg 1; simp [Cpu.cells, hl2])); with_reducible refine evp ?_)))
      | ((with_reducible refine la_id ?_); refine la_all rfl ?_)
      | ((with_reducible refine all_id ?_); (conv => arg 1; whnf); first | exact all_nil | refine all_cons ?_ ?_)
      | (refine la_op rfl (by first | exact frm_s (by decide +kernel) | exact frm_a (by repeat' (first | exact fa_nil | refine fa_cons (by decide +kernel) ?_))) (by intro hq; first | exact trivial | (cases hq; done) | simp [appT, Cpu.cells, hl2]) ?_; (repeat (first | refine bk_nil ?_ | refine bk_t (by decide +kernel) ?_ | refine bk_f (by decide +kernel) ?_)))
     | fail)
    repeat' (first
     | with_reducible refine stp ?_
     | with_reducible refine k_blk_o rfl ?_
     | with_reducible refine k_seq_n ?_
     | ((try (conv => arg 1; simp [Cpu.cells, hl2])); with_reducible refine evp ?_)
     | ((with_reducible refine apn ?na ?_); (case na => simp [appNames, ints, intss] <;> first | kernel_rfl | (refine ⟨?_, ?_⟩ <;> kernel_rfl)))
     | fail)
    refine ⟨[(T + 1, 5, 0)], fun b => ?_, by simp, by simp [hp_next_tick, hp_put_tick, hp_mt_tick] <;> omega⟩
    simp only [resV]
    conv => arg 4; simp [EndV.cells, *]
    refine .agg (.int _ _ (.int _ _ ?_))
    refine own_ints (ys := Out) ?_ List.take_length rfl
    simp [hp_next_rows, hp_rows_put]

/-- The end of a run, as both sides reckon it. -/
theorem runP_end (m : Image) (A I : List Int) (fu : Int) : (⟨if (runP m A I fu).2.2 = true then 2 else (runP m A I fu).1.Code, (runP m A I fu).1.Val, (runP m A I fu).1.Out⟩ : EndV) = execE m A I fu := by
  cases h : (argsOk m A I && inB fu 0 100000) with
  | false => simp [runP, execE, h, failCpu]
  | true =>
    have h2 := h
    simp only [Bool.and_eq_true] at h2
    obtain ⟨n, rfl, hn⟩ := inB_nat h2.2
    have e1 : runP m A I n = ((execC m A I n).1, (n : Int) - (execC m A I n).2, isRun (execC m A I n).1) := by simp [runP, h]
    have e2 : execE m A I n = endOf (execC m A I n).1 := by simp [execE, h]
    have g := (execN_ok n _ (start_run h2.1)).1
    rw [e1, e2]
    dsimp only
    have g : Run m (execC m A I n).1 := g
    cases hr : isRun (execC m A I n).1 with
    | true => rw [g.end_run hr, if_pos rfl, (g.good.run hr).2]
    | false => rw [g.end_stop hr, if_neg (by simp)]
theorem runP_out (m : Image) (A I : List Int) (fu : Int) : (runP m A I fu).1.Out.length ≤ 100000 := by
  cases h : (argsOk m A I && inB fu 0 100000) with
  | false => simp [runP, h, failCpu]
  | true =>
    have h2 := h
    simp only [Bool.and_eq_true] at h2
    obtain ⟨n, rfl, hn⟩ := inB_nat h2.2
    have e1 : runP m A I n = ((execC m A I n).1, (n : Int) - (execC m A I n).2, isRun (execC m A I n).1) := by simp [runP, h]
    have g := (execN_ok n _ (start_run h2.1)).2.2
    rw [e1]
    simp [startC, execC] at g ⊢
    omega
theorem execE_out (m : Image) (A I : List Int) (fu : Int) : (execE m A I fu).Out.length ≤ 100000 := by
  rw [← runP_end]
  exact runP_out m A I fu
theorem runP_cost (m : Image) (A I : List Int) : (if (runP m A I 100000).1.Code = 3 then -1 else (runP m A I 100000).2.1) = costE m A I := by
  have hb : inB 100000 0 100000 = true := by decide
  cases h : argsOk m A I with
  | false => simp [runP, costE, h, failCpu]
  | true =>
    have e1 : runP m A I 100000 = ((execC m A I 100000).1, (100000 : Int) - (execC m A I 100000).2, isRun (execC m A I 100000).1) := by simp [runP, h, hb]
    have g := (execN_ok 100000 _ (start_run h)).1.code
    have g : (execC m A I 100000).1.Code = 0 ∨ (execC m A I 100000).1.Code = 1 := g
    rw [e1, if_neg (by dsimp only; omega)]
    simp [costE, h]

set_option maxHeartbeats 1000000 in
theorem implExec (m : Image) (A I : List Int) (fu : Int) (hs : m.Sizes.length ≤ 2 ^ 62) (hcd : m.Code.length ≤ 2 ^ 62) (hA : A.length ≤ 2 ^ 20) (hI : I.length ≤ 2 ^ 20) :
    FreshW Try.prog 36 [.agg (m.cells true), ints true A, ints true I, .int .i64 fu] (fun b => .agg ((execE m A I fu).cells b)) := by
  intro T
  refine enter mixed MW52 Try.func36 rfl (by kernel_rfl) rfl ?_
  repeat' (first
   | with_reducible refine stp ?_
   | with_reducible refine k_blk_o rfl ?_
   | ((try (conv => arg 1; simp [Image.cells])); with_reducible refine evp ?_)
   | ((with_reducible refine apn ?na ?_); (case na => simp [appNames, ints, intss] <;> first | kernel_rfl | (refine ⟨?_, ?_⟩ <;> kernel_rfl)))
   | fail)
  refine cx_k ((Cx.mt.next.box_one (T := T) (i := 0) Cx.mt.off (by simp)).box_add (n := (T, 1, 0)) (by simp [nms]) (by simp)) ?_
  intro h1 x1
  have b1 := x1.bxs
  simp only [Bxs] at b1
  repeat' (first
   | with_reducible refine stp ?_
   | with_reducible refine k_blk_o rfl ?_
   | with_reducible refine k_seq_n ?_
   | ((try (conv => arg 1; simp [b1, nm_ne, ltS])); with_reducible refine evp ?_)
   | ((with_reducible refine apn ?na ?_); (case na => simp [appNames, ints, intss] <;> first | kernel_rfl | (refine ⟨?_, ?_⟩ <;> kernel_rfl)))
   | fail)
  refine st_heap rfl (exec m A I fu hs hcd hA hI x1.next) ?_
  rintro v h2 ⟨nb, l, ns, rfl, x2⟩
  have b2 := x2.bxs
  simp only [Bxs] at b2
  repeat' (first
   | with_reducible refine stp ?_
   | with_reducible refine k_blk_o rfl ?_
   | with_reducible refine k_seq_n ?_
   | ((try (conv => arg 1; simp [b2, nm_ne, ltS])); with_reducible refine evp ?_)
   | ((with_reducible refine apn ?na ?_); (case na => simp [appNames, ints, intss] <;> first | kernel_rfl | (refine ⟨?_, ?_⟩ <;> kernel_rfl)))
   | fail)
  refine st_freshw rfl (runEnd _ _ _ (by have := runP_out m A I fu; omega)) (.cons (x2.dr_boxX (fun _ => .int _ _) (fun _ => .bool _)) .nil) ?_
  rw [runP_end]
  intro v h3 n3 o3 d3 f3 p3 t3
  have x3 := x2.fresh o3 d3 f3 p3 t3
  obtain ⟨w, rfl, ow⟩ := ownV_end (o3 true)
  have q := own_one ow
  have b3 := x3.bxs
  simp only [Bxs] at b3
  repeat' (first
   | with_reducible refine stp ?_
   | with_reducible refine k_blk_o rfl ?_
   | with_reducible refine k_seq_n ?_
   | ((try (conv => arg 1; simp [b3, q.1, nm_ne, ltS])); with_reducible refine evp ?_)
   | ((with_reducible refine apn ?na ?_); (case na => simp [appNames, ints, intss] <;> first | kernel_rfl | (refine ⟨?_, ?_⟩ <;> kernel_rfl)))
   | fail)
  have x4 := (Cx.to (h' := h3.put (T, 1, 0) ⟨0, 3, [[.int .i64 (execE m A I fu).Code, .int .i64 (execE m A I fu).Val, w]]⟩) x3)
  exact ⟨_, x4.o0, x4.nodup, x4.lts⟩

set_option maxHeartbeats 1000000 in
theorem implCost (m : Image) (A I : List Int) (hs : m.Sizes.length ≤ 2 ^ 62) (hcd : m.Code.length ≤ 2 ^ 62) (hA : A.length ≤ 2 ^ 20) (hI : I.length ≤ 2 ^ 20) :
    Pure Try.prog 28 [.agg (m.cells true), ints true A, ints true I] (.int .i64 (costE m A I)) := by
  intro T
  refine enter mixed MW52 Try.func28 rfl (by kernel_rfl) rfl ?_
  repeat' (first
   | with_reducible refine stp ?_
   | with_reducible refine k_blk_o rfl ?_
   | ((try (conv => arg 1; simp [Image.cells])); with_reducible refine evp ?_)
   | ((with_reducible refine apn ?na ?_); (case na => simp [appNames, ints, intss] <;> first | kernel_rfl | (refine ⟨?_, ?_⟩ <;> kernel_rfl)))
   | fail)
  refine cx_k (Cx.mt.next.box_one (T := T) (i := 0) Cx.mt.off (by simp)) ?_
  intro h1 x1
  have b1 := x1.bxs
  simp only [Bxs] at b1
  repeat' (first
   | with_reducible refine stp ?_
   | with_reducible refine k_blk_o rfl ?_
   | with_reducible refine k_seq_n ?_
   | ((try (conv => arg 1; simp [b1, nm_ne, ltS])); with_reducible refine evp ?_)
   | ((with_reducible refine apn ?na ?_); (case na => simp [appNames, ints, intss] <;> first | kernel_rfl | (refine ⟨?_, ?_⟩ <;> kernel_rfl)))
   | fail)
  refine st_heap rfl (exec m A I 100000 hs hcd hA hI x1.next) ?_
  rintro v h2 ⟨nb, l, ns, rfl, x2⟩
  have ec := runP_cost m A I
  obtain ⟨w1, w2, w3, w4, w5, m1, m2, m3, m4, m5, rfl, y⟩ := x2.cpu_split
  have b2 := y.bxs
  simp only [Bxs, boxX] at b2
  by_cases hc : (runP m A I 100000).1.Code = 3
  · rw [if_pos hc] at ec
    rw [← ec]
    repeat' (first
     | with_reducible refine stp ?_
     | with_reducible refine k_blk_o rfl ?_
     | with_reducible refine k_seq_n ?_
     | ((try (conv => arg 1; simp [b2, hc, nm_ne, ltS])); with_reducible refine evp ?_)
     | ((with_reducible refine apn ?na ?_); (case na => simp [appNames, ints, intss] <;> first | kernel_rfl | (refine ⟨?_, ?_⟩ <;> kernel_rfl)))
     | fail)
    exact .int _ _
  · rw [if_neg hc] at ec
    rw [← ec]
    repeat' (first
     | with_reducible refine stp ?_
     | with_reducible refine k_blk_o rfl ?_
     | with_reducible refine k_seq_n ?_
     | ((try (conv => arg 1; simp [b2, hc, nm_ne, ltS])); with_reducible refine evp ?_)
     | ((with_reducible refine apn ?na ?_); (case na => simp [appNames, ints, intss] <;> first | kernel_rfl | (refine ⟨?_, ?_⟩ <;> kernel_rfl)))
     | fail)
    exact .int _ _
end Go.Proofs.Ytfgaoojogididaa.AM

/-
  The law of Cost.
-/
set_option linter.unusedVariables false
set_option linter.unusedSimpArgs false
set_option maxRecDepth 4000
namespace Go.Proofs.Ytfgaoojogididaa.AM
open Go.RowKit

private def MLCost : FuncId → Mode := fun f => if f = 14 ∨ f = 23 ∨ f = 27 then .fresh else if f = 18 ∨ f = 32 ∨ f = 33 ∨ f = 19 then .heap else .tree

set_option maxHeartbeats 2000000 in
theorem lawCost (m : Image) (aa : List Int) (bb : List Int) (d_m : m.Data) (d_aa : aa.length ≤ maxLen) (d_bb : bb.length ≤ maxLen) : Sound Try.prog 5 [.agg (m.cells true), ints true aa, ints true bb] (.mt 0) fun v _ => v = .bool true := by
  have hnil : True := trivial
  refine enter mixed MLCost Try.func5 rfl (by kernel_rfl) rfl ?_
  repeat' (first
   | with_reducible refine stp ?_
   | with_reducible refine k_blk_o rfl ?_
   | ((try (conv => arg 1; simp [Image.cells])); with_reducible refine evp ?_)
   | ((with_reducible refine apn ?na ?_); (case na => simp [appNames, ints, intss] <;> first | kernel_rfl | (refine ⟨?_, ?_⟩ <;> kernel_rfl)))
   | fail)
  refine cx_k Cx.mt_box ?_
  intro h1 x1
  repeat' (first
   | with_reducible refine stp ?_
   | with_reducible refine k_blk_o rfl ?_
   | ((try (conv => arg 1; simp [hnil])); with_reducible refine evp ?_)
   | ((with_reducible refine apn ?na ?_); (case na => simp [appNames, ints, intss] <;> first | kernel_rfl | (refine ⟨?_, ?_⟩ <;> kernel_rfl)))
   | fail)
  refine cx_k x1.next ?_
  intro h2 x2
  by_cases hl_aa : (1048576 : Int) < (aa.length : Int)
  · skip
    repeat' (first
     | with_reducible refine stp ?_
     | with_reducible refine k_blk_o rfl ?_
     | with_reducible refine k_seq_n ?_
     | ((try (conv => arg 1; simp [hl_aa])); with_reducible refine evp ?_)
     | ((with_reducible refine apn ?na ?_); (case na => simp [appNames, ints, intss] <;> first | kernel_rfl | (refine ⟨?_, ?_⟩ <;> kernel_rfl)))
     | fail)
    rfl
  have hq_aa := hl_aa
  repeat' (first
   | with_reducible refine stp ?_
   | with_reducible refine k_blk_o rfl ?_
   | ((try (conv => arg 1; simp [hl_aa])); with_reducible refine evp ?_)
   | ((with_reducible refine apn ?na ?_); (case na => simp [appNames, ints, intss] <;> first | kernel_rfl | (refine ⟨?_, ?_⟩ <;> kernel_rfl)))
   | fail)
  refine k_seq_n ?_
  replace hl_aa : aa.length ≤ 2 ^ 20 := by omega
  repeat' (first
   | with_reducible refine stp ?_
   | with_reducible refine k_blk_o rfl ?_
   | ((try (conv => arg 1; simp [hnil])); with_reducible refine evp ?_)
   | ((with_reducible refine apn ?na ?_); (case na => simp [appNames, ints, intss] <;> first | kernel_rfl | (refine ⟨?_, ?_⟩ <;> kernel_rfl)))
   | fail)
  refine cx_k x2.next ?_
  intro h3 x3
  by_cases hl_bb : (1048576 : Int) < (bb.length : Int)
  · skip
    repeat' (first
     | with_reducible refine stp ?_
     | with_reducible refine k_blk_o rfl ?_
     | with_reducible refine k_seq_n ?_
     | ((try (conv => arg 1; simp [hl_bb])); with_reducible refine evp ?_)
     | ((with_reducible refine apn ?na ?_); (case na => simp [appNames, ints, intss] <;> first | kernel_rfl | (refine ⟨?_, ?_⟩ <;> kernel_rfl)))
     | fail)
    rfl
  have hq_bb := hl_bb
  repeat' (first
   | with_reducible refine stp ?_
   | with_reducible refine k_blk_o rfl ?_
   | ((try (conv => arg 1; simp [hl_bb])); with_reducible refine evp ?_)
   | ((with_reducible refine apn ?na ?_); (case na => simp [appNames, ints, intss] <;> first | kernel_rfl | (refine ⟨?_, ?_⟩ <;> kernel_rfl)))
   | fail)
  refine k_seq_n ?_
  replace hl_bb : bb.length ≤ 2 ^ 20 := by omega
  repeat' (first
   | with_reducible refine stp ?_
   | with_reducible refine k_blk_o rfl ?_
   | ((try (conv => arg 1; simp [hnil])); with_reducible refine evp ?_)
   | ((with_reducible refine apn ?na ?_); (case na => simp [appNames, ints, intss] <;> first | kernel_rfl | (refine ⟨?_, ?_⟩ <;> kernel_rfl)))
   | fail)
  refine cx_k x3.next ?_
  intro h4 x4
  obtain ⟨r1, hr_m, hs_m⟩ := szImage m 1048576 (by omega) (by omega) d_m.sizes d_m.code
  repeat' (first
   | with_reducible refine stp ?_
   | with_reducible refine k_blk_o rfl ?_
   | ((try (conv => arg 1; simp [x4.b0])); with_reducible refine evp ?_)
   | ((with_reducible refine apn ?na ?_); (case na => simp [appNames, ints, intss] <;> first | kernel_rfl | (refine ⟨?_, ?_⟩ <;> kernel_rfl)))
   | fail)
  refine st_tree rfl (hr_m) (.cons (dr_agg (drs_image m fun h => h)) (.cons (.int _ _) .nil)) ?_
  repeat' (first
   | with_reducible refine stp ?_
   | with_reducible refine k_blk_o rfl ?_
   | ((try (conv => arg 1; simp [x4.b0])); with_reducible refine evp ?_)
   | ((with_reducible refine apn ?na ?_); (case na => simp [appNames, ints, intss] <;> first | kernel_rfl | (refine ⟨?_, ?_⟩ <;> kernel_rfl)))
   | fail)
  refine cx_k x4.next ?_
  intro h5 x5
  repeat' (first
   | with_reducible refine stp ?_
   | with_reducible refine k_blk_o rfl ?_
   | ((try (conv => arg 1; simp [hnil])); with_reducible refine evp ?_)
   | ((with_reducible refine apn ?na ?_); (case na => simp [appNames, ints, intss] <;> first | kernel_rfl | (refine ⟨?_, ?_⟩ <;> kernel_rfl)))
   | fail)
  refine cx_k x5.next ?_
  intro h6 x6
  by_cases hneg : r1 < 0
  · skip
    repeat' (first
     | with_reducible refine stp ?_
     | with_reducible refine k_blk_o rfl ?_
     | with_reducible refine k_seq_n ?_
     | ((try (conv => arg 1; simp [hneg])); with_reducible refine evp ?_)
     | ((with_reducible refine apn ?na ?_); (case na => simp [appNames, ints, intss] <;> first | kernel_rfl | (refine ⟨?_, ?_⟩ <;> kernel_rfl)))
     | fail)
    rfl
  repeat' (first
   | with_reducible refine stp ?_
   | with_reducible refine k_blk_o rfl ?_
   | ((try (conv => arg 1; simp [hneg])); with_reducible refine evp ?_)
   | ((with_reducible refine apn ?na ?_); (case na => simp [appNames, ints, intss] <;> first | kernel_rfl | (refine ⟨?_, ?_⟩ <;> kernel_rfl)))
   | fail)
  refine k_seq_n ?_
  replace hs_m := hs_m.resolve_left hneg
  obtain ⟨hs_m, hg1_m, hg2_m⟩ := hs_m
  have S := specCost m aa bb (by have := hs_m.sizes; omega) (by have := hs_m.code; omega) (by omega) (by omega)
  have I := implCost m aa bb (by have := hs_m.sizes; omega) (by have := hs_m.code; omega) (by omega) (by omega)
  generalize costE m aa bb = R at S I
  repeat' (first
   | with_reducible refine stp ?_
   | with_reducible refine k_blk_o rfl ?_
   | ((try (conv => arg 1; simp [x6.b0])); with_reducible refine evp ?_)
   | ((with_reducible refine apn ?na ?_); (case na => simp [appNames, ints, intss] <;> first | kernel_rfl | (refine ⟨?_, ?_⟩ <;> kernel_rfl)))
   | fail)
  refine st_fresh rfl (toImage m hs_m) (.cons (dr_agg (drs_image m fun h => h)) .nil) ?_
  intro v1 h7 n1 o1 e1 f1 p1 t1
  have x7 := x6.next.fresh o1 e1 f1 p1 t1
  have z7 : h6.tick < h7.tick := by simp only [hp_next_tick] at t1; omega
  obtain ⟨wa1, wb1, _, _, rfl, _, qa1, qb1⟩ := ownV_image (o1 true)
  have qa1 := own_one qa1
  have qb1 := own_one' qb1
  repeat' (first
   | with_reducible refine stp ?_
   | with_reducible refine k_blk_o rfl ?_
   | ((try (conv => arg 1; simp [x7.b0, z7, qa1.1, qb1.1])); with_reducible refine evp ?_)
   | ((with_reducible refine apn ?na ?_); (case na => simp [appNames, ints, intss] <;> first | kernel_rfl | (refine ⟨?_, ?_⟩ <;> kernel_rfl)))
   | fail)
  refine st_fresh rfl (toIntS aa hl_aa) (.cons (dr_ints (fun h => h) _) .nil) ?_
  intro v2 h8 n2 o2 e2 f2 p2 t2
  have x8 := x7.fresh o2 e2 f2 p2 t2
  have z8 : h6.tick < h8.tick := by omega
  repeat' (first
   | with_reducible refine stp ?_
   | with_reducible refine k_blk_o rfl ?_
   | ((try (conv => arg 1; simp [x8.b0, z8])); with_reducible refine evp ?_)
   | ((with_reducible refine apn ?na ?_); (case na => simp [appNames, ints, intss] <;> first | kernel_rfl | (refine ⟨?_, ?_⟩ <;> kernel_rfl)))
   | fail)
  refine st_fresh rfl (toIntS bb hl_bb) (.cons (dr_ints (fun h => h) _) .nil) ?_
  intro v3 h9 n3 o3 e3 f3 p3 t3
  have x9 := x8.fresh o3 e3 f3 p3 t3
  have z9 : h6.tick < h9.tick := by omega
  repeat' (first
   | with_reducible refine stp ?_
   | with_reducible refine k_blk_o rfl ?_
   | ((try (conv => arg 1; simp [x9.b0, z9])); with_reducible refine evp ?_)
   | ((with_reducible refine apn ?na ?_); (case na => simp [appNames, ints, intss] <;> first | kernel_rfl | (refine ⟨?_, ?_⟩ <;> kernel_rfl)))
   | fail)
  refine st_tree rfl (S) (.cons ((x9.o2 true).dr) (.cons ((x9.o1 true).dr) (.cons ((x9.o0 true).dr) .nil))) ?_
  repeat' (first
   | with_reducible refine stp ?_
   | with_reducible refine k_blk_o rfl ?_
   | ((try (conv => arg 1; simp [x9.b0, z9])); with_reducible refine evp ?_)
   | ((with_reducible refine apn ?na ?_); (case na => simp [appNames, ints, intss] <;> first | kernel_rfl | (refine ⟨?_, ?_⟩ <;> kernel_rfl)))
   | fail)
  refine cx_k x9 ?_
  intro h10 x10
  repeat' (first
   | with_reducible refine stp ?_
   | with_reducible refine k_blk_o rfl ?_
   | ((try (conv => arg 1; simp [x10.b0])); with_reducible refine evp ?_)
   | ((with_reducible refine apn ?na ?_); (case na => simp [appNames, ints, intss] <;> first | kernel_rfl | (refine ⟨?_, ?_⟩ <;> kernel_rfl)))
   | fail)
  refine st_fresh rfl (toImage m hs_m) (.cons (dr_agg (drs_image m fun h => h)) .nil) ?_
  intro v4 h11 n4 o4 e4 f4 p4 t4
  have x11 := x10.next.fresh o4 e4 f4 p4 t4
  have z11 : h10.tick < h11.tick := by simp only [hp_next_tick] at t4; omega
  obtain ⟨wa4, wb4, _, _, rfl, _, qa4, qb4⟩ := ownV_image (o4 true)
  have qa4 := own_one qa4
  have qb4 := own_one' qb4
  repeat' (first
   | with_reducible refine stp ?_
   | with_reducible refine k_blk_o rfl ?_
   | ((try (conv => arg 1; simp [x11.b0, z11, qa4.1, qb4.1])); with_reducible refine evp ?_)
   | ((with_reducible refine apn ?na ?_); (case na => simp [appNames, ints, intss] <;> first | kernel_rfl | (refine ⟨?_, ?_⟩ <;> kernel_rfl)))
   | fail)
  refine cx_k (x11.box_new (x10.off.fresh f4 (by simp [hp_next_tick])) z11) ?_
  intro h12 x12
  repeat' (first
   | with_reducible refine stp ?_
   | with_reducible refine k_blk_o rfl ?_
   | ((try (conv => arg 1; simp [hnil])); with_reducible refine evp ?_)
   | ((with_reducible refine apn ?na ?_); (case na => simp [appNames, ints, intss] <;> first | kernel_rfl | (refine ⟨?_, ?_⟩ <;> kernel_rfl)))
   | fail)
  refine st_fresh rfl (toIntS aa hl_aa) (.cons (dr_ints (fun h => h) _) .nil) ?_
  intro v5 h13 n5 o5 e5 f5 p5 t5
  have x13 := x12.next.fresh o5 e5 f5 p5 t5
  have z13 : h12.tick < h13.tick := by simp only [hp_next_tick] at t5; omega
  repeat' (first
   | with_reducible refine stp ?_
   | with_reducible refine k_blk_o rfl ?_
   | ((try (conv => arg 1; simp [z13])); with_reducible refine evp ?_)
   | ((with_reducible refine apn ?na ?_); (case na => simp [appNames, ints, intss] <;> first | kernel_rfl | (refine ⟨?_, ?_⟩ <;> kernel_rfl)))
   | fail)
  refine cx_k x13 ?_
  intro h14 x14
  repeat' (first
   | with_reducible refine stp ?_
   | with_reducible refine k_blk_o rfl ?_
   | ((try (conv => arg 1; simp [hnil])); with_reducible refine evp ?_)
   | ((with_reducible refine apn ?na ?_); (case na => simp [appNames, ints, intss] <;> first | kernel_rfl | (refine ⟨?_, ?_⟩ <;> kernel_rfl)))
   | fail)
  refine st_fresh rfl (toIntS bb hl_bb) (.cons (dr_ints (fun h => h) _) .nil) ?_
  intro v6 h15 n6 o6 e6 f6 p6 t6
  have x15 := x14.next.fresh o6 e6 f6 p6 t6
  have z15 : h14.tick < h15.tick := by simp only [hp_next_tick] at t6; omega
  repeat' (first
   | with_reducible refine stp ?_
   | with_reducible refine k_blk_o rfl ?_
   | ((try (conv => arg 1; simp [z15])); with_reducible refine evp ?_)
   | ((with_reducible refine apn ?na ?_); (case na => simp [appNames, ints, intss] <;> first | kernel_rfl | (refine ⟨?_, ?_⟩ <;> kernel_rfl)))
   | fail)
  refine cx_k x15 ?_
  intro h16 x16
  repeat' (first
   | with_reducible refine stp ?_
   | with_reducible refine k_blk_o rfl ?_
   | ((try (conv => arg 1; simp [x16.b0, qa4.1, qb4.1])); with_reducible refine evp ?_)
   | ((with_reducible refine apn ?na ?_); (case na => simp [appNames, ints, intss] <;> first | kernel_rfl | (refine ⟨?_, ?_⟩ <;> kernel_rfl)))
   | fail)
  refine st_tree rfl (I) (.cons ((x16.next.o2 true).dr) (.cons ((x16.next.o1 true).dr) (.cons ((x16.next.o0 true).dr) .nil))) ?_
  repeat' (first
   | with_reducible refine stp ?_
   | with_reducible refine k_blk_o rfl ?_
   | ((try (conv => arg 1; simp [x16.b0, qa4.1, qb4.1])); with_reducible refine evp ?_)
   | ((with_reducible refine apn ?na ?_); (case na => simp [appNames, ints, intss] <;> first | kernel_rfl | (refine ⟨?_, ?_⟩ <;> kernel_rfl)))
   | fail)
  refine cx_k x16.next ?_
  intro h17 x17
  repeat' (first
   | with_reducible refine stp ?_
   | with_reducible refine k_blk_o rfl ?_
   | ((try (conv => arg 1; simp [hnil])); with_reducible refine evp ?_)
   | ((with_reducible refine apn ?na ?_); (case na => simp [appNames, ints, intss] <;> first | kernel_rfl | (refine ⟨?_, ?_⟩ <;> kernel_rfl)))
   | fail)
  refine cx_k x17.next ?_
  intro h18 x18
  repeat' (first
   | with_reducible refine stp ?_
   | with_reducible refine k_blk_o rfl ?_
   | ((try (conv => arg 1; simp [hnil])); with_reducible refine evp ?_)
   | ((with_reducible refine apn ?na ?_); (case na => simp [appNames, ints, intss] <;> first | kernel_rfl | (refine ⟨?_, ?_⟩ <;> kernel_rfl)))
   | fail)
  refine k_seq_n ?_
  repeat' (first
   | with_reducible refine stp ?_
   | with_reducible refine k_blk_o rfl ?_
   | ((try (conv => arg 1; simp [hnil])); with_reducible refine evp ?_)
   | ((with_reducible refine apn ?na ?_); (case na => simp [appNames, ints, intss] <;> first | kernel_rfl | (refine ⟨?_, ?_⟩ <;> kernel_rfl)))
   | fail)
  repeat (with_reducible first | refine stp ?_ | refine k_seq_n ?_)
  refine st_draw 5 (fun _ => false) (by kernel_rfl) ?_
  simp only [List.take_succ_cons, List.take_zero, List.drop_succ_cons, List.drop_zero, List.take_nil, List.drop_nil]
  repeat' (first
   | with_reducible refine stp ?_
   | with_reducible refine k_blk_o rfl ?_
   | ((try (conv => arg 1; simp [x18.b0, x18.b1, x18.l0, x18.l1, qa4.1, qb4.1])); with_reducible refine evp ?_)
   | ((with_reducible refine apn ?na ?_); (case na => simp [appNames, ints, intss] <;> first | kernel_rfl | (refine ⟨?_, ?_⟩ <;> kernel_rfl)))
   | fail)
  refine treeW_pure (toImage m hs_m).pure (.cons (dr_agg (drs_image m fun h => h)) .nil) ?_
  repeat' (first
   | with_reducible refine stp ?_
   | with_reducible refine k_blk_o rfl ?_
   | ((try (conv => arg 1; simp [x18.b0, x18.b1, x18.l0, x18.l1, qa4.1, qb4.1])); with_reducible refine evp ?_)
   | ((with_reducible refine apn ?na ?_); (case na => simp [appNames, ints, intss] <;> first | kernel_rfl | (refine ⟨?_, ?_⟩ <;> kernel_rfl)))
   | fail)
  refine treeW_pure (eqImage m hs_m) (.cons ((x18.m2 true).dr) (.cons (dr_agg (drs_image m (by simp))) .nil)) ?_
  repeat' (first
   | with_reducible refine stp ?_
   | with_reducible refine k_blk_o rfl ?_
   | ((try (conv => arg 1; simp [x18.b0, x18.b1, x18.l0, x18.l1, qa4.1, qb4.1])); with_reducible refine evp ?_)
   | ((with_reducible refine apn ?na ?_); (case na => simp [appNames, ints, intss] <;> first | kernel_rfl | (refine ⟨?_, ?_⟩ <;> kernel_rfl)))
   | fail)
  refine cx_k x18.next ?_
  intro h19 x19
  repeat' (first
   | with_reducible refine stp ?_
   | with_reducible refine k_blk_o rfl ?_
   | ((try (conv => arg 1; simp [hnil])); with_reducible refine evp ?_)
   | ((with_reducible refine apn ?na ?_); (case na => simp [appNames, ints, intss] <;> first | kernel_rfl | (refine ⟨?_, ?_⟩ <;> kernel_rfl)))
   | fail)
  refine k_seq_n ?_
  repeat' (first
   | with_reducible refine stp ?_
   | with_reducible refine k_blk_o rfl ?_
   | ((try (conv => arg 1; simp [hnil])); with_reducible refine evp ?_)
   | ((with_reducible refine apn ?na ?_); (case na => simp [appNames, ints, intss] <;> first | kernel_rfl | (refine ⟨?_, ?_⟩ <;> kernel_rfl)))
   | fail)
  refine st_fresh rfl (toIntS aa hl_aa) (.cons (dr_ints (fun h => h) _) .nil) ?_
  intro v7 h20 n7 o7 e7 f7 p7 t7
  have x20 := x19.next.fresh o7 e7 f7 p7 t7
  have z20 : h19.tick < h20.tick := by simp only [hp_next_tick] at t7; omega
  repeat' (first
   | with_reducible refine stp ?_
   | with_reducible refine k_blk_o rfl ?_
   | ((try (conv => arg 1; simp [z20])); with_reducible refine evp ?_)
   | ((with_reducible refine apn ?na ?_); (case na => simp [appNames, ints, intss] <;> first | kernel_rfl | (refine ⟨?_, ?_⟩ <;> kernel_rfl)))
   | fail)
  refine st_tree rfl (eqIntS aa (by omega)) (.cons ((x20.o2 true).dr) (.cons ((x20.o0 true).dr) .nil)) ?_
  repeat' (first
   | with_reducible refine stp ?_
   | with_reducible refine k_blk_o rfl ?_
   | ((try (conv => arg 1; simp [z20])); with_reducible refine evp ?_)
   | ((with_reducible refine apn ?na ?_); (case na => simp [appNames, ints, intss] <;> first | kernel_rfl | (refine ⟨?_, ?_⟩ <;> kernel_rfl)))
   | fail)
  refine cx_k x20 ?_
  intro h21 x21
  repeat' (first
   | with_reducible refine stp ?_
   | with_reducible refine k_blk_o rfl ?_
   | ((try (conv => arg 1; simp [hnil])); with_reducible refine evp ?_)
   | ((with_reducible refine apn ?na ?_); (case na => simp [appNames, ints, intss] <;> first | kernel_rfl | (refine ⟨?_, ?_⟩ <;> kernel_rfl)))
   | fail)
  refine k_seq_n ?_
  repeat' (first
   | with_reducible refine stp ?_
   | with_reducible refine k_blk_o rfl ?_
   | ((try (conv => arg 1; simp [hnil])); with_reducible refine evp ?_)
   | ((with_reducible refine apn ?na ?_); (case na => simp [appNames, ints, intss] <;> first | kernel_rfl | (refine ⟨?_, ?_⟩ <;> kernel_rfl)))
   | fail)
  refine st_fresh rfl (toIntS bb hl_bb) (.cons (dr_ints (fun h => h) _) .nil) ?_
  intro v8 h22 n8 o8 e8 f8 p8 t8
  have x22 := x21.next.fresh o8 e8 f8 p8 t8
  have z22 : h21.tick < h22.tick := by simp only [hp_next_tick] at t8; omega
  repeat' (first
   | with_reducible refine stp ?_
   | with_reducible refine k_blk_o rfl ?_
   | ((try (conv => arg 1; simp [z22])); with_reducible refine evp ?_)
   | ((with_reducible refine apn ?na ?_); (case na => simp [appNames, ints, intss] <;> first | kernel_rfl | (refine ⟨?_, ?_⟩ <;> kernel_rfl)))
   | fail)
  refine st_tree rfl (eqIntS bb (by omega)) (.cons ((x22.o2 true).dr) (.cons ((x22.o0 true).dr) .nil)) ?_
  repeat' (first
   | with_reducible refine stp ?_
   | with_reducible refine k_blk_o rfl ?_
   | ((try (conv => arg 1; simp [z22])); with_reducible refine evp ?_)
   | ((with_reducible refine apn ?na ?_); (case na => simp [appNames, ints, intss] <;> first | kernel_rfl | (refine ⟨?_, ?_⟩ <;> kernel_rfl)))
   | fail)
  refine cx_k x22 ?_
  intro h23 x23
  repeat' (first
   | with_reducible refine stp ?_
   | with_reducible refine k_blk_o rfl ?_
   | ((try (conv => arg 1; simp [hnil])); with_reducible refine evp ?_)
   | ((with_reducible refine apn ?na ?_); (case na => simp [appNames, ints, intss] <;> first | kernel_rfl | (refine ⟨?_, ?_⟩ <;> kernel_rfl)))
   | fail)
  refine k_seq_n ?_
  repeat' (first
   | with_reducible refine stp ?_
   | with_reducible refine k_blk_o rfl ?_
   | with_reducible refine k_seq_n ?_
   | ((try (conv => arg 1; simp [hnil])); with_reducible refine evp ?_)
   | ((with_reducible refine apn ?na ?_); (case na => simp [appNames, ints, intss] <;> first | kernel_rfl | (refine ⟨?_, ?_⟩ <;> kernel_rfl)))
   | fail)
  rfl
end Go.Proofs.Ytfgaoojogididaa.AM


namespace Go.Proofs.Ytfgaoojogididaa.fnExactCost
open Go.ChangeShapes Go.WideShapes Go.ChangeAt Go.RowKit
set_option linter.unusedVariables false
theorem own : ownKnob Try.prog.godebug = none := by kernel_rfl

theorem sound (l : List AM.AV) (h : AM.ShpAll Try.prog [39, 22, 22] l) : AM.Sound Try.prog 5 l (.mt 0) fun v _ => v = .bool true := by
  obtain ⟨cells0, l0, g0, e0, k0⟩ := AM.shpAll_cons h
  obtain ⟨cells1, l1, g1, e1, k1⟩ := AM.shpAll_cons k0
  obtain ⟨cells2, l2, g2, e2, k2⟩ := AM.shpAll_cons k1
  have e' := AM.shpAll_nil k2
  subst e' e2 e1 e0
  obtain ⟨a0, rfl, d0⟩ := AM.shp_image g0
  obtain ⟨a1, rfl, d1, _⟩ := g1.ints_inv AM.und_22 AM.und_3
  obtain ⟨a2, rfl, d2, _⟩ := g2.ints_inv AM.und_22 AM.und_3
  rw [AM.agg_39, AM.av22, AM.av22]
  exact AM.lawCost a0 a1 a2 d0 d1 d2

set_option maxRecDepth 100000 in
theorem lifted (os : Os) (started : os.Started) (H : Type) (enc : TypeId × Value → H) :
    ReturnsInHanded {} Try.checked os 5 .any (Rows.fnExactCostSpec.pre6 enc Try.prog Try.f5 Rows.fnExactCostRow.domain false) (Rows.fnExactCostSpec.post enc Try.prog Try.f5 false true false false) := by
  refine returnsInHanded_of_change_sized (C := Try.checked) own started (by kernel_rfl) Try.func5
    (ChangeSpec.witness6 (enc := enc) (C := Try.checked) false ⟨#[], #[.agg #[.slice none 0 0, .int .i64 0, .int .i64 0, .slice none 0 0], .slice none 0 0, .slice none 0 0], []⟩ 8 (by kernel_rfl) (by kernel_rfl) (by kernel_rfl) (by kernel_rfl)) ?_
  intro W base args ds gs before hval0 hW hcnd hsz0 _
  have hval : ∀ (j : Nat) t v, Try.f5.params[j]? = some t → args[j]? = some v → Value.okWide Try.prog W .any base t v := hval0
  have hW' := hW
  obtain ⟨p, q, hA0, hV, rfl, hfz, hnd⟩ := hW
  have hA : DataW.TrodAll enc Try.prog W 0 (fun _ => true) true Try.f5.params.toList args.toList ds p := hA0
  rw [Try.params5] at hA hval
  obtain ⟨v0, vs0, d0, ds0, p0, q0, hargs, rfl, rfl, h0, r0⟩ := trodAll_cons hA
  obtain ⟨v1, vs1, d1, ds1, p1, q1, rfl, rfl, rfl, h1, r1⟩ := trodAll_cons r0
  obtain ⟨v2, vs2, d2, ds2, p2, q2, rfl, rfl, rfl, h2, r2⟩ := trodAll_cons r1
  obtain ⟨rfl, rfl, rfl⟩ := trodAll_nil r2
  obtain rfl : args = #[v0, v1, v2] := by cases args; simp_all
  obtain ⟨rfl, rfl⟩ := trodVars_none hV
  clear hA0 hval0 hsz0
  refine (AM.law_calls (params := [39, 22, 22]) (ts := [39, 3, 22, 37, 94]) sound (by kernel_rfl) (by simp) (args := #[v0, v1, v2]) (fun j t v a b => hval j t v (by simpa using a) b) hA).mono fun e W' ⟨he, bel⟩ => ?_
  subst he
  exact ⟨_, rfl, _, _, _, [], _, [], hW', trodAll_mk1 (shut_bool Try.underlying4 _), AM.back_all AM.laid bel _ _ _ _ (by kernel_rfl) hA, rfl, bel.frame _, fun h => by cases h⟩
theorem over : Rows.fnExactCostRow.holds Try.pinned (OpenSpec.ofChange Rows.fnExactCostSpec) :=
  OpenClaim.holds_of_wide 5 Try.f5 rfl rfl rfl rfl rfl rfl rfl ⟨rfl, rfl, rfl, rfl, rfl⟩ rfl rfl rfl rfl rfl (by kernel_rfl) Try.func5 (by kernel_rfl)
    (of_decide_eq_true (by kernel_rfl)) (by unfold Func.isWrapper; first | (rw [if_pos (by decide +kernel)]; kernel_rfl) | (rw [if_neg (by decide +kernel)]; exact ⟨rfl, rfl⟩))
    (fun os started H enc _ => lifted os started H enc)
theorem proved : Rows.FnExactCostSaid := over
end Go.Proofs.Ytfgaoojogididaa.fnExactCost
namespace Go.Proofs.Ytfgaoojogididaa
theorem fnExactCost_holds : Rows.FnExactCostSaid := fnExactCost.proved
end Go.Proofs.Ytfgaoojogididaa
