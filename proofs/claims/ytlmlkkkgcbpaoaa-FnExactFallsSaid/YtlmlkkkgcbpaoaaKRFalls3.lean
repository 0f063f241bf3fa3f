/-
  FnExactFalls: for every argument, the law returns true, and the arguments read behind the call as they read before.
  Conditions: none beyond the given statement's own.
-/
import Derived.Test.YtlmlkkkgcbpaoaaKk2
import Derived.WalkKit
import Derived.ProofKit
import Derived.OpenShut
import Derived.ShutString
import Derived.ChangeOld
import Derived.Below
import Derived.SizedLaws
/-
  A block, a graph that is right: the reference's.
-/
set_option linter.unusedVariables false
set_option linter.unusedSimpArgs false
set_option maxRecDepth 4000
namespace Go.Proofs.Ytlmlkkkgcbpaoaa.AM
open Go.RowKit

private def MG8 : FuncId → Mode := fun f => .tree

theorem all_take {α : Type} {l : List α} {p : α → Bool} {i : Nat} (hi : i < l.length) : (l.take (i + 1)).all p = ((l.take i).all p && p l[i]) := by
  have hx : l[i]? = some l[i] := by simp
  rw [List.take_add_one, hx, List.all_append, Option.toList_some, List.all_cons, List.all_nil, Bool.and_true]
theorem all_false {α : Type} {l : List α} {p : α → Bool} {i : Nat} (hi : i < l.length) (h : p l[i] = false) : l.all p = false := by
  cases ha : l.all p with
  | false => rfl
  | true => rw [List.all_eq_true] at ha; rw [ha _ (List.getElem_mem hi)] at h; cases h

set_option maxHeartbeats 4000000 in
theorem l04BlockOk (g : Graph) (b : Block) (hs : 0 ≤ g.Slots ∧ g.Slots ≤ 1000) (hr : g.Sizes.length ≤ 2 ^ 20) (hb : g.Blocks.length ≤ 2 ^ 20) (hc : b.Code.length ≤ 2 ^ 20) : Pure Try.prog 69 [.agg (g.cells true), .agg (b.cells true)] (.bool (blockOk g b)) := by
  intro T
  have w1 : IntKind.i64.wrap (g.Slots - 1) = g.Slots - 1 := wrap_id (by omega) (by omega)
  have w2 : IntKind.i64.wrap ((g.Blocks.length : Int) - 1) = (g.Blocks.length : Int) - 1 := wrap_id (by omega) (by omega)
  refine enter mixed MG8 Try.func69 rfl (by kernel_rfl) rfl ?_
  repeat' (first
   | with_reducible refine stp ?_
   | with_reducible refine k_blk_o rfl ?_
   | ((try (conv => arg 1; simp [Graph.cells, Block.cells])); with_reducible refine evp ?_)
   | ((with_reducible refine apn ?na ?_); (case na => simp [appNames, ints, intss] <;> first | kernel_rfl | (refine ⟨?_, ?_⟩ <;> kernel_rfl)))
   | fail)
  refine cx_k ((Cx.mt.next.box_one (T := T) (i := 0) Cx.mt.off (by simp)).box_add (n := (T, 1, 0)) (by simp [nms]) (by simp)) ?_
  intro h1 x1
  have b1 := x1.bxs
  simp only [Bxs] at b1
  repeat' (first
   | with_reducible refine stp ?_
   | with_reducible refine k_blk_o rfl ?_
   | with_reducible refine k_seq_n ?_
   | ((try (conv => arg 1; simp [b1])); with_reducible refine evp ?_)
   | ((with_reducible refine apn ?na ?_); (case na => simp [appNames, ints, intss] <;> first | kernel_rfl | (refine ⟨?_, ?_⟩ <;> kernel_rfl)))
   | fail)
  refine st_loop (fun (i : Nat) σ h => i ≤ b.Code.length ∧ σ 2 = .ptr (T, 0, 0) 0 0 0 ∧ σ 3 = .ptr (T, 1, 0) 0 0 0 ∧ σ 5 = .int .i64 i ∧ (b.Code.take i).all (instrOk g.Slots g.Sizes.length) = true ∧
    Cx h [((T, 1, 0), ⟨0, 5, [[instrs true b.Code, .int .i64 b.Jump, .int .i64 b.A, .int .i64 b.To, .int .i64 b.Else]]⟩), ((T, 0, 0), ⟨0, 5, [[ints true g.Sizes, .int .i64 g.Params, .int .i64 g.Vars, .int .i64 g.Slots, blocks true g.Blocks]]⟩)] []) (fun i => b.Code.length - i) 0 ?init ?step
  case init => exact ⟨Nat.zero_le _, by simp, by simp, by simp, rfl, Cx.to x1⟩
  case step =>
    rintro i σ h ⟨hi, s2, s3, s5, ha, x⟩
    have b2 := x.bxs
    simp only [Bxs] at b2
    by_cases hlt : i < b.Code.length
    · have hlt2 : (i : Int) < b.Code.length := by omega
      have hx : b.Code[i]? = some b.Code[i] := by simp
      have hlen := instr_len b.Code[i]
      have hw : IntKind.i64.wrap (i + 1) = i + 1 := wrap_id (by omega) (by omega)
      have I := l04InstrOk g b.Code[i] hs hr
      have hT : ¬ T = h.tick + 1 := by omega
      repeat' (first
       | with_reducible refine stp ?_
       | with_reducible refine k_blk_o rfl ?_
       | with_reducible refine k_seq_n ?_
       | ((try (conv => arg 1; simp [s2, s3, s5, b2, hlt2])); with_reducible refine evp ?_)
       | ((with_reducible refine apn ?na ?_); (case na => simp [appNames, ints, intss] <;> first | kernel_rfl | (refine ⟨?_, ?_⟩ <;> kernel_rfl)))
       | fail)
      cases hv : instrOk g.Slots g.Sizes.length b.Code[i] with
      | false =>
        rw [hv] at I
        repeat (with_reducible first | refine stp ?_ | refine k_seq_n ?_)
        refine st_lz (by kernel_rfl) ?_
        have hF := And.intro s2 (And.intro s3 (And.intro s5 (And.intro b2 (And.intro hT (And.intro hx hlen)))))
        repeat' (first
         | with_reducible refine stp ?_
         | with_reducible refine k_blk_o rfl ?_
         | ((try (conv => arg 1; simp [instrs, Instr.cells, hF])); with_reducible refine evp ?_)
         | ((with_reducible refine apn ?na ?_); (case na => simp [appNames, ints, intss] <;> first | kernel_rfl | (refine ⟨?_, ?_⟩ <;> kernel_rfl)))
         | ((with_reducible refine tcl ?_); first | ((apply tg (I)); (case e => rfl); (case d => (refine dq ?_); (repeat' (first | ((refine Da.mk ?_); first | exact dr_blocks (by simp) _ | assumption) | constructor)))))
          | ((with_reducible refine la_id ?_); refine la_end rfl ?_; (repeat (first | refine pl_nil ?_ | refine pl_cons ?_)))
          | ((with_reducible refine la_id ?_); refine la_pick ?_; (conv => arg 1; whnf); (repeat ((fail_if_success (first | ((refine la_q0 rfl ?_); (try (conv => arg 1; simp [instrs, Instr.cells, hF])); with_reducible refine evp ?_) | ((refine la_n rfl rfl ?_); (try (conv => arg 1; simp [instrs, Instr.cells, hF])); with_reducible refine evp ?_) | ((refine la_q2 rfl (by decide +kernel) ?_); (repeat (first | refine bk_nil ?_ | refine bk_t (by decide +kernel) ?_ | refine bk_f (by decide +kernel) ?_)); (try (conv => arg 1; simp [instrs, Instr.cells, hF])); with_reducible refine evp ?_) | ((refine la_q1 rfl (by decide +kernel) ?_); (try (conv => arg 1; simp [instrs, Instr.cells, hF])); with_reducible refine evp ?_) | ((refine la_g0 rfl ?_); (try (conv => arg 1; simp [instrs, Instr.cells, hF])); with_reducible refine evp ?_; (with_reducible refine evp ?_); try ((try (conv => arg 1; simp [instrs, Instr.cells, hF])); with_reducible refine evp ?_)))); (refine la_there ?_); (conv => arg 1; whnf))); first | ((refine la_q0 rfl ?_); (try (conv => arg 1; simp [instrs, Instr.cells, hF])); with_reducible refine evp ?_) | ((refine la_n rfl rfl ?_); (try (conv => arg 1; simp [instrs, Instr.cells, hF])); with_reducible refine evp ?_) | ((refine la_q2 rfl (by decide +kernel) ?_); (repeat (first | refine bk_nil ?_ | refine bk_t (by decide +kernel) ?_ | refine bk_f (by decide +kernel) ?_)); (try (conv => arg 1; simp [instrs, Instr.cells, hF])); with_reducible refine evp ?_) | ((refine la_q1 rfl (by decide +kernel) ?_); (try (conv => arg 1; simp [instrs, Instr.cells, hF])); with_reducible refine evp ?_) | ((refine la_g0 rfl ?_); (try (conv => arg 1; simp [instrs, Instr.cells, hF])); with_reducible refine evp ?_; (with_reducible refine evp ?_); try ((try (conv => arg 1; simp [instrs, Instr.cells, hF])); with_reducible refine evp ?_)))
          | ((with_reducible refine la_id ?_); refine la_all rfl ?_)
          | ((with_reducible refine all_id ?_); (conv => arg 1; whnf); first | exact all_nil | refine all_cons ?_ ?_)
          | (refine la_op rfl (by first | exact frm_s (by decide +kernel) | exact frm_a (by repeat' (first | exact fa_nil | refine fa_cons (by decide +kernel) ?_))) (by intro hq; first | exact trivial | (cases hq; done) | simp [appT, instrs, Instr.cells, hF]) ?_; (repeat (first | refine bk_nil ?_ | refine bk_t (by decide +kernel) ?_ | refine bk_f (by decide +kernel) ?_)))
         | fail)
        repeat' (first
         | with_reducible refine stp ?_
         | with_reducible refine k_blk_o rfl ?_
         | with_reducible refine k_seq_n ?_
         | ((try (conv => arg 1; simp [s2, s3, s5, b2])); with_reducible refine evp ?_)
         | ((with_reducible refine apn ?na ?_); (case na => simp [appNames, ints, intss] <;> first | kernel_rfl | (refine ⟨?_, ?_⟩ <;> kernel_rfl)))
         | fail)
        have e : blockOk g b = false := by unfold blockOk; rw [all_false hlt hv, Bool.false_and]
        rw [e]
        exact .bool _
      | true =>
        rw [hv] at I
        repeat (with_reducible first | refine stp ?_ | refine k_seq_n ?_)
        refine st_lz (by kernel_rfl) ?_
        have hF := And.intro s2 (And.intro s3 (And.intro s5 (And.intro b2 (And.intro hT (And.intro hx hlen)))))
        repeat' (first
         | with_reducible refine stp ?_
         | with_reducible refine k_blk_o rfl ?_
         | ((try (conv => arg 1; simp [instrs, Instr.cells, hF])); with_reducible refine evp ?_)
         | ((with_reducible refine apn ?na ?_); (case na => simp [appNames, ints, intss] <;> first | kernel_rfl | (refine ⟨?_, ?_⟩ <;> kernel_rfl)))
         | ((with_reducible refine tcl ?_); first | ((apply tg (I)); (case e => rfl); (case d => (refine dq ?_); (repeat' (first | ((refine Da.mk ?_); first | exact dr_blocks (by simp) _ | assumption) | constructor)))))
          | ((with_reducible refine la_id ?_); refine la_end rfl ?_; (repeat (first | refine pl_nil ?_ | refine pl_cons ?_)))
          | ((with_reducible refine la_id ?_); refine la_pick ?_; (conv => arg 1; whnf); (repeat ((fail_if_success (first | ((refine la_q0 rfl ?_); (try (conv => arg 1; simp [instrs, Instr.cells, hF])); with_reducible refine evp ?_) | ((refine la_n rfl rfl ?_); (try (conv => arg 1; simp [instrs, Instr.cells, hF])); with_reducible refine evp ?_) | ((refine la_q2 rfl (by decide +kernel) ?_); (repeat (first | refine bk_nil ?_ | refine bk_t (by decide +kernel) ?_ | refine bk_f (by decide +kernel) ?_)); (try (conv => arg 1; simp [instrs, Instr.cells, hF])); with_reducible refine evp ?_) | ((refine la_q1 rfl (by decide +kernel) ?_); (try (conv => arg 1; simp [instrs, Instr.cells, hF])); with_reducible refine evp ?_) | ((refine la_g0 rfl ?_); (try (conv => arg 1; simp [instrs, Instr.cells, hF])); with_reducible refine evp ?_; (with_reducible refine evp ?_); try ((try (conv => arg 1; simp [instrs, Instr.cells, hF])); with_reducible refine evp ?_)))); (refine la_there ?_); (conv => arg 1; whnf))); first | ((refine la_q0 rfl ?_); (try (conv => arg 1; simp [instrs, Instr.cells, hF])); with_reducible refine evp ?_) | ((refine la_n rfl rfl ?_); (try (conv => arg 1; simp [instrs, Instr.cells, hF])); with_reducible refine evp ?_) | ((refine la_q2 rfl (by decide +kernel) ?_); (repeat (first | refine bk_nil ?_ | refine bk_t (by decide +kernel) ?_ | refine bk_f (by decide +kernel) ?_)); (try (conv => arg 1; simp [instrs, Instr.cells, hF])); with_reducible refine evp ?_) | ((refine la_q1 rfl (by decide +kernel) ?_); (try (conv => arg 1; simp [instrs, Instr.cells, hF])); with_reducible refine evp ?_) | ((refine la_g0 rfl ?_); (try (conv => arg 1; simp [instrs, Instr.cells, hF])); with_reducible refine evp ?_; (with_reducible refine evp ?_); try ((try (conv => arg 1; simp [instrs, Instr.cells, hF])); with_reducible refine evp ?_)))
          | ((with_reducible refine la_id ?_); refine la_all rfl ?_)
          | ((with_reducible refine all_id ?_); (conv => arg 1; whnf); first | exact all_nil | refine all_cons ?_ ?_)
          | (refine la_op rfl (by first | exact frm_s (by decide +kernel) | exact frm_a (by repeat' (first | exact fa_nil | refine fa_cons (by decide +kernel) ?_))) (by intro hq; first | exact trivial | (cases hq; done) | simp [appT, instrs, Instr.cells, hF]) ?_; (repeat (first | refine bk_nil ?_ | refine bk_t (by decide +kernel) ?_ | refine bk_f (by decide +kernel) ?_)))
         | fail)
        repeat' (first
         | with_reducible refine stp ?_
         | with_reducible refine k_blk_o rfl ?_
         | with_reducible refine k_seq_n ?_
         | ((try (conv => arg 1; simp [s2, s3, s5, b2, hw])); with_reducible refine evp ?_)
         | ((with_reducible refine apn ?na ?_); (case na => simp [appNames, ints, intss] <;> first | kernel_rfl | (refine ⟨?_, ?_⟩ <;> kernel_rfl)))
         | fail)
        refine k_lp_n (i + 1) (by omega) ⟨by omega, by simp [s2], by simp [s3], by simp, by rw [all_take hlt, ha, hv]; rfl, Cx.to x⟩
    · have hlt2 : ¬ (i : Int) < b.Code.length := by omega
      rw [List.take_of_length_le (by omega)] at ha
      have e : blockOk g b = (if b.Jump = 0 then inB b.To 0 ((g.Blocks.length : Int) - 1) && decide (b.A = 0) && decide (b.Else = 0)
        else if b.Jump = 1 then inB b.To 0 ((g.Blocks.length : Int) - 1) && inB b.Else 0 ((g.Blocks.length : Int) - 1) && inB b.A 0 (g.Slots - 1)
        else if b.Jump = 2 then inB b.A 0 (g.Slots - 1) && decide (b.To = 0) && decide (b.Else = 0)
        else false) := by unfold blockOk; rw [ha, Bool.true_and]
      rw [e]
      repeat' (first
        | (with_reducible first | refine st_seq ?_ | refine st_reg ?_ | refine st_block ?_ | refine st_nil ?_ | refine st_skip ?_ | refine st_ret ?_ | refine st_exit ?_ | refine fr_nil ?_ | refine k_seq_n ?_ | refine k_seq_r ?_ | refine k_seq_e ?_ | refine k_blk_n ?_ | refine k_blk_r ?_ | refine k_blk_s ?_ | refine k_blk_o rfl ?_ | refine k_fn_r ?_ | refine k_fn_n ?_ | refine k_lp_r ?_ | refine k_lp_e ?_)
        | ((with_reducible first | refine st_move ?_ | refine st_asg ?_ | refine st_c ?_ | refine fr_c ?_); (try (conv => arg 1; simp [s2, s3, s5, b2, hlt2, w1, w2, ltS, nm_ne])); (with_reducible refine at_mk ?_))
        | ((with_reducible first | refine st_g ?_ | refine fr_g ?_); (try (conv => arg 1; simp [s2, s3, s5, b2, hlt2, w1, w2, ltS, nm_ne])); (with_reducible refine at_mk ?_); with_reducible first | refine gd_tt ?_ | refine gd_ff ?_ | refine gd_tf ?_ | refine gd_ft ?_ | refine gd_no ?_)
        | ((with_reducible first | refine st_gm ?_ | refine fr_gm ?_); (try (conv => arg 1; simp [s2, s3, s5, b2, hlt2, w1, w2, ltS, nm_ne])); (with_reducible refine at_mk ?_); (with_reducible first | refine gm_bool ?_ | refine gm_gv ?_); refine ⟨_, (by intro hc; first | ((try simp only [Bool.and_eq_true] at hc); (try (conv => lhs; simp [hc, s2, s3, s5, b2, hlt2, w1, w2, ltS, nm_ne])); first | done | exact rfl) | ((try simp [gq] at hc); (try (conv => lhs; simp [gq, hc, s2, s3, s5, b2, hlt2, w1, w2, ltS, nm_ne])); first | done | exact rfl)), ?_⟩)
        | ((with_reducible refine st_gmc ?_); (try (conv => arg 1; simp [s2, s3, s5, b2, hlt2, w1, w2, ltS, nm_ne])); (with_reducible refine at_mk ?_); (with_reducible first | refine gm_bool ?_ | refine gm_gv ?_); refine ⟨_, _, _, (by intro hc; first | ((try simp only [Bool.and_eq_true] at hc); (try (conv => lhs; simp [hc, s2, s3, s5, b2, hlt2, w1, w2, ltS, nm_ne])); first | done | exact rfl) | ((try simp [gq] at hc); (try (conv => lhs; simp [gq, hc, s2, s3, s5, b2, hlt2, w1, w2, ltS, nm_ne])); first | done | exact rfl)), rfl, l01In _ _ _, (by intro hc; (try simp at hc); (repeat' (first | exact DRs.nil | refine DRs.cons ?_ ?_ | exact .int _ _ | exact .bool _ | exact .str _ | exact .nilsl | exact .nilp | exact dr_ints (by simp) _ | exact dr_intss (by simp) _ | refine dr_agg ?_ | refine dr_fn ?_ | refine dr_tptr' (by simp) ?_ | assumption))), ?_⟩)
        | ((with_reducible refine fr_gmc ?_); (try (conv => arg 1; simp [s2, s3, s5, b2, hlt2, w1, w2, ltS, nm_ne])); (with_reducible refine at_mk ?_); (with_reducible first | refine gm_bool ?_ | refine gm_gv ?_); refine ⟨_, _, _, (by intro hc; first | ((try simp only [Bool.and_eq_true] at hc); (try (conv => lhs; simp [hc, s2, s3, s5, b2, hlt2, w1, w2, ltS, nm_ne])); first | done | exact rfl) | ((try simp [gq] at hc); (try (conv => lhs; simp [gq, hc, s2, s3, s5, b2, hlt2, w1, w2, ltS, nm_ne])); first | done | exact rfl)), l01In _ _ _, (by intro hc; (try simp at hc); (repeat' (first | exact DRs.nil | refine DRs.cons ?_ ?_ | exact .int _ _ | exact .bool _ | exact .str _ | exact .nilsl | exact .nilp | exact dr_ints (by simp) _ | exact dr_intss (by simp) _ | refine dr_agg ?_ | refine dr_fn ?_ | refine dr_tptr' (by simp) ?_ | assumption))), ?_⟩)
        | ((with_reducible refine st_gmv ?_); (try (conv => arg 1; simp [s2, s3, s5, b2, hlt2, w1, w2, ltS, nm_ne])); (with_reducible refine at_mk ?_); (with_reducible first | refine gm_bool ?_ | refine gm_gv ?_); refine ⟨_, _, _, _, _, (by intro hc; first | ((try simp only [Bool.and_eq_true] at hc); (try (conv => lhs; simp [hc, s2, s3, s5, b2, hlt2, w1, w2, ltS, nm_ne])); first | done | exact rfl) | ((try simp [gq] at hc); (try (conv => lhs; simp [gq, hc, s2, s3, s5, b2, hlt2, w1, w2, ltS, nm_ne])); first | done | exact rfl)), (by intro hc; first | ((try simp only [Bool.and_eq_true] at hc); (try (conv => lhs; simp [hc, s2, s3, s5, b2, hlt2, w1, w2, ltS, nm_ne])); first | done | exact rfl) | ((try simp [gq] at hc); (try (conv => lhs; simp [gq, hc, s2, s3, s5, b2, hlt2, w1, w2, ltS, nm_ne])); first | done | exact rfl)), rfl, l01In _ _ _, (by intro hc; (try simp at hc); (repeat' (first | exact DRs.nil | refine DRs.cons ?_ ?_ | exact .int _ _ | exact .bool _ | exact .str _ | exact .nilsl | exact .nilp | exact dr_ints (by simp) _ | exact dr_intss (by simp) _ | refine dr_agg ?_ | refine dr_fn ?_ | refine dr_tptr' (by simp) ?_ | assumption))), ?_⟩)
        | ((with_reducible refine st_m rfl ?_); (try (conv => arg 1; simp [s2, s3, s5, b2, hlt2, w1, w2, ltS, nm_ne])); (with_reducible refine ev2_some ?_))
        | ((with_reducible refine fr_n rfl ?_); (try (conv => arg 1; simp [s2, s3, s5, b2, hlt2, w1, w2, ltS, nm_ne])); (with_reducible refine evn_some ?_))
        | ((with_reducible first | refine st_cv ?_ | refine fr_cv ?_); (try (conv => arg 1; simp [s2, s3, s5, b2, hlt2, w1, w2, ltS, nm_ne])); (with_reducible refine at_mk ?_); (with_reducible refine fn_mk ?_); (try (conv => arg 1; simp [s2, s3, s5, b2, hlt2, w1, w2, ltS, nm_ne])); (with_reducible refine at_mk ?_))
        | ((with_reducible refine fr_a ?_); (try (conv => arg 1; simp [s2, s3, s5, b2, hlt2, w1, w2, ltS, nm_ne])); (with_reducible refine at_mk ?_); (try (conv => arg 1; simp [s2, s3, s5, b2, hlt2, w1, w2, ltS, nm_ne])); (with_reducible refine at_mk ?_); refine ⟨?names, ?_⟩; (case names => (simp [appNames, ints, intss] <;> first | kernel_rfl | (refine ⟨?_, ?_⟩ <;> kernel_rfl))); (try (conv => arg 1; simp [s2, s3, s5, b2, hlt2, w1, w2, ltS, nm_ne])); (with_reducible refine ev2_some ?_))
        | ((with_reducible first | refine st_q ?_ | refine fr_q ?_ | refine st_res ?_); (try (conv => arg 1; simp [s2, s3, s5, b2, hlt2, w1, w2, ltS, nm_ne])); (with_reducible refine ev_some ?_))
        | ((with_reducible refine st_if ?_); (try (conv => arg 1; simp [s2, s3, s5, b2, hlt2, w1, w2, ltS, nm_ne])); (with_reducible refine at_mk ?_); with_reducible first | refine br_t ?_ | refine br_f ?_ | (refine br_b (fun hb => ?_) (fun hb => ?_) <;> ((try simp only [Bool.not_eq_eq_eq_not, Bool.not_true, Bool.not_false] at hb); (try simp only [hb]); (try simp at hb))))
        | ((with_reducible refine ct_id ?_); refine st_tree rfl (l01In _ _ _) (by (repeat' (first | exact DRs.nil | refine DRs.cons ?_ ?_ | exact .int _ _ | exact .bool _ | exact .str _ | exact .nilsl | exact .nilp | exact dr_ints (by simp) _ | exact dr_intss (by simp) _ | refine dr_agg ?_ | refine dr_fn ?_ | refine dr_tptr' (by simp) ?_ | assumption))) ?_)
        | ((with_reducible refine tw_id ?_); refine treeW_pure (l01In _ _ _) (by (repeat' (first | exact DRs.nil | refine DRs.cons ?_ ?_ | exact .int _ _ | exact .bool _ | exact .str _ | exact .nilsl | exact .nilp | exact dr_ints (by simp) _ | exact dr_intss (by simp) _ | refine dr_agg ?_ | refine dr_fn ?_ | refine dr_tptr' (by simp) ?_ | assumption))) ?_))
      all_goals refine dr_bool ?_
      all_goals rw [Bool.eq_iff_iff]
      all_goals (try simp_all)
      all_goals grind
end Go.Proofs.Ytlmlkkkgcbpaoaa.AM

/-
  A graph that is right: the reference's.
-/
set_option linter.unusedVariables false
set_option linter.unusedSimpArgs false
set_option maxRecDepth 4000
namespace Go.Proofs.Ytlmlkkkgcbpaoaa.AM
open Go.RowKit

private def MG9 : FuncId → Mode := fun f => .tree

/-- What the laws' sizes say of a graph. -/
structure Graph.Fit (g : Graph) : Prop where
  sizes : g.Sizes.length ≤ 2 ^ 20
  blocks : g.Blocks.length ≤ 2 ^ 20
  code : ∀ b ∈ g.Blocks, b.Code.length ≤ 2 ^ 20
theorem codeLen_le (xs : List Block) (i : Nat) : codeLen xs i ≤ codeLen xs xs.length := gsum_le _ xs i
theorem codeLen_succ {xs : List Block} {i : Nat} (h : i < xs.length) : codeLen xs (i + 1) = codeLen xs i + xs[i].Code.length := gsum_succ _ xs i h
def graphRow (g : Graph) : Row := ⟨0, 5, [[ints true g.Sizes, .int .i64 g.Params, .int .i64 g.Vars, .int .i64 g.Slots, blocks true g.Blocks]]⟩

set_option maxHeartbeats 4000000 in
theorem graphOkSpec (g : Graph) (d : g.Fit) : Pure Try.prog 38 [.agg (g.cells true)] (.bool (graphOk g)) := by
  intro T
  have d1 := d.sizes
  have d2 := d.blocks
  refine enter mixed MG9 Try.func38 rfl (by kernel_rfl) rfl ?_
  repeat' (first
   | with_reducible refine stp ?_
   | with_reducible refine k_blk_o rfl ?_
   | ((try (conv => arg 1; simp [Graph.cells])); with_reducible refine evp ?_)
   | ((with_reducible refine apn ?na ?_); (case na => simp [appNames, ints, intss] <;> first | kernel_rfl | (refine ⟨?_, ?_⟩ <;> kernel_rfl)))
   | fail)
  refine cx_k (Cx.mt.next.box_one (T := T) (i := 0) Cx.mt.off (by simp)) ?_
  intro h1 x1
  have b1 := x1.bxs
  simp only [Bxs] at b1
  repeat' (first
   | with_reducible refine stp ?_
   | with_reducible refine k_blk_o rfl ?_
   | with_reducible refine k_seq_n ?_
   | ((try (conv => arg 1; simp [b1])); with_reducible refine evp ?_)
   | ((with_reducible refine apn ?na ?_); (case na => simp [appNames, ints, intss] <;> first | kernel_rfl | (refine ⟨?_, ?_⟩ <;> kernel_rfl)))
   | fail)
  refine st_loop (fun (i : Nat) σ h => i ≤ g.Sizes.length ∧ σ 1 = .ptr (T, 0, 0) 0 0 0 ∧ σ 3 = .int .i64 i ∧ (g.Sizes.take i).all (fun n => inB n 1 16) = true ∧ Cx h [((T, 0, 0), graphRow g)] []) (fun i => g.Sizes.length - i) 0 ?init ?step
  case init => exact ⟨Nat.zero_le _, by simp, by simp, rfl, Cx.to x1⟩
  case step =>
    rintro i σ h ⟨hi, s1, s3, ha, x⟩
    have b2 := x.bxs
    simp only [Bxs, graphRow] at b2
    by_cases hlt : i < g.Sizes.length
    · have hlt2 : (i : Int) < g.Sizes.length := by omega
      have hx : g.Sizes[i]? = some g.Sizes[i] := by simp
      have hw : IntKind.i64.wrap (i + 1) = i + 1 := wrap_id (by omega) (by omega)
      cases hv : inB g.Sizes[i] 1 16 with
      | false =>
        repeat' (first
         | with_reducible refine stp ?_
         | with_reducible refine k_blk_o rfl ?_
         | with_reducible refine k_seq_n ?_
         | ((try (conv => arg 1; simp [s1, s3, b2, hlt2, hx, ints, hv, ltS, nm_ne])); with_reducible refine evp ?_)
         | ((with_reducible refine apn ?na ?_); (case na => simp [appNames, ints, intss] <;> first | kernel_rfl | (refine ⟨?_, ?_⟩ <;> kernel_rfl)))
         | ((with_reducible refine tcl ?_); first | ((apply tg (l01In _ _ _)); (case e => rfl); (case d => (refine dq ?_); (repeat' (first | ((refine Da.mk ?_); first | assumption) | constructor)))))
         | fail)
        have e : graphOk g = false := by unfold graphOk headOk; rw [all_false hlt hv]; simp
        rw [e]
        exact .bool _
      | true =>
        repeat' (first
         | with_reducible refine stp ?_
         | with_reducible refine k_blk_o rfl ?_
         | with_reducible refine k_seq_n ?_
         | ((try (conv => arg 1; simp [s1, s3, b2, hlt2, hx, ints, hv, hw, ltS, nm_ne])); with_reducible refine evp ?_)
         | ((with_reducible refine apn ?na ?_); (case na => simp [appNames, ints, intss] <;> first | kernel_rfl | (refine ⟨?_, ?_⟩ <;> kernel_rfl)))
         | ((with_reducible refine tcl ?_); first | ((apply tg (l01In _ _ _)); (case e => rfl); (case d => (refine dq ?_); (repeat' (first | ((refine Da.mk ?_); first | assumption) | constructor)))))
         | fail)
        refine k_lp_n (i + 1) (by omega) ⟨by omega, by simp [s1], by simp, by rw [all_take hlt, ha, hv]; rfl, Cx.to x⟩
    · have hlt2 : ¬ (i : Int) < g.Sizes.length := by omega
      rw [List.take_of_length_le (by omega)] at ha
      repeat' (first
       | with_reducible refine stp ?_
       | with_reducible refine k_blk_o rfl ?_
       | with_reducible refine k_seq_n ?_
       | ((try (conv => arg 1; simp [s1, s3, b2, hlt2, ltS, nm_ne])); with_reducible refine evp ?_)
       | ((with_reducible refine apn ?na ?_); (case na => simp [appNames, ints, intss] <;> first | kernel_rfl | (refine ⟨?_, ?_⟩ <;> kernel_rfl)))
       | fail)
      have x' := x.next
      generalize h.next = hq at *
      have b3 := x'.bxs
      simp only [Bxs, graphRow] at b3
      repeat' (first
        | (with_reducible first | refine st_seq ?_ | refine st_reg ?_ | refine st_block ?_ | refine st_nil ?_ | refine st_skip ?_ | refine st_ret ?_ | refine st_exit ?_ | refine fr_nil ?_ | refine k_seq_n ?_ | refine k_seq_r ?_ | refine k_seq_e ?_ | refine k_blk_n ?_ | refine k_blk_r ?_ | refine k_blk_s ?_ | refine k_blk_o rfl ?_ | refine k_fn_r ?_ | refine k_fn_n ?_ | refine k_lp_r ?_ | refine k_lp_e ?_)
        | ((with_reducible first | refine st_move ?_ | refine st_asg ?_ | refine st_c ?_ | refine fr_c ?_); (try (conv => arg 1; simp [s1, b3])); (with_reducible refine at_mk ?_))
        | ((with_reducible first | refine st_g ?_ | refine fr_g ?_); (try (conv => arg 1; simp [s1, b3])); (with_reducible refine at_mk ?_); with_reducible first | refine gd_tt ?_ | refine gd_ff ?_ | refine gd_tf ?_ | refine gd_ft ?_ | refine gd_no ?_)
        | ((with_reducible first | refine st_gm ?_ | refine fr_gm ?_); (try (conv => arg 1; simp [s1, b3])); (with_reducible refine at_mk ?_); (with_reducible first | refine gm_bool ?_ | refine gm_gv ?_); refine ⟨_, (by intro hc; first | ((try simp only [Bool.and_eq_true] at hc); (try (conv => lhs; simp [hc, s1, b3])); first | done | exact rfl) | ((try simp [gq] at hc); (try (conv => lhs; simp [gq, hc, s1, b3])); first | done | exact rfl)), ?_⟩)
        | ((with_reducible refine st_gmc ?_); (try (conv => arg 1; simp [s1, b3])); (with_reducible refine at_mk ?_); (with_reducible first | refine gm_bool ?_ | refine gm_gv ?_); refine ⟨_, _, _, (by intro hc; first | ((try simp only [Bool.and_eq_true] at hc); (try (conv => lhs; simp [hc, s1, b3])); first | done | exact rfl) | ((try simp [gq] at hc); (try (conv => lhs; simp [gq, hc, s1, b3])); first | done | exact rfl)), rfl, l01In _ _ _, (by intro hc; (try simp at hc); (repeat' (first | exact DRs.nil | refine DRs.cons ?_ ?_ | exact .int _ _ | exact .bool _ | exact .str _ | exact .nilsl | exact .nilp | exact dr_ints (by simp) _ | exact dr_intss (by simp) _ | refine dr_agg ?_ | refine dr_fn ?_ | refine dr_tptr' (by simp) ?_ | assumption))), ?_⟩)
        | ((with_reducible refine fr_gmc ?_); (try (conv => arg 1; simp [s1, b3])); (with_reducible refine at_mk ?_); (with_reducible first | refine gm_bool ?_ | refine gm_gv ?_); refine ⟨_, _, _, (by intro hc; first | ((try simp only [Bool.and_eq_true] at hc); (try (conv => lhs; simp [hc, s1, b3])); first | done | exact rfl) | ((try simp [gq] at hc); (try (conv => lhs; simp [gq, hc, s1, b3])); first | done | exact rfl)), l01In _ _ _, (by intro hc; (try simp at hc); (repeat' (first | exact DRs.nil | refine DRs.cons ?_ ?_ | exact .int _ _ | exact .bool _ | exact .str _ | exact .nilsl | exact .nilp | exact dr_ints (by simp) _ | exact dr_intss (by simp) _ | refine dr_agg ?_ | refine dr_fn ?_ | refine dr_tptr' (by simp) ?_ | assumption))), ?_⟩)
        | ((with_reducible refine st_gmv ?_); (try (conv => arg 1; simp [s1, b3])); (with_reducible refine at_mk ?_); (with_reducible first | refine gm_bool ?_ | refine gm_gv ?_); refine ⟨_, _, _, _, _, (by intro hc; first | ((try simp only [Bool.and_eq_true] at hc); (try (conv => lhs; simp [hc, s1, b3])); first | done | exact rfl) | ((try simp [gq] at hc); (try (conv => lhs; simp [gq, hc, s1, b3])); first | done | exact rfl)), (by intro hc; first | ((try simp only [Bool.and_eq_true] at hc); (try (conv => lhs; simp [hc, s1, b3])); first | done | exact rfl) | ((try simp [gq] at hc); (try (conv => lhs; simp [gq, hc, s1, b3])); first | done | exact rfl)), rfl, l01In _ _ _, (by intro hc; (try simp at hc); (repeat' (first | exact DRs.nil | refine DRs.cons ?_ ?_ | exact .int _ _ | exact .bool _ | exact .str _ | exact .nilsl | exact .nilp | exact dr_ints (by simp) _ | exact dr_intss (by simp) _ | refine dr_agg ?_ | refine dr_fn ?_ | refine dr_tptr' (by simp) ?_ | assumption))), ?_⟩)
        | ((with_reducible refine st_m rfl ?_); (try (conv => arg 1; simp [s1, b3])); (with_reducible refine ev2_some ?_))
        | ((with_reducible refine fr_n rfl ?_); (try (conv => arg 1; simp [s1, b3])); (with_reducible refine evn_some ?_))
        | ((with_reducible first | refine st_cv ?_ | refine fr_cv ?_); (try (conv => arg 1; simp [s1, b3])); (with_reducible refine at_mk ?_); (with_reducible refine fn_mk ?_); (try (conv => arg 1; simp [s1, b3])); (with_reducible refine at_mk ?_))
        | ((with_reducible refine fr_a ?_); (try (conv => arg 1; simp [s1, b3])); (with_reducible refine at_mk ?_); (try (conv => arg 1; simp [s1, b3])); (with_reducible refine at_mk ?_); refine ⟨?names, ?_⟩; (case names => (simp [appNames, ints, intss] <;> first | kernel_rfl | (refine ⟨?_, ?_⟩ <;> kernel_rfl))); (try (conv => arg 1; simp [s1, b3])); (with_reducible refine ev2_some ?_))
        | ((with_reducible first | refine st_q ?_ | refine fr_q ?_ | refine st_res ?_); (try (conv => arg 1; simp [s1, b3])); (with_reducible refine ev_some ?_))
        | ((with_reducible refine st_if ?_); (try (conv => arg 1; simp [s1, b3])); (with_reducible refine at_mk ?_); with_reducible first | refine br_t ?_ | refine br_f ?_)
        | ((with_reducible refine ct_id ?_); refine st_tree rfl (l01In _ _ _) (by (repeat' (first | exact DRs.nil | refine DRs.cons ?_ ?_ | exact .int _ _ | exact .bool _ | exact .str _ | exact .nilsl | exact .nilp | exact dr_ints (by simp) _ | exact dr_intss (by simp) _ | refine dr_agg ?_ | refine dr_fn ?_ | refine dr_tptr' (by simp) ?_ | assumption))) ?_)
        | ((with_reducible refine tw_id ?_); refine treeW_pure (l01In _ _ _) (by (repeat' (first | exact DRs.nil | refine DRs.cons ?_ ?_ | exact .int _ _ | exact .bool _ | exact .str _ | exact .nilsl | exact .nilp | exact dr_ints (by simp) _ | exact dr_intss (by simp) _ | refine dr_agg ?_ | refine dr_fn ?_ | refine dr_tptr' (by simp) ?_ | assumption))) ?_))
      (try with_reducible refine st_if ?_)
      (try (conv => arg 1; simp [d1]))
      (try with_reducible refine at_mk ?_)
      refine ⟨fun hb => ?_, fun hb => ?_⟩
      · have e : graphOk g = false := by
          have : headOk g = false := by
            cases hk : headOk g with
            | false => rfl
            | true =>
              have H := headOk_head hk
              have e1 := H.sizes
              have e2 := H.params
              have e3 := H.vars
              have e4 := H.slots
              have e5 := H.blocks
              exfalso
              simp only [Bool.or_eq_true, Bool.not_eq_true', inB, decide_eq_true_eq, Bool.and_eq_false_iff, decide_eq_false_iff_not] at hb
              omega
          simp [graphOk, this]
        repeat' (first
         | with_reducible refine stp ?_
         | with_reducible refine k_blk_o rfl ?_
         | with_reducible refine k_seq_n ?_
         | ((try (conv => arg 1; simp [d1])); with_reducible refine evp ?_)
         | ((with_reducible refine apn ?na ?_); (case na => simp [appNames, ints, intss] <;> first | kernel_rfl | (refine ⟨?_, ?_⟩ <;> kernel_rfl)))
         | fail)
        rw [e]
        exact .bool _
      have hk : headOk g = true := by
        simp only [headOk, inB, Bool.and_eq_true, decide_eq_true_eq]
        simp only [Bool.not_eq_true, Bool.or_eq_false_iff, Bool.not_eq_false', inB, Bool.and_eq_true, decide_eq_true_eq, decide_eq_false_iff_not] at hb
        repeat' apply And.intro
        all_goals first | exact ha | omega
      have H := headOk_head hk
      have e4 := H.slots
      have e2 := H.params
      have e5 := H.blocks
      repeat' (first
       | with_reducible refine stp ?_
       | with_reducible refine k_blk_o rfl ?_
       | with_reducible refine k_seq_n ?_
       | ((try (conv => arg 1; simp [d1])); with_reducible refine evp ?_)
       | ((with_reducible refine apn ?na ?_); (case na => simp [appNames, ints, intss] <;> first | kernel_rfl | (refine ⟨?_, ?_⟩ <;> kernel_rfl)))
       | fail)
      refine st_loop (fun (i : Nat) σ h => i ≤ g.Blocks.length ∧ σ 1 = .ptr (T, 0, 0) 0 0 0 ∧ σ 4 = .int .i64 (codeLen g.Blocks i) ∧ σ 5 = .int .i64 i ∧ codeLen g.Blocks i ≤ 1000 ∧ (g.Blocks.take i).all (blockOk g) = true ∧ Cx h [((T, 0, 0), graphRow g)] []) (fun i => g.Blocks.length - i) 0 ?init ?step
      case init => exact ⟨Nat.zero_le _, by simp [s1], by simp [codeLen, gsum_zero], by simp, by simp [codeLen, gsum_zero], rfl, Cx.to x'⟩
      case step =>
        rintro i σ h ⟨hi, s1, s4, s5, hn, ha2, x⟩
        have b2 := x.bxs
        simp only [Bxs, graphRow] at b2
        by_cases hlt : i < g.Blocks.length
        · have hlt2 : (i : Int) < g.Blocks.length := by omega
          have hx : g.Blocks[i]? = some g.Blocks[i] := by simp
          have hlen := block_len true g.Blocks[i]
          have hc := d.code _ (List.getElem_mem hlt)
          have hw : IntKind.i64.wrap (i + 1) = i + 1 := wrap_id (by omega) (by omega)
          have hs := codeLen_succ hlt
          have hw2 : IntKind.i64.wrap ((codeLen g.Blocks i : Int) + g.Blocks[i].Code.length) = codeLen g.Blocks (i + 1) := by rw [wrap_id (by omega) (by omega)]; omega
          have B := l04BlockOk g g.Blocks[i] (by omega) d1 d2 hc
          have hT : ¬ T = h.tick + 1 + 1 := by omega
          repeat' (first
           | with_reducible refine stp ?_
           | with_reducible refine k_blk_o rfl ?_
           | with_reducible refine k_seq_n ?_
           | ((try (conv => arg 1; simp [s1, s4, s5, b2, hlt2, hx, hlen, blocks, Block.cells, hw2, ltS, nm_ne])); with_reducible refine evp ?_)
           | ((with_reducible refine apn ?na ?_); (case na => simp [appNames, ints, intss] <;> first | kernel_rfl | (refine ⟨?_, ?_⟩ <;> kernel_rfl)))
           | fail)
          by_cases h1000 : codeLen g.Blocks (i + 1) > 1000
          · have h2 : (1000 : Int) < codeLen g.Blocks (i + 1) := by omega
            have e : graphOk g = false := by
              have := codeLen_le g.Blocks (i + 1)
              simp only [graphOk]
              rw [show decide (codeLen g.Blocks g.Blocks.length ≤ 1000) = false by simp; omega]
              simp
            repeat (with_reducible first | refine stp ?_ | refine k_seq_n ?_)
            refine st_draw 12 (fun _ => false) (by kernel_rfl) ?_
            simp only [List.take_succ_cons, List.take_zero, List.drop_succ_cons, List.drop_zero, List.take_nil, List.drop_nil]
            repeat' (first
             | with_reducible refine stp ?_
             | with_reducible refine k_blk_o rfl ?_
             | with_reducible refine k_seq_n ?_
             | ((try (conv => arg 1; simp [s1, s5, b2, h2, hT])); with_reducible refine evp ?_)
             | ((with_reducible refine apn ?na ?_); (case na => simp [appNames, ints, intss] <;> first | kernel_rfl | (refine ⟨?_, ?_⟩ <;> kernel_rfl)))
             | fail)
            rw [e]
            exact .bool _
          · have h2 : ¬ (1000 : Int) < codeLen g.Blocks (i + 1) := by omega
            cases hv : blockOk g g.Blocks[i] with
            | false =>
              rw [hv] at B
              repeat (with_reducible first | refine stp ?_ | refine k_seq_n ?_)
              refine st_draw 12 (fun _ => false) (by kernel_rfl) ?_
              simp only [List.take_succ_cons, List.take_zero, List.drop_succ_cons, List.drop_zero, List.take_nil, List.drop_nil]
              repeat' (first
               | with_reducible refine stp ?_
               | with_reducible refine k_blk_o rfl ?_
               | with_reducible refine k_seq_n ?_
               | ((try (conv => arg 1; simp [s1, s5, b2, h2, hT, hx, hlen, hw, blocks, Block.cells, Graph.cells])); with_reducible refine evp ?_)
               | ((with_reducible refine apn ?na ?_); (case na => simp [appNames, ints, intss] <;> first | kernel_rfl | (refine ⟨?_, ?_⟩ <;> kernel_rfl)))
               | ((with_reducible refine tcl ?_); first | ((apply tg (B)); (case e => rfl); (case d => (refine dq ?_); (repeat' (first | ((refine Da.mk ?_); first | exact dr_blocks (by simp) _ | exact dr_instrs (by simp) _ | assumption) | constructor)))))
               | fail)
              have e : graphOk g = false := by simp only [graphOk]; rw [all_false hlt hv, Bool.and_false]
              rw [e]
              exact .bool _
            | true =>
              rw [hv] at B
              repeat (with_reducible first | refine stp ?_ | refine k_seq_n ?_)
              refine st_draw 12 (fun _ => false) (by kernel_rfl) ?_
              simp only [List.take_succ_cons, List.take_zero, List.drop_succ_cons, List.drop_zero, List.take_nil, List.drop_nil]
              repeat' (first
               | with_reducible refine stp ?_
               | with_reducible refine k_blk_o rfl ?_
               | with_reducible refine k_seq_n ?_
               | ((try (conv => arg 1; simp [s1, s5, b2, h2, hT, hx, hlen, hw, blocks, Block.cells, Graph.cells])); with_reducible refine evp ?_)
               | ((with_reducible refine apn ?na ?_); (case na => simp [appNames, ints, intss] <;> first | kernel_rfl | (refine ⟨?_, ?_⟩ <;> kernel_rfl)))
               | ((with_reducible refine tcl ?_); first | ((apply tg (B)); (case e => rfl); (case d => (refine dq ?_); (repeat' (first | ((refine Da.mk ?_); first | exact dr_blocks (by simp) _ | exact dr_instrs (by simp) _ | assumption) | constructor)))))
               | fail)
              refine k_lp_n (i + 1) (by omega) ⟨by omega, by simp [s1], by simp, by simp, by omega, by rw [all_take hlt, ha2, hv]; rfl, Cx.to x⟩
        · have hlt2 : ¬ (i : Int) < g.Blocks.length := by omega
          rw [List.take_of_length_le (by omega)] at ha2
          have hi2 : i = g.Blocks.length := by omega
          rw [hi2] at hn
          repeat' (first
           | with_reducible refine stp ?_
           | with_reducible refine k_blk_o rfl ?_
           | with_reducible refine k_seq_n ?_
           | ((try (conv => arg 1; simp [s1, s5, b2, hlt2, ltS, nm_ne])); with_reducible refine evp ?_)
           | ((with_reducible refine apn ?na ?_); (case na => simp [appNames, ints, intss] <;> first | kernel_rfl | (refine ⟨?_, ?_⟩ <;> kernel_rfl)))
           | fail)
          have e : graphOk g = true := by simp [graphOk, hk, hn, ha2]
          rw [e]
          exact .bool _
end Go.Proofs.Ytlmlkkkgcbpaoaa.AM

/-
  Graphs: copies, equal.
-/
set_option linter.unusedVariables false
set_option linter.unusedSimpArgs false
set_option maxRecDepth 4000
namespace Go.Proofs.Ytlmlkkkgcbpaoaa.AM
open Go.RowKit

private def MG4 : FuncId → Mode := fun f => if f = 17 ∨ f = 39 then .fresh else .tree

theorem Graph.Small.code {g : Graph} (h : g.Small) : ∀ x ∈ g.Blocks, x.Code.length ≤ 2 ^ 20 := fun x hx => by
  have := wtBS_mem hx
  have := h.blocks
  omega
theorem Graph.Small.len {g : Graph} (h : g.Small) : g.Blocks.length ≤ 2 ^ 20 := by
  have := wtBS_len (xs := g.Blocks)
  have := h.blocks
  omega

theorem Cx.graph_join {h : Hp} {bs : Bx} {os : Ox} {w1 w2 : AV} {n1 n2 : List Nm} {g : Graph} (x : Cx h bs ((w1, (fun b => ints b g.Sizes), n1) :: (w2, (fun b => blocks b g.Blocks), n2) :: os)) :
    Cx h bs ((.agg [w1, .int .i64 g.Params, .int .i64 g.Vars, .int .i64 g.Slots, w2], (fun b => .agg (g.cells b)), n1 ++ n2) :: os) := by
  refine ⟨x.box, fun y hy b => ?_, ?_, fun m hm => x.lt m ?_⟩
  · simp only [List.mem_cons] at hy
    rcases hy with rfl | hy
    · exact .agg (Own.append (own_of (x.o0 b) rfl) (.int _ _ (.int _ _ (.int _ _ (own_of (x.o1 b) rfl)))))
    · exact x.own y (by simp [hy]) b
  · have := x.nd
    simpa [nms, List.append_assoc] using this
  · simpa [nms, List.append_assoc] using hm
theorem ownV_graph {rows : Nm → Option Row} {b : Bool} {v : AV} {g : Graph} {ns : List Nm} (h : OwnV rows b v (.agg (g.cells b)) ns) : ∃ w1 w2 n1 n2, v = .agg [w1, .int .i64 g.Params, .int .i64 g.Vars, .int .i64 g.Slots, w2] ∧ ns = n1 ++ n2 ∧ Own rows b [w1] [ints b g.Sizes] n1 ∧ Own rows b [w2] [blocks b g.Blocks] n2 := by
  generalize ht : AV.agg (g.cells b) = t at h
  cases h with
  | one h => subst ht; unfold Graph.cells at h; cases h
  | tup2 => cases ht
  | @agg l _ _ h =>
    cases ht
    unfold Graph.cells at h
    obtain ⟨w1, l1, n1, m1, rfl, rfl, o1, h⟩ := own_cons1 h
    cases h with
    | int _ _ h => cases h with
      | int _ _ h => cases h with
        | int _ _ h =>
          obtain ⟨w2, l2, n2, m2, rfl, rfl, o2, h⟩ := own_cons1 h
          cases h with
          | nil => exact ⟨w1, w2, n1, n2, rfl, by simp, o1, o2⟩

theorem toGraph (g : Graph) (hs : g.Small) : FreshW Try.prog 13 [.agg (g.cells true)] (fun b => .agg (g.cells b)) := by
  intro T
  have hnil : True := trivial
  refine enter mixed MG4 Try.func13 rfl (by kernel_rfl) rfl ?_
  repeat' (first
   | with_reducible refine stp ?_
   | with_reducible refine k_blk_o rfl ?_
   | ((try (conv => arg 1; simp [Graph.cells])); with_reducible refine evp ?_)
   | ((with_reducible refine apn ?na ?_); (case na => simp [appNames, ints, intss] <;> first | kernel_rfl | (refine ⟨?_, ?_⟩ <;> kernel_rfl)))
   | fail)
  refine cx_k ((Cx.mt.next.box_one (T := T) (i := 0) Cx.mt.off (by simp)).box_add (n := (T, 1, 0)) (by simp [nms]) (by simp)) ?_
  intro h1 x1
  have hT := x1.l0
  have hT2 : ¬ h1.tick = T := fun e => hT e.symm
  repeat' (first
   | with_reducible refine stp ?_
   | with_reducible refine k_blk_o rfl ?_
   | ((try (conv => arg 1; simp [hnil])); with_reducible refine evp ?_)
   | ((with_reducible refine apn ?na ?_); (case na => simp [appNames, ints, intss] <;> first | kernel_rfl | (refine ⟨?_, ?_⟩ <;> kernel_rfl)))
   | fail)
  refine cx_k (x1.next.box_one (T := h1.tick) (i := 0) x1.off (by simp)) ?_
  intro h2 x2
  have b2 := x2.bxs
  simp only [Bxs] at b2
  repeat' (first
   | with_reducible refine stp ?_
   | with_reducible refine k_blk_o rfl ?_
   | with_reducible refine k_seq_n ?_
   | ((try (conv => arg 1; simp [hT, hT2, b2, nm_ne, ltS])); with_reducible refine evp ?_)
   | ((with_reducible refine apn ?na ?_); (case na => simp [appNames, ints, intss] <;> first | kernel_rfl | (refine ⟨?_, ?_⟩ <;> kernel_rfl)))
   | fail)
  refine st_fresh rfl (toIntS g.Sizes hs.sizes) (.cons (dr_ints (fun h => h) _) .nil) ?_
  intro v h3 n o d f p t
  have x3 := x2.next.fresh o d f p t
  have q := own_one (ownV_ints (o true))
  have b3 := x3.bxs
  simp only [Bxs] at b3
  have x3' := x3.box_set (r' := ⟨0, 5, [[v, .int .i64 0, .int .i64 0, .int .i64 0, .nilsl]]⟩)
  repeat' (first
   | with_reducible refine stp ?_
   | with_reducible refine k_blk_o rfl ?_
   | ((try (conv => arg 1; simp [hT, hT2, b3, q.1, q.2.1, q.2.2, nm_ne, ltS])); with_reducible refine evp ?_)
   | ((with_reducible refine apn ?na ?_); (case na => simp [appNames, ints, intss] <;> first | kernel_rfl | (refine ⟨?_, ?_⟩ <;> kernel_rfl)))
   | fail)
  refine cx_k x3' ?_
  intro h4 x4
  have b4 := x4.bxs
  simp only [Bxs] at b4
  repeat' (first
   | with_reducible refine stp ?_
   | with_reducible refine k_blk_o rfl ?_
   | ((try (conv => arg 1; simp [hT, hT2, b4, q.1, q.2.1, q.2.2, nm_ne, ltS])); with_reducible refine evp ?_)
   | ((with_reducible refine apn ?na ?_); (case na => simp [appNames, ints, intss] <;> first | kernel_rfl | (refine ⟨?_, ?_⟩ <;> kernel_rfl)))
   | fail)
  refine cx_k (x4.next.box_set (r' := ⟨0, 5, [[v, .int .i64 g.Params, .int .i64 0, .int .i64 0, .nilsl]]⟩)) ?_
  intro h5 x5
  have b5 := x5.bxs
  simp only [Bxs] at b5
  repeat' (first
   | with_reducible refine stp ?_
   | with_reducible refine k_blk_o rfl ?_
   | ((try (conv => arg 1; simp [hT, hT2, b5, q.1, q.2.1, q.2.2, nm_ne, ltS])); with_reducible refine evp ?_)
   | ((with_reducible refine apn ?na ?_); (case na => simp [appNames, ints, intss] <;> first | kernel_rfl | (refine ⟨?_, ?_⟩ <;> kernel_rfl)))
   | fail)
  refine cx_k (x5.next.box_set (r' := ⟨0, 5, [[v, .int .i64 g.Params, .int .i64 g.Vars, .int .i64 0, .nilsl]]⟩)) ?_
  intro h6 x6
  have b6 := x6.bxs
  simp only [Bxs] at b6
  repeat' (first
   | with_reducible refine stp ?_
   | with_reducible refine k_blk_o rfl ?_
   | ((try (conv => arg 1; simp [hT, hT2, b6, q.1, q.2.1, q.2.2, nm_ne, ltS])); with_reducible refine evp ?_)
   | ((with_reducible refine apn ?na ?_); (case na => simp [appNames, ints, intss] <;> first | kernel_rfl | (refine ⟨?_, ?_⟩ <;> kernel_rfl)))
   | fail)
  refine cx_k (x6.next.box_set (r' := ⟨0, 5, [[v, .int .i64 g.Params, .int .i64 g.Vars, .int .i64 g.Slots, .nilsl]]⟩)) ?_
  intro h7 x7
  have b7 := x7.bxs
  simp only [Bxs] at b7
  repeat' (first
   | with_reducible refine stp ?_
   | with_reducible refine k_blk_o rfl ?_
   | with_reducible refine k_seq_n ?_
   | ((try (conv => arg 1; simp [hT, hT2, b7, q.1, q.2.1, q.2.2, nm_ne, ltS])); with_reducible refine evp ?_)
   | ((with_reducible refine apn ?na ?_); (case na => simp [appNames, ints, intss] <;> first | kernel_rfl | (refine ⟨?_, ?_⟩ <;> kernel_rfl)))
   | fail)
  refine st_freshw rfl (toBlockS g.Blocks hs.len hs.code) (.cons (dr_blocks (fun h => h) _) .nil) ?_
  intro v2 h8 n2 o2 d2 f2 p2 t2
  have x8 := x7.next.fresh o2 d2 f2 p2 t2
  have q2 := own_one' (own_of (o2 true) rfl)
  have b8 := x8.bxs
  simp only [Bxs] at b8
  repeat' (first
   | with_reducible refine stp ?_
   | with_reducible refine k_blk_o rfl ?_
   | with_reducible refine k_seq_n ?_
   | ((try (conv => arg 1; simp [hT, hT2, b8, q.1, q.2.1, q.2.2, q2.1, q2.2.1, q2.2.2, nm_ne, ltS])); with_reducible refine evp ?_)
   | ((with_reducible refine apn ?na ?_); (case na => simp [appNames, ints, intss] <;> first | kernel_rfl | (refine ⟨?_, ?_⟩ <;> kernel_rfl)))
   | fail)
  refine fin_own (os := []) (ns := n ++ n2) (bs := ?bs) (Cx.graph_join (g := g) (w1 := v) (w2 := v2) (n1 := n) (n2 := n2) (Cx.rot1 ?y))
  case y => exact Cx.to x8

theorem eqGraph (g : Graph) (hs : g.Small) : Pure Try.prog 15 [.agg (g.cells true), .agg (g.cells true)] (.bool true) := by
  intro T
  refine enter mixed MG4 Try.func15 rfl (by kernel_rfl) rfl ?_
  repeat' (first
   | with_reducible refine stp ?_
   | with_reducible refine k_blk_o rfl ?_
   | with_reducible refine k_seq_n ?_
   | ((try (conv => arg 1; simp [Graph.cells])); with_reducible refine evp ?_)
   | ((with_reducible refine apn ?na ?_); (case na => simp [appNames, ints, intss] <;> first | kernel_rfl | (refine ⟨?_, ?_⟩ <;> kernel_rfl)))
   | ((with_reducible refine tcl ?_); first | ((apply tg (eqIntS g.Sizes (by have := hs.sizes; omega))); (case e => rfl); (case d => (refine dq ?_); (repeat' (first | ((refine Da.mk ?_); first | exact dr_blocks (by simp) _ | assumption) | constructor)))) | ((apply tg (eqBlockS g.Blocks (by have := hs.len; omega) (fun x hx => by have := hs.code x hx; omega))); (case e => rfl); (case d => (refine dq ?_); (repeat' (first | ((refine Da.mk ?_); first | exact dr_blocks (by simp) _ | assumption) | constructor)))))
   | fail)
  exact .bool true
end Go.Proofs.Ytlmlkkkgcbpaoaa.AM

/-
  A block, a graph that is right: the program's.
-/
set_option linter.unusedVariables false
set_option linter.unusedSimpArgs false
set_option maxRecDepth 4000
namespace Go.Proofs.Ytlmlkkkgcbpaoaa.AM
open Go.RowKit

private def MG12 : FuncId → Mode := fun f => .tree

theorem Graph.Small.fit {g : Graph} (h : g.Small) : g.Fit := ⟨h.sizes, h.len, h.code⟩
theorem gsum_mono {α : Type} {f e : α → Nat} (h : ∀ a, f a ≤ e a) (l : List α) (i : Nat) : gsum f l i ≤ gsum e l i := by
  unfold gsum
  generalize List.take i l = k
  induction k with
  | nil => simp
  | cons a k ih =>
    have := h a
    simp
    omega
theorem codeLen_small {g : Graph} (h : g.Small) (i : Nat) : codeLen g.Blocks i ≤ 2 ^ 20 := by
  have h1 := codeLen_le g.Blocks i
  have h2 : codeLen g.Blocks g.Blocks.length ≤ gsum wtB g.Blocks g.Blocks.length := gsum_mono (fun b => wtIS_len) _ _
  have h3 := h.blocks
  unfold wtBS at h3
  omega

theorem notInstr (g : Graph) (x : Instr) (hs : 0 ≤ g.Slots ∧ g.Slots ≤ 1000) (hr : g.Sizes.length ≤ 2 ^ 20) : Pure Try.prog 114 [.agg x.cells, .tptr true (g.cells true)] (.bool (!instrOk g.Slots g.Sizes.length x)) := by
  intro T
  have I := isInstr g x hs hr
  refine enter mixed MG12 Try.func114 rfl (by kernel_rfl) rfl ?_
  repeat' (first
   | with_reducible refine stp ?_
   | with_reducible refine k_blk_o rfl ?_
   | with_reducible refine k_seq_n ?_
   | ((try (conv => arg 1; simp [Graph.cells, Instr.cells])); with_reducible refine evp ?_)
   | ((with_reducible refine apn ?na ?_); (case na => simp [appNames, ints, intss] <;> first | kernel_rfl | (refine ⟨?_, ?_⟩ <;> kernel_rfl)))
   | ((with_reducible refine tcl ?_); first | ((apply tg (I)); (case e => rfl); (case d => (refine dq ?_); (repeat' (first | ((refine Da.mk ?_); first | exact dr_blocks (by simp) _ | assumption) | constructor)))))
   | fail)
  exact .bool _

set_option maxHeartbeats 8000000 in
theorem isBlock (g : Graph) (b : Block) (hs : 0 ≤ g.Slots ∧ g.Slots ≤ 1000) (hr : g.Sizes.length ≤ 2 ^ 20) (hb : g.Blocks.length ≤ 2 ^ 20) (hc : b.Code.length ≤ 2 ^ 20) : Pure Try.prog 73 [.agg (g.cells true), .agg (b.cells true)] (.bool (blockOk g b)) := by
  intro T
  have w1 : IntKind.i64.wrap (g.Slots - 1) = g.Slots - 1 := wrap_id (by omega) (by omega)
  have w2 : IntKind.i64.wrap ((g.Blocks.length : Int) - 1) = (g.Blocks.length : Int) - 1 := wrap_id (by omega) (by omega)
  have hs0 : ¬ g.Slots < 0 := by omega
  have H := containsFuncW b.Code 114 [.tptr true (g.cells true)] (fun x => !instrOk g.Slots g.Sizes.length x) (fun x _ => notInstr g x hs hr) (fun _ => .cons (dr_tptr' (fun h => h) (drs_graph (fun h => h) g)) .nil) (by omega)
  have e1 : (b.Code.any fun x => !instrOk g.Slots g.Sizes.length x) = !(b.Code.all (instrOk g.Slots g.Sizes.length)) := by rw [List.all_eq_not_any_not, Bool.not_not]
  rw [e1] at H
  refine enter mixed MG12 Try.func73 rfl (by kernel_rfl) rfl ?_
  cases ha : b.Code.all (instrOk g.Slots g.Sizes.length) with
  | false =>
    rw [ha] at H
    repeat' (first
     | with_reducible refine stp ?_
     | with_reducible refine k_blk_o rfl ?_
     | with_reducible refine k_seq_n ?_
     | ((try (conv => arg 1; simp [Graph.cells, Block.cells])); with_reducible refine evp ?_)
     | ((with_reducible refine apn ?na ?_); (case na => simp [appNames, ints, intss] <;> first | kernel_rfl | (refine ⟨?_, ?_⟩ <;> kernel_rfl)))
     | ((with_reducible refine tcl ?_); first | ((apply tg (H)); (case e => rfl); (case d => (refine dq ?_); (repeat' (first | ((refine Da.mk ?_); first | exact dr_instrs (by simp) _ | exact dr_ptr0 (r := ⟨0, 5, [g.cells true]⟩) (by simp [Graph.cells]) rfl rfl (drs_graph (by simp) _) | assumption) | constructor)))))
     | fail)
    have e : blockOk g b = false := by unfold blockOk; rw [ha, Bool.false_and]
    rw [e]
    exact .bool _
  | true =>
    rw [ha] at H
    repeat' (first
     | with_reducible refine stp ?_
     | with_reducible refine k_blk_o rfl ?_
     | with_reducible refine k_seq_n ?_
     | ((try (conv => arg 1; simp [Graph.cells, Block.cells])); with_reducible refine evp ?_)
     | ((with_reducible refine apn ?na ?_); (case na => simp [appNames, ints, intss] <;> first | kernel_rfl | (refine ⟨?_, ?_⟩ <;> kernel_rfl)))
     | ((with_reducible refine tcl ?_); first | ((apply tg (H)); (case e => rfl); (case d => (refine dq ?_); (repeat' (first | ((refine Da.mk ?_); first | exact dr_instrs (by simp) _ | exact dr_ptr0 (r := ⟨0, 5, [g.cells true]⟩) (by simp [Graph.cells]) rfl rfl (drs_graph (by simp) _) | assumption) | constructor)))))
     | fail)
    have e : blockOk g b = (if b.Jump = 0 then inB b.To 0 ((g.Blocks.length : Int) - 1) && decide (b.A = 0) && decide (b.Else = 0)
        else if b.Jump = 1 then inB b.To 0 ((g.Blocks.length : Int) - 1) && inB b.Else 0 ((g.Blocks.length : Int) - 1) && inB b.A 0 (g.Slots - 1)
        else if b.Jump = 2 then inB b.A 0 (g.Slots - 1) && decide (b.To = 0) && decide (b.Else = 0)
        else false) := by unfold blockOk; rw [ha, Bool.true_and]
    rw [e]
    repeat (with_reducible first | refine stp ?_ | refine k_seq_n ?_)
    refine st_draw 27 (fun _ => false) (by kernel_rfl) ?_
    simp only [List.take_succ_cons, List.take_zero, List.drop_succ_cons, List.drop_zero, List.take_nil, List.drop_nil]
    repeat' (first
      | (with_reducible first | refine st_seq ?_ | refine st_reg ?_ | refine st_block ?_ | refine st_nil ?_ | refine st_skip ?_ | refine st_ret ?_ | refine st_exit ?_ | refine fr_nil ?_ | refine k_seq_n ?_ | refine k_seq_r ?_ | refine k_seq_e ?_ | refine k_blk_n ?_ | refine k_blk_r ?_ | refine k_blk_s ?_ | refine k_blk_o rfl ?_ | refine k_fn_r ?_ | refine k_fn_n ?_ | refine k_lp_r ?_ | refine k_lp_e ?_)
      | ((with_reducible first | refine st_move ?_ | refine st_asg ?_ | refine st_c ?_ | refine fr_c ?_); (try (conv => arg 1; simp [w1, w2, hs0])); (with_reducible refine at_mk ?_))
      | ((with_reducible first | refine st_g ?_ | refine fr_g ?_); (try (conv => arg 1; simp [w1, w2, hs0])); (with_reducible refine at_mk ?_); with_reducible first | refine gd_tt ?_ | refine gd_ff ?_ | refine gd_tf ?_ | refine gd_ft ?_ | refine gd_no ?_)
      | ((with_reducible first | refine st_gm ?_ | refine fr_gm ?_); (try (conv => arg 1; simp [w1, w2, hs0])); (with_reducible refine at_mk ?_); (with_reducible first | refine gm_bool ?_ | refine gm_gv ?_); refine ⟨_, (by intro hc; first | ((try simp only [Bool.and_eq_true] at hc); (try (conv => lhs; simp [hc, w1, w2, hs0])); first | done | exact rfl) | ((try simp [gq] at hc); (try (conv => lhs; simp [gq, hc, w1, w2, hs0])); first | done | exact rfl)), ?_⟩)
      | ((with_reducible refine st_gmc ?_); (try (conv => arg 1; simp [w1, w2, hs0])); (with_reducible refine at_mk ?_); (with_reducible first | refine gm_bool ?_ | refine gm_gv ?_); refine ⟨_, _, _, (by intro hc; first | ((try simp only [Bool.and_eq_true] at hc); (try (conv => lhs; simp [hc, w1, w2, hs0])); first | done | exact rfl) | ((try simp [gq] at hc); (try (conv => lhs; simp [gq, hc, w1, w2, hs0])); first | done | exact rfl)), rfl, in_ _ _ _, (by intro hc; (try simp at hc); (repeat' (first | exact DRs.nil | refine DRs.cons ?_ ?_ | exact .int _ _ | exact .bool _ | exact .str _ | exact .nilsl | exact .nilp | exact dr_ints (by simp) _ | exact dr_intss (by simp) _ | refine dr_agg ?_ | refine dr_fn ?_ | refine dr_tptr' (by simp) ?_ | assumption))), ?_⟩)
      | ((with_reducible refine fr_gmc ?_); (try (conv => arg 1; simp [w1, w2, hs0])); (with_reducible refine at_mk ?_); (with_reducible first | refine gm_bool ?_ | refine gm_gv ?_); refine ⟨_, _, _, (by intro hc; first | ((try simp only [Bool.and_eq_true] at hc); (try (conv => lhs; simp [hc, w1, w2, hs0])); first | done | exact rfl) | ((try simp [gq] at hc); (try (conv => lhs; simp [gq, hc, w1, w2, hs0])); first | done | exact rfl)), in_ _ _ _, (by intro hc; (try simp at hc); (repeat' (first | exact DRs.nil | refine DRs.cons ?_ ?_ | exact .int _ _ | exact .bool _ | exact .str _ | exact .nilsl | exact .nilp | exact dr_ints (by simp) _ | exact dr_intss (by simp) _ | refine dr_agg ?_ | refine dr_fn ?_ | refine dr_tptr' (by simp) ?_ | assumption))), ?_⟩)
      | ((with_reducible refine st_gmv ?_); (try (conv => arg 1; simp [w1, w2, hs0])); (with_reducible refine at_mk ?_); (with_reducible first | refine gm_bool ?_ | refine gm_gv ?_); refine ⟨_, _, _, _, _, (by intro hc; first | ((try simp only [Bool.and_eq_true] at hc); (try (conv => lhs; simp [hc, w1, w2, hs0])); first | done | exact rfl) | ((try simp [gq] at hc); (try (conv => lhs; simp [gq, hc, w1, w2, hs0])); first | done | exact rfl)), (by intro hc; first | ((try simp only [Bool.and_eq_true] at hc); (try (conv => lhs; simp [hc, w1, w2, hs0])); first | done | exact rfl) | ((try simp [gq] at hc); (try (conv => lhs; simp [gq, hc, w1, w2, hs0])); first | done | exact rfl)), rfl, in_ _ _ _, (by intro hc; (try simp at hc); (repeat' (first | exact DRs.nil | refine DRs.cons ?_ ?_ | exact .int _ _ | exact .bool _ | exact .str _ | exact .nilsl | exact .nilp | exact dr_ints (by simp) _ | exact dr_intss (by simp) _ | refine dr_agg ?_ | refine dr_fn ?_ | refine dr_tptr' (by simp) ?_ | assumption))), ?_⟩)
      | ((with_reducible refine st_m rfl ?_); (try (conv => arg 1; simp [w1, w2, hs0])); (with_reducible refine ev2_some ?_))
      | ((with_reducible refine fr_n rfl ?_); (try (conv => arg 1; simp [w1, w2, hs0])); (with_reducible refine evn_some ?_))
      | ((with_reducible first | refine st_cv ?_ | refine fr_cv ?_); (try (conv => arg 1; simp [w1, w2, hs0])); (with_reducible refine at_mk ?_); (with_reducible refine fn_mk ?_); (try (conv => arg 1; simp [w1, w2, hs0])); (with_reducible refine at_mk ?_))
      | ((with_reducible refine fr_a ?_); (try (conv => arg 1; simp [w1, w2, hs0])); (with_reducible refine at_mk ?_); (try (conv => arg 1; simp [w1, w2, hs0])); (with_reducible refine at_mk ?_); refine ⟨?names, ?_⟩; (case names => (simp [appNames, ints, intss] <;> first | kernel_rfl | (refine ⟨?_, ?_⟩ <;> kernel_rfl))); (try (conv => arg 1; simp [w1, w2, hs0])); (with_reducible refine ev2_some ?_))
      | ((with_reducible first | refine st_q ?_ | refine fr_q ?_ | refine st_res ?_); (try (conv => arg 1; simp [w1, w2, hs0])); (with_reducible refine ev_some ?_))
      | ((with_reducible refine st_if ?_); (try (conv => arg 1; simp [w1, w2, hs0])); (with_reducible refine at_mk ?_); with_reducible first | refine br_t ?_ | refine br_f ?_ | (refine br_b (fun hb => ?_) (fun hb => ?_) <;> ((try simp only [Bool.not_eq_eq_eq_not, Bool.not_true, Bool.not_false] at hb); (try simp only [hb]); (try simp at hb))))
      | ((with_reducible refine ct_id ?_); refine st_tree rfl (in_ _ _ _) (by (repeat' (first | exact DRs.nil | refine DRs.cons ?_ ?_ | exact .int _ _ | exact .bool _ | exact .str _ | exact .nilsl | exact .nilp | exact dr_ints (by simp) _ | exact dr_intss (by simp) _ | refine dr_agg ?_ | refine dr_fn ?_ | refine dr_tptr' (by simp) ?_ | assumption))) ?_)
      | ((with_reducible refine tw_id ?_); refine treeW_pure (in_ _ _ _) (by (repeat' (first | exact DRs.nil | refine DRs.cons ?_ ?_ | exact .int _ _ | exact .bool _ | exact .str _ | exact .nilsl | exact .nilp | exact dr_ints (by simp) _ | exact dr_intss (by simp) _ | refine dr_agg ?_ | refine dr_fn ?_ | refine dr_tptr' (by simp) ?_ | assumption))) ?_))
    all_goals refine dr_bool ?_
    all_goals rw [Bool.eq_iff_iff]
    all_goals (try simp_all [inB])
    all_goals grind

theorem isSize (n : Int) : Pure Try.prog 111 [.int .i64 n] (.bool (!inB n 1 16)) := by
  intro T
  refine enter mixed MG12 Try.func111 rfl (by kernel_rfl) rfl ?_
  repeat' (first
   | with_reducible refine stp ?_
   | with_reducible refine k_blk_o rfl ?_
   | with_reducible refine k_seq_n ?_
   | ((try (conv => arg 1; simp)); with_reducible refine evp ?_)
   | ((with_reducible refine apn ?na ?_); (case na => simp [appNames, ints, intss] <;> first | kernel_rfl | (refine ⟨?_, ?_⟩ <;> kernel_rfl)))
   | ((with_reducible refine tcl ?_); first | ((apply tg (in_ _ _ _)); (case e => rfl); (case d => (refine dq ?_); (repeat' (first | ((refine Da.mk ?_); first | assumption) | constructor)))))
   | fail)
  exact .bool _
theorem areStmts0 (sizes : List Int) (P V : Int) : Pure Try.prog 112 [.agg [ints true sizes, .int .i64 P, .int .i64 V, .tr true []], .tr true [], .int .i64 0] (.bool true) := by
  intro T
  refine enter mixed MG12 Try.func112 rfl (by kernel_rfl) rfl ?_
  repeat' (first
    | (with_reducible first | refine st_seq ?_ | refine st_reg ?_ | refine st_block ?_ | refine st_nil ?_ | refine st_skip ?_ | refine st_ret ?_ | refine st_exit ?_ | refine fr_nil ?_ | refine k_seq_n ?_ | refine k_seq_r ?_ | refine k_seq_e ?_ | refine k_blk_n ?_ | refine k_blk_r ?_ | refine k_blk_s ?_ | refine k_blk_o rfl ?_ | refine k_fn_r ?_ | refine k_fn_n ?_ | refine k_lp_r ?_ | refine k_lp_e ?_)
    | ((with_reducible first | refine st_move ?_ | refine st_asg ?_ | refine st_c ?_ | refine fr_c ?_); (try (conv => arg 1; simp)); (with_reducible refine at_mk ?_))
    | ((with_reducible first | refine st_g ?_ | refine fr_g ?_); (try (conv => arg 1; simp)); (with_reducible refine at_mk ?_); with_reducible first | refine gd_tt ?_ | refine gd_ff ?_ | refine gd_tf ?_ | refine gd_ft ?_ | refine gd_no ?_)
    | ((with_reducible first | refine st_gm ?_ | refine fr_gm ?_); (try (conv => arg 1; simp)); (with_reducible refine at_mk ?_); (with_reducible first | refine gm_bool ?_ | refine gm_gv ?_); refine ⟨_, (by intro hc; first | ((try simp only [Bool.and_eq_true] at hc); (try (conv => lhs; simp [hc])); first | done | exact rfl) | ((try simp [gq] at hc); (try (conv => lhs; simp [gq, hc])); first | done | exact rfl)), ?_⟩)
    | ((with_reducible refine st_m rfl ?_); (try (conv => arg 1; simp)); (with_reducible refine ev2_some ?_))
    | ((with_reducible refine fr_n rfl ?_); (try (conv => arg 1; simp)); (with_reducible refine evn_some ?_))
    | ((with_reducible first | refine st_cv ?_ | refine fr_cv ?_); (try (conv => arg 1; simp)); (with_reducible refine at_mk ?_); (with_reducible refine fn_mk ?_); (try (conv => arg 1; simp)); (with_reducible refine at_mk ?_))
    | ((with_reducible refine fr_a ?_); (try (conv => arg 1; simp)); (with_reducible refine at_mk ?_); (try (conv => arg 1; simp)); (with_reducible refine at_mk ?_); refine ⟨?names, ?_⟩; (case names => (simp [appNames, ints, intss] <;> first | kernel_rfl | (refine ⟨?_, ?_⟩ <;> kernel_rfl))); (try (conv => arg 1; simp)); (with_reducible refine ev2_some ?_))
    | ((with_reducible first | refine st_q ?_ | refine fr_q ?_ | refine st_res ?_); (try (conv => arg 1; simp)); (with_reducible refine ev_some ?_))
    | ((with_reducible refine st_if ?_); (try (conv => arg 1; simp)); (with_reducible refine at_mk ?_); with_reducible first | refine br_t ?_ | refine br_f ?_))
  refine st_loop (fun (i : Nat) σ h => σ 24 = .int .i64 0 ∧ σ 25 = .int .i64 0) (fun i => 0) 0 ?init ?step
  case init =>
    simp
  case step =>
    rintro i σ h ⟨h0, h1⟩
    repeat' (first
     | with_reducible refine stp ?_
     | with_reducible refine k_blk_o rfl ?_
     | with_reducible refine k_seq_n ?_
     | ((try (conv => arg 1; simp [h0, h1])); with_reducible refine evp ?_)
     | ((with_reducible refine apn ?na ?_); (case na => simp [appNames, ints, intss] <;> first | kernel_rfl | (refine ⟨?_, ?_⟩ <;> kernel_rfl)))
     | fail)
    exact .bool _
def progOk (sizes : List Int) (P V : Int) : Bool := (inB sizes.length 1 4 && sizes.all fun n => inB n 1 16) && inB P 0 (if V < 6 then V else 6) && decide (V ≤ 20)
theorem isProgram0 (sizes : List Int) (P V : Int) (hl : sizes.length ≤ 2 ^ 62) : Pure Try.prog 71 [.agg [ints true sizes, .int .i64 P, .int .i64 V, .tr true []]] (.bool (progOk sizes P V)) := by
  intro T
  have hc := containsFuncI sizes 111 [] (fun n => !inB n 1 16) (fun w _ => isSize w) (fun _ => .nil) hl
  have hA := areStmts0 sizes P V
  refine enter mixed MG12 Try.func71 rfl (by kernel_rfl) rfl ?_
  repeat' (first
    | (with_reducible first | refine st_seq ?_ | refine st_reg ?_ | refine st_block ?_ | refine st_nil ?_ | refine st_skip ?_ | refine st_ret ?_ | refine st_exit ?_ | refine fr_nil ?_ | refine k_seq_n ?_ | refine k_seq_r ?_ | refine k_seq_e ?_ | refine k_blk_n ?_ | refine k_blk_r ?_ | refine k_blk_s ?_ | refine k_blk_o rfl ?_ | refine k_fn_r ?_ | refine k_fn_n ?_ | refine k_lp_r ?_ | refine k_lp_e ?_)
    | ((with_reducible first | refine st_move ?_ | refine st_asg ?_ | refine st_c ?_ | refine fr_c ?_); (try (conv => arg 1; simp [mmA])); (with_reducible refine at_mk ?_))
    | ((with_reducible first | refine st_g ?_ | refine fr_g ?_); (try (conv => arg 1; simp [mmA])); (with_reducible refine at_mk ?_); with_reducible first | refine gd_tt ?_ | refine gd_ff ?_ | refine gd_tf ?_ | refine gd_ft ?_ | refine gd_no ?_)
    | ((with_reducible first | refine st_gm ?_ | refine fr_gm ?_); (try (conv => arg 1; simp [mmA])); (with_reducible refine at_mk ?_); (with_reducible first | refine gm_bool ?_ | refine gm_gv ?_); refine ⟨_, (by intro hc; first | ((try simp only [Bool.and_eq_true] at hc); (try (conv => lhs; simp [hc, mmA])); first | done | exact rfl) | ((try simp [gq] at hc); (try (conv => lhs; simp [gq, hc, mmA])); first | done | exact rfl)), ?_⟩)
    | ((with_reducible refine st_gmc ?_); (try (conv => arg 1; simp [mmA])); (with_reducible refine at_mk ?_); (with_reducible first | refine gm_bool ?_ | refine gm_gv ?_); refine ⟨_, _, _, (by intro hc; first | ((try simp only [Bool.and_eq_true] at hc); (try (conv => lhs; simp [hc, mmA])); first | done | exact rfl) | ((try simp [gq] at hc); (try (conv => lhs; simp [gq, hc, mmA])); first | done | exact rfl)), rfl, hc, (by intro hc; (try simp at hc); (repeat' (first | exact DRs.nil | refine DRs.cons ?_ ?_ | exact .int _ _ | exact .bool _ | exact .str _ | exact .nilsl | exact .nilp | exact dr_ints (by simp) _ | exact dr_intss (by simp) _ | refine dr_agg ?_ | refine dr_fn ?_ | refine dr_tptr' (by simp) ?_ | assumption | exact .tr0 _))), ?_⟩)
    | ((with_reducible refine fr_gmc ?_); (try (conv => arg 1; simp [mmA])); (with_reducible refine at_mk ?_); (with_reducible first | refine gm_bool ?_ | refine gm_gv ?_); refine ⟨_, _, _, (by intro hc; first | ((try simp only [Bool.and_eq_true] at hc); (try (conv => lhs; simp [hc, mmA])); first | done | exact rfl) | ((try simp [gq] at hc); (try (conv => lhs; simp [gq, hc, mmA])); first | done | exact rfl)), hc, (by intro hc; (try simp at hc); (repeat' (first | exact DRs.nil | refine DRs.cons ?_ ?_ | exact .int _ _ | exact .bool _ | exact .str _ | exact .nilsl | exact .nilp | exact dr_ints (by simp) _ | exact dr_intss (by simp) _ | refine dr_agg ?_ | refine dr_fn ?_ | refine dr_tptr' (by simp) ?_ | assumption | exact .tr0 _))), ?_⟩)
    | ((with_reducible refine st_gmv ?_); (try (conv => arg 1; simp [mmA])); (with_reducible refine at_mk ?_); (with_reducible first | refine gm_bool ?_ | refine gm_gv ?_); refine ⟨_, _, _, _, _, (by intro hc; first | ((try simp only [Bool.and_eq_true] at hc); (try (conv => lhs; simp [hc, mmA])); first | done | exact rfl) | ((try simp [gq] at hc); (try (conv => lhs; simp [gq, hc, mmA])); first | done | exact rfl)), (by intro hc; first | ((try simp only [Bool.and_eq_true] at hc); (try (conv => lhs; simp [hc, mmA])); first | done | exact rfl) | ((try simp [gq] at hc); (try (conv => lhs; simp [gq, hc, mmA])); first | done | exact rfl)), rfl, hc, (by intro hc; (try simp at hc); (repeat' (first | exact DRs.nil | refine DRs.cons ?_ ?_ | exact .int _ _ | exact .bool _ | exact .str _ | exact .nilsl | exact .nilp | exact dr_ints (by simp) _ | exact dr_intss (by simp) _ | refine dr_agg ?_ | refine dr_fn ?_ | refine dr_tptr' (by simp) ?_ | assumption | exact .tr0 _))), ?_⟩)
    | ((with_reducible refine st_gmc ?_); (try (conv => arg 1; simp [mmA])); (with_reducible refine at_mk ?_); (with_reducible first | refine gm_bool ?_ | refine gm_gv ?_); refine ⟨_, _, _, (by intro hc; first | ((try simp only [Bool.and_eq_true] at hc); (try (conv => lhs; simp [hc, mmA])); first | done | exact rfl) | ((try simp [gq] at hc); (try (conv => lhs; simp [gq, hc, mmA])); first | done | exact rfl)), rfl, in_ _ _ _, (by intro hc; (try simp at hc); (repeat' (first | exact DRs.nil | refine DRs.cons ?_ ?_ | exact .int _ _ | exact .bool _ | exact .str _ | exact .nilsl | exact .nilp | exact dr_ints (by simp) _ | exact dr_intss (by simp) _ | refine dr_agg ?_ | refine dr_fn ?_ | refine dr_tptr' (by simp) ?_ | assumption | exact .tr0 _))), ?_⟩)
    | ((with_reducible refine fr_gmc ?_); (try (conv => arg 1; simp [mmA])); (with_reducible refine at_mk ?_); (with_reducible first | refine gm_bool ?_ | refine gm_gv ?_); refine ⟨_, _, _, (by intro hc; first | ((try simp only [Bool.and_eq_true] at hc); (try (conv => lhs; simp [hc, mmA])); first | done | exact rfl) | ((try simp [gq] at hc); (try (conv => lhs; simp [gq, hc, mmA])); first | done | exact rfl)), in_ _ _ _, (by intro hc; (try simp at hc); (repeat' (first | exact DRs.nil | refine DRs.cons ?_ ?_ | exact .int _ _ | exact .bool _ | exact .str _ | exact .nilsl | exact .nilp | exact dr_ints (by simp) _ | exact dr_intss (by simp) _ | refine dr_agg ?_ | refine dr_fn ?_ | refine dr_tptr' (by simp) ?_ | assumption | exact .tr0 _))), ?_⟩)
    | ((with_reducible refine st_gmv ?_); (try (conv => arg 1; simp [mmA])); (with_reducible refine at_mk ?_); (with_reducible first | refine gm_bool ?_ | refine gm_gv ?_); refine ⟨_, _, _, _, _, (by intro hc; first | ((try simp only [Bool.and_eq_true] at hc); (try (conv => lhs; simp [hc, mmA])); first | done | exact rfl) | ((try simp [gq] at hc); (try (conv => lhs; simp [gq, hc, mmA])); first | done | exact rfl)), (by intro hc; first | ((try simp only [Bool.and_eq_true] at hc); (try (conv => lhs; simp [hc, mmA])); first | done | exact rfl) | ((try simp [gq] at hc); (try (conv => lhs; simp [gq, hc, mmA])); first | done | exact rfl)), rfl, in_ _ _ _, (by intro hc; (try simp at hc); (repeat' (first | exact DRs.nil | refine DRs.cons ?_ ?_ | exact .int _ _ | exact .bool _ | exact .str _ | exact .nilsl | exact .nilp | exact dr_ints (by simp) _ | exact dr_intss (by simp) _ | refine dr_agg ?_ | refine dr_fn ?_ | refine dr_tptr' (by simp) ?_ | assumption | exact .tr0 _))), ?_⟩)
    | ((with_reducible refine st_gmc ?_); (try (conv => arg 1; simp [mmA])); (with_reducible refine at_mk ?_); (with_reducible first | refine gm_bool ?_ | refine gm_gv ?_); refine ⟨_, _, _, (by intro hc; first | ((try simp only [Bool.and_eq_true] at hc); (try (conv => lhs; simp [hc, mmA])); first | done | exact rfl) | ((try simp [gq] at hc); (try (conv => lhs; simp [gq, hc, mmA])); first | done | exact rfl)), rfl, hA, (by intro hc; (try simp at hc); (repeat' (first | exact DRs.nil | refine DRs.cons ?_ ?_ | exact .int _ _ | exact .bool _ | exact .str _ | exact .nilsl | exact .nilp | exact dr_ints (by simp) _ | exact dr_intss (by simp) _ | refine dr_agg ?_ | refine dr_fn ?_ | refine dr_tptr' (by simp) ?_ | assumption | exact .tr0 _))), ?_⟩)
    | ((with_reducible refine fr_gmc ?_); (try (conv => arg 1; simp [mmA])); (with_reducible refine at_mk ?_); (with_reducible first | refine gm_bool ?_ | refine gm_gv ?_); refine ⟨_, _, _, (by intro hc; first | ((try simp only [Bool.and_eq_true] at hc); (try (conv => lhs; simp [hc, mmA])); first | done | exact rfl) | ((try simp [gq] at hc); (try (conv => lhs; simp [gq, hc, mmA])); first | done | exact rfl)), hA, (by intro hc; (try simp at hc); (repeat' (first | exact DRs.nil | refine DRs.cons ?_ ?_ | exact .int _ _ | exact .bool _ | exact .str _ | exact .nilsl | exact .nilp | exact dr_ints (by simp) _ | exact dr_intss (by simp) _ | refine dr_agg ?_ | refine dr_fn ?_ | refine dr_tptr' (by simp) ?_ | assumption | exact .tr0 _))), ?_⟩)
    | ((with_reducible refine st_gmv ?_); (try (conv => arg 1; simp [mmA])); (with_reducible refine at_mk ?_); (with_reducible first | refine gm_bool ?_ | refine gm_gv ?_); refine ⟨_, _, _, _, _, (by intro hc; first | ((try simp only [Bool.and_eq_true] at hc); (try (conv => lhs; simp [hc, mmA])); first | done | exact rfl) | ((try simp [gq] at hc); (try (conv => lhs; simp [gq, hc, mmA])); first | done | exact rfl)), (by intro hc; first | ((try simp only [Bool.and_eq_true] at hc); (try (conv => lhs; simp [hc, mmA])); first | done | exact rfl) | ((try simp [gq] at hc); (try (conv => lhs; simp [gq, hc, mmA])); first | done | exact rfl)), rfl, hA, (by intro hc; (try simp at hc); (repeat' (first | exact DRs.nil | refine DRs.cons ?_ ?_ | exact .int _ _ | exact .bool _ | exact .str _ | exact .nilsl | exact .nilp | exact dr_ints (by simp) _ | exact dr_intss (by simp) _ | refine dr_agg ?_ | refine dr_fn ?_ | refine dr_tptr' (by simp) ?_ | assumption | exact .tr0 _))), ?_⟩)
    | ((with_reducible refine st_m rfl ?_); (try (conv => arg 1; simp [mmA])); (with_reducible refine ev2_some ?_))
    | ((with_reducible refine fr_n rfl ?_); (try (conv => arg 1; simp [mmA])); (with_reducible refine evn_some ?_))
    | ((with_reducible first | refine st_cv ?_ | refine fr_cv ?_); (try (conv => arg 1; simp [mmA])); (with_reducible refine at_mk ?_); (with_reducible refine fn_mk ?_); (try (conv => arg 1; simp [mmA])); (with_reducible refine at_mk ?_))
    | ((with_reducible refine fr_a ?_); (try (conv => arg 1; simp [mmA])); (with_reducible refine at_mk ?_); (try (conv => arg 1; simp [mmA])); (with_reducible refine at_mk ?_); refine ⟨?names, ?_⟩; (case names => (simp [appNames, ints, intss] <;> first | kernel_rfl | (refine ⟨?_, ?_⟩ <;> kernel_rfl))); (try (conv => arg 1; simp [mmA])); (with_reducible refine ev2_some ?_))
    | ((with_reducible first | refine st_q ?_ | refine fr_q ?_ | refine st_res ?_); (try (conv => arg 1; simp [mmA])); (with_reducible refine ev_some ?_))
    | ((with_reducible refine st_if ?_); (try (conv => arg 1; simp [mmA])); (with_reducible refine at_mk ?_); with_reducible first | refine br_t ?_ | refine br_f ?_)
    | ((with_reducible refine ct_id ?_); refine st_tree rfl (hc) (by (repeat' (first | exact DRs.nil | refine DRs.cons ?_ ?_ | exact .int _ _ | exact .bool _ | exact .str _ | exact .nilsl | exact .nilp | exact dr_ints (by simp) _ | exact dr_intss (by simp) _ | refine dr_agg ?_ | refine dr_fn ?_ | refine dr_tptr' (by simp) ?_ | assumption | exact .tr0 _))) ?_)
    | ((with_reducible refine tw_id ?_); refine treeW_pure (hc) (by (repeat' (first | exact DRs.nil | refine DRs.cons ?_ ?_ | exact .int _ _ | exact .bool _ | exact .str _ | exact .nilsl | exact .nilp | exact dr_ints (by simp) _ | exact dr_intss (by simp) _ | refine dr_agg ?_ | refine dr_fn ?_ | refine dr_tptr' (by simp) ?_ | assumption | exact .tr0 _))) ?_)
    | ((with_reducible refine ct_id ?_); refine st_tree rfl (in_ _ _ _) (by (repeat' (first | exact DRs.nil | refine DRs.cons ?_ ?_ | exact .int _ _ | exact .bool _ | exact .str _ | exact .nilsl | exact .nilp | exact dr_ints (by simp) _ | exact dr_intss (by simp) _ | refine dr_agg ?_ | refine dr_fn ?_ | refine dr_tptr' (by simp) ?_ | assumption | exact .tr0 _))) ?_)
    | ((with_reducible refine tw_id ?_); refine treeW_pure (in_ _ _ _) (by (repeat' (first | exact DRs.nil | refine DRs.cons ?_ ?_ | exact .int _ _ | exact .bool _ | exact .str _ | exact .nilsl | exact .nilp | exact dr_ints (by simp) _ | exact dr_intss (by simp) _ | refine dr_agg ?_ | refine dr_fn ?_ | refine dr_tptr' (by simp) ?_ | assumption | exact .tr0 _))) ?_)
    | ((with_reducible refine ct_id ?_); refine st_tree rfl (hA) (by (repeat' (first | exact DRs.nil | refine DRs.cons ?_ ?_ | exact .int _ _ | exact .bool _ | exact .str _ | exact .nilsl | exact .nilp | exact dr_ints (by simp) _ | exact dr_intss (by simp) _ | refine dr_agg ?_ | refine dr_fn ?_ | refine dr_tptr' (by simp) ?_ | assumption | exact .tr0 _))) ?_)
    | ((with_reducible refine tw_id ?_); refine treeW_pure (hA) (by (repeat' (first | exact DRs.nil | refine DRs.cons ?_ ?_ | exact .int _ _ | exact .bool _ | exact .str _ | exact .nilsl | exact .nilp | exact dr_ints (by simp) _ | exact dr_intss (by simp) _ | refine dr_agg ?_ | refine dr_fn ?_ | refine dr_tptr' (by simp) ?_ | assumption | exact .tr0 _))) ?_))
  refine dr_bool ?_
  have e1 : (sizes.all fun n => inB n 1 16) = !sizes.any fun n => !inB n 1 16 := by rw [List.all_eq_not_any_not]
  unfold progOk
  rw [e1]
theorem progOk_iff {g : Graph} : (progOk g.Sizes g.Params g.Vars && inB g.Slots g.Vars 1000 && inB g.Blocks.length 1 300) = headOk g := by
  rw [Bool.eq_iff_iff]
  simp only [progOk, headOk, inB, Bool.and_eq_true, decide_eq_true_eq]
  constructor
  · rintro ⟨⟨⟨⟨⟨h1, h2⟩, h3⟩, h4⟩, h5⟩, h6⟩
    refine ⟨⟨⟨⟨⟨⟨h1, h2⟩, ?_⟩, ?_⟩, h4⟩, h5⟩, h6⟩
    · split at h3 <;> omega
    · split at h3 <;> omega
  · rintro ⟨⟨⟨⟨⟨⟨h1, h2⟩, h3⟩, h3'⟩, h4⟩, h5⟩, h6⟩
    refine ⟨⟨⟨⟨⟨h1, h2⟩, ?_⟩, h4⟩, h5⟩, h6⟩
    split <;> omega

set_option maxHeartbeats 8000000 in
theorem isGraph (g : Graph) (d : g.Small) : Pure Try.prog 40 [.agg (g.cells true)] (.bool (graphOk g)) := by
  intro T
  have d1 := d.sizes
  have d2 := d.len
  have hP := isProgram0 g.Sizes g.Params g.Vars (by omega)
  have hh := progOk_iff (g := g)
  refine enter mixed MG12 Try.func40 rfl (by kernel_rfl) rfl ?_
  repeat' (first
   | with_reducible refine stp ?_
   | with_reducible refine k_blk_o rfl ?_
   | ((try (conv => arg 1; simp [Graph.cells])); with_reducible refine evp ?_)
   | ((with_reducible refine apn ?na ?_); (case na => simp [appNames, ints, intss] <;> first | kernel_rfl | (refine ⟨?_, ?_⟩ <;> kernel_rfl)))
   | fail)
  refine cx_k (Cx.mt.next.box_one (T := T) (i := 0) Cx.mt.off (by simp)) ?_
  intro h1 x1
  have b1 := x1.bxs
  simp only [Bxs] at b1
  repeat' (first
    | (with_reducible first | refine st_seq ?_ | refine st_reg ?_ | refine st_block ?_ | refine st_nil ?_ | refine st_skip ?_ | refine st_ret ?_ | refine st_exit ?_ | refine fr_nil ?_ | refine k_seq_n ?_ | refine k_seq_r ?_ | refine k_seq_e ?_ | refine k_blk_n ?_ | refine k_blk_r ?_ | refine k_blk_s ?_ | refine k_blk_o rfl ?_ | refine k_fn_r ?_ | refine k_fn_n ?_ | refine k_lp_r ?_ | refine k_lp_e ?_)
    | ((with_reducible first | refine st_move ?_ | refine st_asg ?_ | refine st_c ?_ | refine fr_c ?_); (try (conv => arg 1; simp [b1])); (with_reducible refine at_mk ?_))
    | ((with_reducible first | refine st_g ?_ | refine fr_g ?_); (try (conv => arg 1; simp [b1])); (with_reducible refine at_mk ?_); with_reducible first | refine gd_tt ?_ | refine gd_ff ?_ | refine gd_tf ?_ | refine gd_ft ?_ | refine gd_no ?_)
    | ((with_reducible first | refine st_gm ?_ | refine fr_gm ?_); (try (conv => arg 1; simp [b1])); (with_reducible refine at_mk ?_); (with_reducible first | refine gm_bool ?_ | refine gm_gv ?_); refine ⟨_, (by intro hc; first | ((try simp only [Bool.and_eq_true] at hc); (try (conv => lhs; simp [hc, b1])); first | done | exact rfl) | ((try simp [gq] at hc); (try (conv => lhs; simp [gq, hc, b1])); first | done | exact rfl)), ?_⟩)
    | ((with_reducible refine st_gmc ?_); (try (conv => arg 1; simp [b1])); (with_reducible refine at_mk ?_); (with_reducible first | refine gm_bool ?_ | refine gm_gv ?_); refine ⟨_, _, _, (by intro hc; first | ((try simp only [Bool.and_eq_true] at hc); (try (conv => lhs; simp [hc, b1])); first | done | exact rfl) | ((try simp [gq] at hc); (try (conv => lhs; simp [gq, hc, b1])); first | done | exact rfl)), rfl, hP, (by intro hc; (try simp at hc); (repeat' (first | exact DRs.nil | refine DRs.cons ?_ ?_ | exact .int _ _ | exact .bool _ | exact .str _ | exact .nilsl | exact .nilp | exact dr_ints (by simp) _ | exact dr_intss (by simp) _ | refine dr_agg ?_ | refine dr_fn ?_ | refine dr_tptr' (by simp) ?_ | assumption | exact .nilsl))), ?_⟩)
    | ((with_reducible refine fr_gmc ?_); (try (conv => arg 1; simp [b1])); (with_reducible refine at_mk ?_); (with_reducible first | refine gm_bool ?_ | refine gm_gv ?_); refine ⟨_, _, _, (by intro hc; first | ((try simp only [Bool.and_eq_true] at hc); (try (conv => lhs; simp [hc, b1])); first | done | exact rfl) | ((try simp [gq] at hc); (try (conv => lhs; simp [gq, hc, b1])); first | done | exact rfl)), hP, (by intro hc; (try simp at hc); (repeat' (first | exact DRs.nil | refine DRs.cons ?_ ?_ | exact .int _ _ | exact .bool _ | exact .str _ | exact .nilsl | exact .nilp | exact dr_ints (by simp) _ | exact dr_intss (by simp) _ | refine dr_agg ?_ | refine dr_fn ?_ | refine dr_tptr' (by simp) ?_ | assumption | exact .nilsl))), ?_⟩)
    | ((with_reducible refine st_gmv ?_); (try (conv => arg 1; simp [b1])); (with_reducible refine at_mk ?_); (with_reducible first | refine gm_bool ?_ | refine gm_gv ?_); refine ⟨_, _, _, _, _, (by intro hc; first | ((try simp only [Bool.and_eq_true] at hc); (try (conv => lhs; simp [hc, b1])); first | done | exact rfl) | ((try simp [gq] at hc); (try (conv => lhs; simp [gq, hc, b1])); first | done | exact rfl)), (by intro hc; first | ((try simp only [Bool.and_eq_true] at hc); (try (conv => lhs; simp [hc, b1])); first | done | exact rfl) | ((try simp [gq] at hc); (try (conv => lhs; simp [gq, hc, b1])); first | done | exact rfl)), rfl, hP, (by intro hc; (try simp at hc); (repeat' (first | exact DRs.nil | refine DRs.cons ?_ ?_ | exact .int _ _ | exact .bool _ | exact .str _ | exact .nilsl | exact .nilp | exact dr_ints (by simp) _ | exact dr_intss (by simp) _ | refine dr_agg ?_ | refine dr_fn ?_ | refine dr_tptr' (by simp) ?_ | assumption | exact .nilsl))), ?_⟩)
    | ((with_reducible refine st_gmc ?_); (try (conv => arg 1; simp [b1])); (with_reducible refine at_mk ?_); (with_reducible first | refine gm_bool ?_ | refine gm_gv ?_); refine ⟨_, _, _, (by intro hc; first | ((try simp only [Bool.and_eq_true] at hc); (try (conv => lhs; simp [hc, b1])); first | done | exact rfl) | ((try simp [gq] at hc); (try (conv => lhs; simp [gq, hc, b1])); first | done | exact rfl)), rfl, in_ _ _ _, (by intro hc; (try simp at hc); (repeat' (first | exact DRs.nil | refine DRs.cons ?_ ?_ | exact .int _ _ | exact .bool _ | exact .str _ | exact .nilsl | exact .nilp | exact dr_ints (by simp) _ | exact dr_intss (by simp) _ | refine dr_agg ?_ | refine dr_fn ?_ | refine dr_tptr' (by simp) ?_ | assumption | exact .nilsl))), ?_⟩)
    | ((with_reducible refine fr_gmc ?_); (try (conv => arg 1; simp [b1])); (with_reducible refine at_mk ?_); (with_reducible first | refine gm_bool ?_ | refine gm_gv ?_); refine ⟨_, _, _, (by intro hc; first | ((try simp only [Bool.and_eq_true] at hc); (try (conv => lhs; simp [hc, b1])); first | done | exact rfl) | ((try simp [gq] at hc); (try (conv => lhs; simp [gq, hc, b1])); first | done | exact rfl)), in_ _ _ _, (by intro hc; (try simp at hc); (repeat' (first | exact DRs.nil | refine DRs.cons ?_ ?_ | exact .int _ _ | exact .bool _ | exact .str _ | exact .nilsl | exact .nilp | exact dr_ints (by simp) _ | exact dr_intss (by simp) _ | refine dr_agg ?_ | refine dr_fn ?_ | refine dr_tptr' (by simp) ?_ | assumption | exact .nilsl))), ?_⟩)
    | ((with_reducible refine st_gmv ?_); (try (conv => arg 1; simp [b1])); (with_reducible refine at_mk ?_); (with_reducible first | refine gm_bool ?_ | refine gm_gv ?_); refine ⟨_, _, _, _, _, (by intro hc; first | ((try simp only [Bool.and_eq_true] at hc); (try (conv => lhs; simp [hc, b1])); first | done | exact rfl) | ((try simp [gq] at hc); (try (conv => lhs; simp [gq, hc, b1])); first | done | exact rfl)), (by intro hc; first | ((try simp only [Bool.and_eq_true] at hc); (try (conv => lhs; simp [hc, b1])); first | done | exact rfl) | ((try simp [gq] at hc); (try (conv => lhs; simp [gq, hc, b1])); first | done | exact rfl)), rfl, in_ _ _ _, (by intro hc; (try simp at hc); (repeat' (first | exact DRs.nil | refine DRs.cons ?_ ?_ | exact .int _ _ | exact .bool _ | exact .str _ | exact .nilsl | exact .nilp | exact dr_ints (by simp) _ | exact dr_intss (by simp) _ | refine dr_agg ?_ | refine dr_fn ?_ | refine dr_tptr' (by simp) ?_ | assumption | exact .nilsl))), ?_⟩)
    | ((with_reducible refine st_m rfl ?_); (try (conv => arg 1; simp [b1])); (with_reducible refine ev2_some ?_))
    | ((with_reducible refine fr_n rfl ?_); (try (conv => arg 1; simp [b1])); (with_reducible refine evn_some ?_))
    | ((with_reducible first | refine st_cv ?_ | refine fr_cv ?_); (try (conv => arg 1; simp [b1])); (with_reducible refine at_mk ?_); (with_reducible refine fn_mk ?_); (try (conv => arg 1; simp [b1])); (with_reducible refine at_mk ?_))
    | ((with_reducible refine fr_a ?_); (try (conv => arg 1; simp [b1])); (with_reducible refine at_mk ?_); (try (conv => arg 1; simp [b1])); (with_reducible refine at_mk ?_); refine ⟨?names, ?_⟩; (case names => (simp [appNames, ints, intss] <;> first | kernel_rfl | (refine ⟨?_, ?_⟩ <;> kernel_rfl))); (try (conv => arg 1; simp [b1])); (with_reducible refine ev2_some ?_))
    | ((with_reducible first | refine st_q ?_ | refine fr_q ?_ | refine st_res ?_); (try (conv => arg 1; simp [b1])); (with_reducible refine ev_some ?_))
    | ((with_reducible refine st_if ?_); (try (conv => arg 1; simp [b1])); (with_reducible refine at_mk ?_); with_reducible first | refine br_t ?_ | refine br_f ?_)
    | ((with_reducible refine ct_id ?_); refine st_tree rfl (hP) (by (repeat' (first | exact DRs.nil | refine DRs.cons ?_ ?_ | exact .int _ _ | exact .bool _ | exact .str _ | exact .nilsl | exact .nilp | exact dr_ints (by simp) _ | exact dr_intss (by simp) _ | refine dr_agg ?_ | refine dr_fn ?_ | refine dr_tptr' (by simp) ?_ | assumption | exact .nilsl))) ?_)
    | ((with_reducible refine tw_id ?_); refine treeW_pure (hP) (by (repeat' (first | exact DRs.nil | refine DRs.cons ?_ ?_ | exact .int _ _ | exact .bool _ | exact .str _ | exact .nilsl | exact .nilp | exact dr_ints (by simp) _ | exact dr_intss (by simp) _ | refine dr_agg ?_ | refine dr_fn ?_ | refine dr_tptr' (by simp) ?_ | assumption | exact .nilsl))) ?_)
    | ((with_reducible refine ct_id ?_); refine st_tree rfl (in_ _ _ _) (by (repeat' (first | exact DRs.nil | refine DRs.cons ?_ ?_ | exact .int _ _ | exact .bool _ | exact .str _ | exact .nilsl | exact .nilp | exact dr_ints (by simp) _ | exact dr_intss (by simp) _ | refine dr_agg ?_ | refine dr_fn ?_ | refine dr_tptr' (by simp) ?_ | assumption | exact .nilsl))) ?_)
    | ((with_reducible refine tw_id ?_); refine treeW_pure (in_ _ _ _) (by (repeat' (first | exact DRs.nil | refine DRs.cons ?_ ?_ | exact .int _ _ | exact .bool _ | exact .str _ | exact .nilsl | exact .nilp | exact dr_ints (by simp) _ | exact dr_intss (by simp) _ | refine dr_agg ?_ | refine dr_fn ?_ | refine dr_tptr' (by simp) ?_ | assumption | exact .nilsl))) ?_))
  (try with_reducible refine st_if ?_)
  (try (conv => arg 1; simp [d1]))
  (try with_reducible refine at_mk ?_)
  refine ⟨fun hb => ?_, fun hb => ?_⟩
  · have e : graphOk g = false := by
      unfold graphOk
      rw [← hh]
      simp only [Bool.or_eq_true, Bool.not_eq_true'] at hb
      rcases hb with (h | h) | h <;> simp only [h, Bool.false_and, Bool.and_false]
    repeat' (first
     | with_reducible refine stp ?_
     | with_reducible refine k_blk_o rfl ?_
     | with_reducible refine k_seq_n ?_
     | ((try (conv => arg 1; simp [d1])); with_reducible refine evp ?_)
     | ((with_reducible refine apn ?na ?_); (case na => simp [appNames, ints, intss] <;> first | kernel_rfl | (refine ⟨?_, ?_⟩ <;> kernel_rfl)))
     | fail)
    rw [e]
    exact .bool _
  have hk : headOk g = true := by
    rw [← hh]
    simp only [Bool.not_eq_true, Bool.or_eq_false_iff, Bool.not_eq_false'] at hb
    simp only [hb, Bool.and_true]
  have H := headOk_head hk
  have e4 := H.slots
  have e2 := H.params
  have e5 := H.blocks
  repeat' (first
   | with_reducible refine stp ?_
   | with_reducible refine k_blk_o rfl ?_
   | with_reducible refine k_seq_n ?_
   | ((try (conv => arg 1; simp [b1])); with_reducible refine evp ?_)
   | ((with_reducible refine apn ?na ?_); (case na => simp [appNames, ints, intss] <;> first | kernel_rfl | (refine ⟨?_, ?_⟩ <;> kernel_rfl)))
   | fail)
  refine st_loop (fun (i : Nat) σ h => i ≤ g.Blocks.length ∧ σ 1 = .ptr (T, 0, 0) 0 0 0 ∧ σ 31 = blocks true g.Blocks ∧ σ 32 = .int .i64 g.Blocks.length ∧ σ 3 = .int .i64 (codeLen g.Blocks i) ∧ σ 33 = .int .i64 i ∧ (g.Blocks.take i).all (blockOk g) = true ∧ Cx h [((T, 0, 0), graphRow g)] []) (fun i => g.Blocks.length - i) 0 ?init ?step
  case init => exact ⟨Nat.zero_le _, by simp, by simp, by simp, by simp [codeLen, gsum_zero], by simp, rfl, Cx.to x1⟩
  case step =>
    rintro i σ h ⟨hi, s1, s31, s32, s3, s33, ha2, x⟩
    have b2 := x.bxs
    simp only [Bxs, graphRow] at b2
    have hn := codeLen_small d i
    by_cases hlt : i < g.Blocks.length
    · have hlt2 : (i : Int) < g.Blocks.length := by omega
      have hx : g.Blocks[i]? = some g.Blocks[i] := by simp
      have hlen := block_len true g.Blocks[i]
      have hc := d.code _ (List.getElem_mem hlt)
      have hw : IntKind.i64.wrap (i + 1) = i + 1 := wrap_id (by omega) (by omega)
      have hs := codeLen_succ hlt
      have hw2 : IntKind.i64.wrap ((codeLen g.Blocks i : Int) + g.Blocks[i].Code.length) = codeLen g.Blocks (i + 1) := by rw [wrap_id (by omega) (by omega)]; omega
      have B := isBlock g g.Blocks[i] (by omega) d1 d2 hc
      cases hv : blockOk g g.Blocks[i] with
      | false =>
        rw [hv] at B
        repeat' (first
         | with_reducible refine stp ?_
         | with_reducible refine k_blk_o rfl ?_
         | with_reducible refine k_seq_n ?_
         | ((try (conv => arg 1; simp [s1, s31, s32, s3, s33, b2, hlt2, hx, hlen, blocks, Block.cells, Graph.cells, hw2, ltS, nm_ne])); with_reducible refine evp ?_)
         | ((with_reducible refine apn ?na ?_); (case na => simp [appNames, ints, intss] <;> first | kernel_rfl | (refine ⟨?_, ?_⟩ <;> kernel_rfl)))
         | ((with_reducible refine tcl ?_); first | ((apply tg (B)); (case e => rfl); (case d => (refine dq ?_); (repeat' (first | ((refine Da.mk ?_); first | exact dr_blocks (by simp) _ | exact dr_instrs (by simp) _ | assumption) | constructor)))))
         | fail)
        have e : graphOk g = false := by simp only [graphOk]; rw [all_false hlt hv, Bool.and_false]
        rw [e]
        exact .bool _
      | true =>
        rw [hv] at B
        repeat' (first
         | with_reducible refine stp ?_
         | with_reducible refine k_blk_o rfl ?_
         | with_reducible refine k_seq_n ?_
         | ((try (conv => arg 1; simp [s1, s31, s32, s3, s33, b2, hlt2, hx, hlen, blocks, Block.cells, Graph.cells, hw, hw2, ltS, nm_ne])); with_reducible refine evp ?_)
         | ((with_reducible refine apn ?na ?_); (case na => simp [appNames, ints, intss] <;> first | kernel_rfl | (refine ⟨?_, ?_⟩ <;> kernel_rfl)))
         | ((with_reducible refine tcl ?_); first | ((apply tg (B)); (case e => rfl); (case d => (refine dq ?_); (repeat' (first | ((refine Da.mk ?_); first | exact dr_blocks (by simp) _ | exact dr_instrs (by simp) _ | assumption) | constructor)))))
         | fail)
        refine k_lp_n (i + 1) (by omega) ⟨by omega, by simp [s1], by simp [s31], by simp [s32], by simp, by simp, by rw [all_take hlt, ha2, hv]; rfl, Cx.to x⟩
    · have hlt2 : ¬ (i : Int) < g.Blocks.length := by omega
      rw [List.take_of_length_le (by omega)] at ha2
      have hi2 : i = g.Blocks.length := by omega
      rw [hi2] at s3
      repeat' (first
       | with_reducible refine stp ?_
       | with_reducible refine k_blk_o rfl ?_
       | with_reducible refine k_seq_n ?_
       | ((try (conv => arg 1; simp [s1, s3, s32, s33, b2, hlt2, ltS, nm_ne])); with_reducible refine evp ?_)
       | ((with_reducible refine apn ?na ?_); (case na => simp [appNames, ints, intss] <;> first | kernel_rfl | (refine ⟨?_, ?_⟩ <;> kernel_rfl)))
       | fail)
      refine dr_bool ?_
      simp only [graphOk, hk, ha2, Bool.true_and, Bool.and_true]
      rw [Bool.eq_iff_iff]
      simp
      omega
end Go.Proofs.Ytlmlkkkgcbpaoaa.AM

/-
  Blocks that fall through: how many.
-/
set_option linter.unusedVariables false
set_option linter.unusedSimpArgs false
set_option maxRecDepth 4000
namespace Go.Proofs.Ytlmlkkkgcbpaoaa.AM
open Go.RowKit

private def MG13 : FuncId → Mode := fun f => .tree

def isFall (b : Block) (i : Nat) : Bool := !decide (b.Jump = 2) && decide (b.To = (i : Int) + 1)
def fallsN (l : List Block) : Nat → Nat
  | 0 => 0
  | i + 1 => fallsN l i + (if ((l[i]?).map fun b => isFall b i) = some true then 1 else 0)
theorem fallsN_le (l : List Block) : ∀ i, fallsN l i ≤ i
  | 0 => Nat.le_refl _
  | i + 1 => by
    have := fallsN_le l i
    unfold fallsN
    split <;> omega
def falls (g : Graph) : Int := if graphOk g = true then fallsN g.Blocks g.Blocks.length else -1

set_option maxHeartbeats 2000000 in
theorem specFalls (g : Graph) (d : g.Small) : Pure Try.prog 12 [.agg (g.cells true)] (.int .i64 (falls g)) := by
  intro T
  have d2 := d.len
  have G := graphOkSpec g d.fit
  refine enter mixed MG13 Try.func12 rfl (by kernel_rfl) rfl ?_
  repeat' (first
   | with_reducible refine stp ?_
   | with_reducible refine k_blk_o rfl ?_
   | ((try (conv => arg 1; simp [Graph.cells])); with_reducible refine evp ?_)
   | ((with_reducible refine apn ?na ?_); (case na => simp [appNames, ints, intss] <;> first | kernel_rfl | (refine ⟨?_, ?_⟩ <;> kernel_rfl)))
   | fail)
  refine cx_k (Cx.mt.next.box_one (T := T) (i := 0) Cx.mt.off (by simp)) ?_
  intro h1 x1
  have b1 := x1.bxs
  simp only [Bxs] at b1
  cases hk : graphOk g with
  | false =>
    rw [hk] at G
    repeat' (first
     | with_reducible refine stp ?_
     | with_reducible refine k_blk_o rfl ?_
     | with_reducible refine k_seq_n ?_
     | ((try (conv => arg 1; simp [b1])); with_reducible refine evp ?_)
     | ((with_reducible refine apn ?na ?_); (case na => simp [appNames, ints, intss] <;> first | kernel_rfl | (refine ⟨?_, ?_⟩ <;> kernel_rfl)))
     | ((with_reducible refine tcl ?_); first | ((apply tg (G)); (case e => rfl); (case d => (refine dq ?_); (repeat' (first | ((refine Da.mk ?_); first | exact dr_blocks (by simp) _ | assumption) | constructor)))))
     | fail)
    rw [show falls g = -1 by simp [falls, hk]]
    exact .int _ _
  | true =>
    rw [hk] at G
    repeat' (first
     | with_reducible refine stp ?_
     | with_reducible refine k_blk_o rfl ?_
     | with_reducible refine k_seq_n ?_
     | ((try (conv => arg 1; simp [b1])); with_reducible refine evp ?_)
     | ((with_reducible refine apn ?na ?_); (case na => simp [appNames, ints, intss] <;> first | kernel_rfl | (refine ⟨?_, ?_⟩ <;> kernel_rfl)))
     | ((with_reducible refine tcl ?_); first | ((apply tg (G)); (case e => rfl); (case d => (refine dq ?_); (repeat' (first | ((refine Da.mk ?_); first | exact dr_blocks (by simp) _ | assumption) | constructor)))))
     | fail)
    refine st_loop (fun (i : Nat) σ h => i ≤ g.Blocks.length ∧ σ 1 = .ptr (T, 0, 0) 0 0 0 ∧ σ 3 = .int .i64 (fallsN g.Blocks i) ∧ σ 4 = .int .i64 i ∧ Cx h [((T, 0, 0), graphRow g)] []) (fun i => g.Blocks.length - i) 0 ?init ?step
    case init => exact ⟨Nat.zero_le _, by simp, by simp [fallsN], by simp, Cx.to x1⟩
    case step =>
      rintro i σ h ⟨hi, s1, s3, s4, x⟩
      have b2 := x.bxs
      simp only [Bxs, graphRow] at b2
      have hf := fallsN_le g.Blocks i
      by_cases hlt : i < g.Blocks.length
      · have hlt2 : (i : Int) < g.Blocks.length := by omega
        have hx : g.Blocks[i]? = some g.Blocks[i] := by simp
        have hlen := block_len true g.Blocks[i]
        have hw : IntKind.i64.wrap (i + 1) = i + 1 := wrap_id (by omega) (by omega)
        have hw2 : IntKind.i64.wrap ((fallsN g.Blocks i : Int) + 1) = fallsN g.Blocks i + 1 := wrap_id (by omega) (by omega)
        by_cases hj : g.Blocks[i].Jump = 2
        · skip
          repeat' (first
           | with_reducible refine stp ?_
           | with_reducible refine k_blk_o rfl ?_
           | with_reducible refine k_seq_n ?_
           | ((try (conv => arg 1; simp [s1, s3, s4, b2, hlt2, hx, hlen, hj, blocks, Block.cells, hw, ltS, nm_ne])); with_reducible refine evp ?_)
           | ((with_reducible refine apn ?na ?_); (case na => simp [appNames, ints, intss] <;> first | kernel_rfl | (refine ⟨?_, ?_⟩ <;> kernel_rfl)))
           | fail)
          refine k_lp_n (i + 1) (by omega) ⟨by omega, by simp [s1], by simp [s3, fallsN, hx, isFall, hj], by simp, Cx.to x⟩
        · by_cases ht : g.Blocks[i].To = (i : Int) + 1
          · skip
            repeat' (first
             | with_reducible refine stp ?_
             | with_reducible refine k_blk_o rfl ?_
             | with_reducible refine k_seq_n ?_
             | ((try (conv => arg 1; simp [s1, s3, s4, b2, hlt2, hx, hlen, hj, ht, blocks, Block.cells, hw, hw2, ltS, nm_ne])); with_reducible refine evp ?_)
             | ((with_reducible refine apn ?na ?_); (case na => simp [appNames, ints, intss] <;> first | kernel_rfl | (refine ⟨?_, ?_⟩ <;> kernel_rfl)))
             | fail)
            refine k_lp_n (i + 1) (by omega) ⟨by omega, by simp [s1], by simp [fallsN, hx, isFall, hj, ht], by simp, Cx.to x⟩
          · skip
            repeat' (first
             | with_reducible refine stp ?_
             | with_reducible refine k_blk_o rfl ?_
             | with_reducible refine k_seq_n ?_
             | ((try (conv => arg 1; simp [s1, s3, s4, b2, hlt2, hx, hlen, hj, ht, blocks, Block.cells, hw, ltS, nm_ne])); with_reducible refine evp ?_)
             | ((with_reducible refine apn ?na ?_); (case na => simp [appNames, ints, intss] <;> first | kernel_rfl | (refine ⟨?_, ?_⟩ <;> kernel_rfl)))
             | fail)
            refine k_lp_n (i + 1) (by omega) ⟨by omega, by simp [s1], by simp [s3, fallsN, hx, isFall, hj, ht], by simp, Cx.to x⟩
      · have hlt2 : ¬ (i : Int) < g.Blocks.length := by omega
        have hi2 : i = g.Blocks.length := by omega
        rw [hi2] at s3
        repeat' (first
         | with_reducible refine stp ?_
         | with_reducible refine k_blk_o rfl ?_
         | with_reducible refine k_seq_n ?_
         | ((try (conv => arg 1; simp [s1, s3, s4, b2, hlt2, ltS, nm_ne])); with_reducible refine evp ?_)
         | ((with_reducible refine apn ?na ?_); (case na => simp [appNames, ints, intss] <;> first | kernel_rfl | (refine ⟨?_, ?_⟩ <;> kernel_rfl)))
         | fail)
        rw [show falls g = fallsN g.Blocks g.Blocks.length by simp [falls, hk]]
        exact .int _ _

set_option maxHeartbeats 2000000 in
theorem implFalls (g : Graph) (d : g.Small) : Pure Try.prog 14 [.agg (g.cells true)] (.int .i64 (falls g)) := by
  intro T
  have d2 := d.len
  have G := isGraph g d
  refine enter mixed MG13 Try.func14 rfl (by kernel_rfl) rfl ?_
  repeat' (first
   | with_reducible refine stp ?_
   | with_reducible refine k_blk_o rfl ?_
   | ((try (conv => arg 1; simp [Graph.cells])); with_reducible refine evp ?_)
   | ((with_reducible refine apn ?na ?_); (case na => simp [appNames, ints, intss] <;> first | kernel_rfl | (refine ⟨?_, ?_⟩ <;> kernel_rfl)))
   | fail)
  refine cx_k (Cx.mt.next.box_one (T := T) (i := 0) Cx.mt.off (by simp)) ?_
  intro h1 x1
  have b1 := x1.bxs
  simp only [Bxs] at b1
  cases hk : graphOk g with
  | false =>
    rw [hk] at G
    repeat' (first
     | with_reducible refine stp ?_
     | with_reducible refine k_blk_o rfl ?_
     | with_reducible refine k_seq_n ?_
     | ((try (conv => arg 1; simp [b1])); with_reducible refine evp ?_)
     | ((with_reducible refine apn ?na ?_); (case na => simp [appNames, ints, intss] <;> first | kernel_rfl | (refine ⟨?_, ?_⟩ <;> kernel_rfl)))
     | ((with_reducible refine tcl ?_); first | ((apply tg (G)); (case e => rfl); (case d => (refine dq ?_); (repeat' (first | ((refine Da.mk ?_); first | exact dr_blocks (by simp) _ | assumption) | constructor)))))
     | fail)
    rw [show falls g = -1 by simp [falls, hk]]
    exact .int _ _
  | true =>
    rw [hk] at G
    repeat' (first
     | with_reducible refine stp ?_
     | with_reducible refine k_blk_o rfl ?_
     | with_reducible refine k_seq_n ?_
     | ((try (conv => arg 1; simp [b1])); with_reducible refine evp ?_)
     | ((with_reducible refine apn ?na ?_); (case na => simp [appNames, ints, intss] <;> first | kernel_rfl | (refine ⟨?_, ?_⟩ <;> kernel_rfl)))
     | ((with_reducible refine tcl ?_); first | ((apply tg (G)); (case e => rfl); (case d => (refine dq ?_); (repeat' (first | ((refine Da.mk ?_); first | exact dr_blocks (by simp) _ | assumption) | constructor)))))
     | fail)
    refine st_loop (fun (i : Nat) σ h => i ≤ g.Blocks.length ∧ σ 10 = blocks true g.Blocks ∧ σ 11 = .int .i64 g.Blocks.length ∧ σ 3 = .int .i64 (fallsN g.Blocks i) ∧ σ 12 = .int .i64 i) (fun i => g.Blocks.length - i) 0 ?init ?step
    case init => exact ⟨Nat.zero_le _, by simp, by simp, by simp [fallsN], by simp⟩
    case step =>
      rintro i σ h ⟨hi, s10, s11, s3, s12⟩
      have hf := fallsN_le g.Blocks i
      by_cases hlt : i < g.Blocks.length
      · have hlt2 : (i : Int) < g.Blocks.length := by omega
        have hx : g.Blocks[i]? = some g.Blocks[i] := by simp
        have hlen := block_len true g.Blocks[i]
        have hw : IntKind.i64.wrap (i + 1) = i + 1 := wrap_id (by omega) (by omega)
        have hw2 : IntKind.i64.wrap ((fallsN g.Blocks i : Int) + 1) = fallsN g.Blocks i + 1 := wrap_id (by omega) (by omega)
        by_cases hj : g.Blocks[i].Jump = 2
        · skip
          repeat' (first
           | with_reducible refine stp ?_
           | with_reducible refine k_blk_o rfl ?_
           | with_reducible refine k_seq_n ?_
           | ((try (conv => arg 1; simp [s10, s11, s3, s12, hlt2, hx, hlen, hj, blocks, Block.cells, hw, ltS, nm_ne])); with_reducible refine evp ?_)
           | ((with_reducible refine apn ?na ?_); (case na => simp [appNames, ints, intss] <;> first | kernel_rfl | (refine ⟨?_, ?_⟩ <;> kernel_rfl)))
           | fail)
          refine k_lp_n (i + 1) (by omega) ⟨by omega, by simp [s10], by simp [s11], by simp [s3, fallsN, hx, isFall, hj], by simp⟩
        · by_cases ht : g.Blocks[i].To = (i : Int) + 1
          · skip
            repeat' (first
             | with_reducible refine stp ?_
             | with_reducible refine k_blk_o rfl ?_
             | with_reducible refine k_seq_n ?_
             | ((try (conv => arg 1; simp [s10, s11, s3, s12, hlt2, hx, hlen, hj, ht, blocks, Block.cells, hw, hw2, ltS, nm_ne])); with_reducible refine evp ?_)
             | ((with_reducible refine apn ?na ?_); (case na => simp [appNames, ints, intss] <;> first | kernel_rfl | (refine ⟨?_, ?_⟩ <;> kernel_rfl)))
             | fail)
            refine k_lp_n (i + 1) (by omega) ⟨by omega, by simp [s10], by simp [s11], by simp [fallsN, hx, isFall, hj, ht], by simp⟩
          · skip
            repeat' (first
             | with_reducible refine stp ?_
             | with_reducible refine k_blk_o rfl ?_
             | with_reducible refine k_seq_n ?_
             | ((try (conv => arg 1; simp [s10, s11, s3, s12, hlt2, hx, hlen, hj, ht, blocks, Block.cells, hw, ltS, nm_ne])); with_reducible refine evp ?_)
             | ((with_reducible refine apn ?na ?_); (case na => simp [appNames, ints, intss] <;> first | kernel_rfl | (refine ⟨?_, ?_⟩ <;> kernel_rfl)))
             | fail)
            refine k_lp_n (i + 1) (by omega) ⟨by omega, by simp [s10], by simp [s11], by simp [s3, fallsN, hx, isFall, hj, ht], by simp⟩
      · have hlt2 : ¬ (i : Int) < g.Blocks.length := by omega
        have hi2 : i = g.Blocks.length := by omega
        rw [hi2] at s3
        repeat' (first
         | with_reducible refine stp ?_
         | with_reducible refine k_blk_o rfl ?_
         | with_reducible refine k_seq_n ?_
         | ((try (conv => arg 1; simp [s3, s11, s12, hlt2])); with_reducible refine evp ?_)
         | ((with_reducible refine apn ?na ?_); (case na => simp [appNames, ints, intss] <;> first | kernel_rfl | (refine ⟨?_, ?_⟩ <;> kernel_rfl)))
         | fail)
        rw [show falls g = fallsN g.Blocks g.Blocks.length by simp [falls, hk]]
        exact .int _ _
end Go.Proofs.Ytlmlkkkgcbpaoaa.AM

/-
  Graphs as the laws' arguments.
-/
set_option linter.unusedVariables false
set_option linter.unusedSimpArgs false
set_option maxRecDepth 4000
namespace Go.Proofs.Ytlmlkkkgcbpaoaa.AM
open Go.RowKit

theorem drs_graphL {c b : Bool} {rows : Nm → Option Row} (g : Graph) (hb : b = true → c = true) : DRs c rows (g.cells b) (g.cells c) := drs_graph hb g
theorem shp_instr {cells : List AV} (h : Shp Try.prog 156 cells) : ∃ x : Instr, cells = x.cells ∧ x.Text.size ≤ maxLen := by
  have hs : stTys Try.prog 156 = some [3, 3, 3, 3, 3, 3, 9] := by kernel_rfl
  obtain ⟨p0, q0, rfl, s0, p1, q1, rfl, s1, p2, q2, rfl, s2, p3, q3, rfl, s3, p4, q4, rfl, s4, p5, q5, rfl, s5, p6, q6, rfl, s6, rfl⟩ := h.st_inv hs
  obtain ⟨a0, rfl, g0⟩ := s0.int_inv und_3
  obtain ⟨a1, rfl, g1⟩ := s1.int_inv und_3
  obtain ⟨a2, rfl, g2⟩ := s2.int_inv und_3
  obtain ⟨a3, rfl, g3⟩ := s3.int_inv und_3
  obtain ⟨a4, rfl, g4⟩ := s4.int_inv und_3
  obtain ⟨a5, rfl, g5⟩ := s5.int_inv und_3
  obtain ⟨a6, rfl, g6⟩ := s6.str_inv und_9
  exact ⟨⟨a0, a1, a2, a3, a4, a5, a6⟩, rfl, g6⟩
theorem shp_block {cells : List AV} (h : Shp Try.prog 80 cells) : ∃ x : Block, cells = x.cells true ∧ (x.Code.length ≤ maxLen ∧ ∀ y ∈ x.Code, y.Text.size ≤ maxLen) := by
  have hs : stTys Try.prog 80 = some [78, 3, 3, 3, 3] := by kernel_rfl
  obtain ⟨p0, q0, rfl, s0, p1, q1, rfl, s1, p2, q2, rfl, s2, p3, q3, rfl, s3, p4, q4, rfl, s4, rfl⟩ := h.st_inv hs
  obtain ⟨elems, rfl, g0, g0'⟩ := s0.sl_inv und_78
  obtain ⟨a1, rfl, g1⟩ := s1.int_inv und_3
  obtain ⟨a2, rfl, g2⟩ := s2.int_inv und_3
  obtain ⟨a3, rfl, g3⟩ := s3.int_inv und_3
  obtain ⟨a4, rfl, g4⟩ := s4.int_inv und_3
  obtain ⟨ws, rfl, gw⟩ := unmap Instr.cells (fun w => w.Text.size ≤ maxLen) elems fun y hy => shp_instr (g0' y hy)
  exact ⟨⟨ws, a1, a2, a3, a4⟩, rfl, by simpa using g0, gw⟩
theorem shp_graph {cells : List AV} (h : Shp Try.prog 25 cells) : ∃ g : Graph, cells = g.cells true ∧ g.Data := by
  have hs : stTys Try.prog 25 = some [22, 3, 3, 3, 23] := by kernel_rfl
  obtain ⟨p0, q0, rfl, s0, p1, q1, rfl, s1, p2, q2, rfl, s2, p3, q3, rfl, s3, p4, q4, rfl, s4, rfl⟩ := h.st_inv hs
  obtain ⟨a0, rfl, g0, g0'⟩ := s0.ints_inv und_22 und_3
  obtain ⟨a1, rfl, g1⟩ := s1.int_inv und_3
  obtain ⟨a2, rfl, g2⟩ := s2.int_inv und_3
  obtain ⟨a3, rfl, g3⟩ := s3.int_inv und_3
  obtain ⟨elems, rfl, g4, g4'⟩ := s4.sl_inv und_23
  obtain ⟨ws, rfl, gw⟩ := unmap (Block.cells true) (fun x => x.Code.length ≤ maxLen ∧ ∀ y ∈ x.Code, y.Text.size ≤ maxLen) elems fun y hy => shp_block (g4' y hy)
  exact ⟨⟨a0, a1, a2, a3, ws⟩, rfl, ⟨g0, by simpa using g4, gw⟩⟩
theorem agg_graph (cells : List AV) : avOf Try.prog 25 cells = .agg cells := agg_of (by kernel_rfl) cells
theorem av3 (c : AV) : avOf Try.prog 3 [c] = c := av_oneX und_3 rfl c
theorem av22 (c : AV) : avOf Try.prog 22 [c] = c := av_oneX und_22 rfl c
end Go.Proofs.Ytlmlkkkgcbpaoaa.AM

/-
  Falls: what its law needs.
-/

/-
  The law of Falls.
-/
set_option linter.unusedVariables false
set_option linter.unusedSimpArgs false
set_option maxRecDepth 4000
namespace Go.Proofs.Ytlmlkkkgcbpaoaa.AM
open Go.RowKit

private def MLFalls : FuncId → Mode := fun f => if f = 13 ∨ f = 17 then .fresh else if f = 20 ∨ f = 21 then .heap else .tree

set_option maxHeartbeats 2000000 in
theorem lawFalls (g : Graph) (d_g : g.Data) : Sound Try.prog 3 [.agg (g.cells true)] (.mt 0) fun v _ => v = .bool true := by
  have hnil : True := trivial
  refine enter mixed MLFalls Try.func3 rfl (by kernel_rfl) rfl ?_
  repeat' (first
   | with_reducible refine stp ?_
   | with_reducible refine k_blk_o rfl ?_
   | ((try (conv => arg 1; simp [Graph.cells])); with_reducible refine evp ?_)
   | ((with_reducible refine apn ?na ?_); (case na => simp [appNames, ints, intss] <;> first | kernel_rfl | (refine ⟨?_, ?_⟩ <;> kernel_rfl)))
   | fail)
  refine cx_k Cx.mt_box ?_
  intro h1 x1
  repeat' (first
   | with_reducible refine stp ?_
   | with_reducible refine k_blk_o rfl ?_
   | ((try (conv => arg 1; simp [hnil])); with_reducible refine evp ?_)
   | ((with_reducible refine apn ?na ?_); (case na => simp [appNames, ints, intss] <;> first | kernel_rfl | (refine ⟨?_, ?_⟩ <;> kernel_rfl)))
   | fail)
  refine cx_k x1.next ?_
  intro h2 x2
  obtain ⟨r1, hr_g, hs_g⟩ := szGraph g 1048576 (by omega) (by omega) d_g
  repeat' (first
   | with_reducible refine stp ?_
   | with_reducible refine k_blk_o rfl ?_
   | ((try (conv => arg 1; simp [x2.b0])); with_reducible refine evp ?_)
   | ((with_reducible refine apn ?na ?_); (case na => simp [appNames, ints, intss] <;> first | kernel_rfl | (refine ⟨?_, ?_⟩ <;> kernel_rfl)))
   | fail)
  refine st_tree rfl (hr_g) (.cons (dr_agg (drs_graphL g fun h => h)) (.cons (.int _ _) .nil)) ?_
  repeat' (first
   | with_reducible refine stp ?_
   | with_reducible refine k_blk_o rfl ?_
   | ((try (conv => arg 1; simp [x2.b0])); with_reducible refine evp ?_)
   | ((with_reducible refine apn ?na ?_); (case na => simp [appNames, ints, intss] <;> first | kernel_rfl | (refine ⟨?_, ?_⟩ <;> kernel_rfl)))
   | fail)
  refine cx_k x2.next ?_
  intro h3 x3
  repeat' (first
   | with_reducible refine stp ?_
   | with_reducible refine k_blk_o rfl ?_
   | ((try (conv => arg 1; simp [hnil])); with_reducible refine evp ?_)
   | ((with_reducible refine apn ?na ?_); (case na => simp [appNames, ints, intss] <;> first | kernel_rfl | (refine ⟨?_, ?_⟩ <;> kernel_rfl)))
   | fail)
  refine cx_k x3.next ?_
  intro h4 x4
  by_cases hneg : r1 < 0
  · skip
    repeat' (first
     | with_reducible refine stp ?_
     | with_reducible refine k_blk_o rfl ?_
     | with_reducible refine k_seq_n ?_
     | ((try (conv => arg 1; simp [hneg])); with_reducible refine evp ?_)
     | ((with_reducible refine apn ?na ?_); (case na => simp [appNames, ints, intss] <;> first | kernel_rfl | (refine ⟨?_, ?_⟩ <;> kernel_rfl)))
     | fail)
    rfl
  repeat' (first
   | with_reducible refine stp ?_
   | with_reducible refine k_blk_o rfl ?_
   | ((try (conv => arg 1; simp [hneg])); with_reducible refine evp ?_)
   | ((with_reducible refine apn ?na ?_); (case na => simp [appNames, ints, intss] <;> first | kernel_rfl | (refine ⟨?_, ?_⟩ <;> kernel_rfl)))
   | fail)
  refine k_seq_n ?_
  replace hs_g := hs_g.resolve_left hneg
  obtain ⟨hs_g, hg1_g, hg2_g⟩ := hs_g
  have S := specFalls g hs_g
  have I := implFalls g hs_g
  generalize falls g = R at S I
  repeat' (first
   | with_reducible refine stp ?_
   | with_reducible refine k_blk_o rfl ?_
   | ((try (conv => arg 1; simp [x4.b0])); with_reducible refine evp ?_)
   | ((with_reducible refine apn ?na ?_); (case na => simp [appNames, ints, intss] <;> first | kernel_rfl | (refine ⟨?_, ?_⟩ <;> kernel_rfl)))
   | fail)
  refine st_freshw rfl (toGraph g hs_g) (.cons (dr_agg (drs_graphL g fun h => h)) .nil) ?_
  intro v1 h5 n1 o1 e1 f1 p1 t1
  have x5 := x4.next.fresh o1 e1 f1 p1 t1
  have z5 : h4.tick < h5.tick := by simp only [hp_next_tick] at t1; omega
  obtain ⟨wa1, wb1, _, _, rfl, _, qa1, qb1⟩ := ownV_graph (o1 true)
  have qa1 := own_one qa1
  have qb1 := own_one' qb1
  repeat' (first
   | with_reducible refine stp ?_
   | with_reducible refine k_blk_o rfl ?_
   | ((try (conv => arg 1; simp [x5.b0, z5, qa1.1, qb1.1])); with_reducible refine evp ?_)
   | ((with_reducible refine apn ?na ?_); (case na => simp [appNames, ints, intss] <;> first | kernel_rfl | (refine ⟨?_, ?_⟩ <;> kernel_rfl)))
   | fail)
  refine st_tree rfl (S) (.cons ((x5.o0 true).dr) .nil) ?_
  repeat' (first
   | with_reducible refine stp ?_
   | with_reducible refine k_blk_o rfl ?_
   | ((try (conv => arg 1; simp [x5.b0, z5, qa1.1, qb1.1])); with_reducible refine evp ?_)
   | ((with_reducible refine apn ?na ?_); (case na => simp [appNames, ints, intss] <;> first | kernel_rfl | (refine ⟨?_, ?_⟩ <;> kernel_rfl)))
   | fail)
  refine cx_k x5 ?_
  intro h6 x6
  repeat' (first
   | with_reducible refine stp ?_
   | with_reducible refine k_blk_o rfl ?_
   | ((try (conv => arg 1; simp [x6.b0])); with_reducible refine evp ?_)
   | ((with_reducible refine apn ?na ?_); (case na => simp [appNames, ints, intss] <;> first | kernel_rfl | (refine ⟨?_, ?_⟩ <;> kernel_rfl)))
   | fail)
  refine st_freshw rfl (toGraph g hs_g) (.cons (dr_agg (drs_graphL g fun h => h)) .nil) ?_
  intro v2 h7 n2 o2 e2 f2 p2 t2
  have x7 := x6.next.fresh o2 e2 f2 p2 t2
  have z7 : h6.tick < h7.tick := by simp only [hp_next_tick] at t2; omega
  obtain ⟨wa2, wb2, _, _, rfl, _, qa2, qb2⟩ := ownV_graph (o2 true)
  have qa2 := own_one qa2
  have qb2 := own_one' qb2
  repeat' (first
   | with_reducible refine stp ?_
   | with_reducible refine k_blk_o rfl ?_
   | ((try (conv => arg 1; simp [x7.b0, z7, qa2.1, qb2.1])); with_reducible refine evp ?_)
   | ((with_reducible refine apn ?na ?_); (case na => simp [appNames, ints, intss] <;> first | kernel_rfl | (refine ⟨?_, ?_⟩ <;> kernel_rfl)))
   | fail)
  refine cx_k (x7.box_new (x6.off.fresh f2 (by simp [hp_next_tick])) z7) ?_
  intro h8 x8
  repeat' (first
   | with_reducible refine stp ?_
   | with_reducible refine k_blk_o rfl ?_
   | ((try (conv => arg 1; simp [x8.b0, qa2.1, qb2.1])); with_reducible refine evp ?_)
   | ((with_reducible refine apn ?na ?_); (case na => simp [appNames, ints, intss] <;> first | kernel_rfl | (refine ⟨?_, ?_⟩ <;> kernel_rfl)))
   | fail)
  refine st_tree rfl (I) (.cons ((x8.next.o0 true).dr) .nil) ?_
  repeat' (first
   | with_reducible refine stp ?_
   | with_reducible refine k_blk_o rfl ?_
   | ((try (conv => arg 1; simp [x8.b0, qa2.1, qb2.1])); with_reducible refine evp ?_)
   | ((with_reducible refine apn ?na ?_); (case na => simp [appNames, ints, intss] <;> first | kernel_rfl | (refine ⟨?_, ?_⟩ <;> kernel_rfl)))
   | fail)
  refine cx_k x8.next ?_
  intro h9 x9
  repeat' (first
   | with_reducible refine stp ?_
   | with_reducible refine k_blk_o rfl ?_
   | ((try (conv => arg 1; simp [hnil])); with_reducible refine evp ?_)
   | ((with_reducible refine apn ?na ?_); (case na => simp [appNames, ints, intss] <;> first | kernel_rfl | (refine ⟨?_, ?_⟩ <;> kernel_rfl)))
   | fail)
  refine cx_k x9.next ?_
  intro h10 x10
  repeat' (first
   | with_reducible refine stp ?_
   | with_reducible refine k_blk_o rfl ?_
   | ((try (conv => arg 1; simp [hnil])); with_reducible refine evp ?_)
   | ((with_reducible refine apn ?na ?_); (case na => simp [appNames, ints, intss] <;> first | kernel_rfl | (refine ⟨?_, ?_⟩ <;> kernel_rfl)))
   | fail)
  refine k_seq_n ?_
  repeat' (first
   | with_reducible refine stp ?_
   | with_reducible refine k_blk_o rfl ?_
   | ((try (conv => arg 1; simp [hnil])); with_reducible refine evp ?_)
   | ((with_reducible refine apn ?na ?_); (case na => simp [appNames, ints, intss] <;> first | kernel_rfl | (refine ⟨?_, ?_⟩ <;> kernel_rfl)))
   | fail)
  repeat (with_reducible first | refine stp ?_ | refine k_seq_n ?_)
  refine st_draw 5 (fun _ => false) (by kernel_rfl) ?_
  simp only [List.take_succ_cons, List.take_zero, List.drop_succ_cons, List.drop_zero, List.take_nil, List.drop_nil]
  repeat' (first
   | with_reducible refine stp ?_
   | with_reducible refine k_blk_o rfl ?_
   | ((try (conv => arg 1; simp [x10.b0, x10.b1, x10.l0, x10.l1, qa2.1, qb2.1])); with_reducible refine evp ?_)
   | ((with_reducible refine apn ?na ?_); (case na => simp [appNames, ints, intss] <;> first | kernel_rfl | (refine ⟨?_, ?_⟩ <;> kernel_rfl)))
   | fail)
  refine treeW_pure (toGraph g hs_g).pure (.cons (dr_agg (drs_graphL g fun h => h)) .nil) ?_
  repeat' (first
   | with_reducible refine stp ?_
   | with_reducible refine k_blk_o rfl ?_
   | ((try (conv => arg 1; simp [x10.b0, x10.b1, x10.l0, x10.l1, qa2.1, qb2.1])); with_reducible refine evp ?_)
   | ((with_reducible refine apn ?na ?_); (case na => simp [appNames, ints, intss] <;> first | kernel_rfl | (refine ⟨?_, ?_⟩ <;> kernel_rfl)))
   | fail)
  refine treeW_pure (eqGraph g hs_g) (.cons ((x10.m0 true).dr) (.cons (dr_agg (drs_graphL g (by simp))) .nil)) ?_
  repeat' (first
   | with_reducible refine stp ?_
   | with_reducible refine k_blk_o rfl ?_
   | ((try (conv => arg 1; simp [x10.b0, x10.b1, x10.l0, x10.l1, qa2.1, qb2.1])); with_reducible refine evp ?_)
   | ((with_reducible refine apn ?na ?_); (case na => simp [appNames, ints, intss] <;> first | kernel_rfl | (refine ⟨?_, ?_⟩ <;> kernel_rfl)))
   | fail)
  refine cx_k x10.next ?_
  intro h11 x11
  repeat' (first
   | with_reducible refine stp ?_
   | with_reducible refine k_blk_o rfl ?_
   | ((try (conv => arg 1; simp [hnil])); with_reducible refine evp ?_)
   | ((with_reducible refine apn ?na ?_); (case na => simp [appNames, ints, intss] <;> first | kernel_rfl | (refine ⟨?_, ?_⟩ <;> kernel_rfl)))
   | fail)
  refine k_seq_n ?_
  repeat' (first
   | with_reducible refine stp ?_
   | with_reducible refine k_blk_o rfl ?_
   | with_reducible refine k_seq_n ?_
   | ((try (conv => arg 1; simp [hnil])); with_reducible refine evp ?_)
   | ((with_reducible refine apn ?na ?_); (case na => simp [appNames, ints, intss] <;> first | kernel_rfl | (refine ⟨?_, ?_⟩ <;> kernel_rfl)))
   | fail)
  rfl
end Go.Proofs.Ytlmlkkkgcbpaoaa.AM


namespace Go.Proofs.Ytlmlkkkgcbpaoaa.fnExactFalls
open Go.ChangeShapes Go.WideShapes Go.ChangeAt Go.RowKit
set_option linter.unusedVariables false
theorem own : ownKnob Try.prog.godebug = none := by kernel_rfl

theorem sound (l : List AM.AV) (h : AM.ShpAll Try.prog [25] l) : AM.Sound Try.prog 3 l (.mt 0) fun v _ => v = .bool true := by
  obtain ⟨cells0, l0, g0, e0, k0⟩ := AM.shpAll_cons h
  have e' := AM.shpAll_nil k0
  subst e' e0
  obtain ⟨a0, rfl, d0⟩ := AM.shp_graph g0
  rw [AM.agg_graph]
  exact AM.lawFalls a0 d0

set_option maxRecDepth 100000 in
theorem lifted (os : Os) (started : os.Started) (H : Type) (enc : TypeId × Value → H) :
    ReturnsInHanded {} Try.checked os 3 .any (Rows.fnExactFallsSpec.pre6 enc Try.prog Try.f3 Rows.fnExactFallsRow.domain false) (Rows.fnExactFallsSpec.post enc Try.prog Try.f3 false true false false) := by
  refine returnsInHanded_of_change_sized (C := Try.checked) own started (by kernel_rfl) Try.func3
    (ChangeSpec.witness6 (enc := enc) (C := Try.checked) false ⟨#[], #[.agg #[.slice none 0 0, .int .i64 0, .int .i64 0, .int .i64 0, .slice none 0 0]], []⟩ 8 (by kernel_rfl) (by kernel_rfl) (by kernel_rfl) (by kernel_rfl)) ?_
  intro W base args ds gs before hval0 hW hcnd hsz0 _
  have hval : ∀ (j : Nat) t v, Try.f3.params[j]? = some t → args[j]? = some v → Value.okWide Try.prog W .any base t v := hval0
  have hW' := hW
  obtain ⟨p, q, hA0, hV, rfl, hfz, hnd⟩ := hW
  have hA : DataW.TrodAll enc Try.prog W 0 (fun _ => true) true Try.f3.params.toList args.toList ds p := hA0
  rw [Try.params3] at hA hval
  obtain ⟨v0, vs0, d0, ds0, p0, q0, hargs, rfl, rfl, h0, r0⟩ := trodAll_cons hA
  obtain ⟨rfl, rfl, rfl⟩ := trodAll_nil r0
  obtain rfl : args = #[v0] := by cases args; simp_all
  obtain ⟨rfl, rfl⟩ := trodVars_none hV
  clear hA0 hval0 hsz0
  refine (AM.law_calls (params := [25]) (ts := [25, 3, 22, 23, 80, 78, 156, 9]) sound (by kernel_rfl) (by simp) (args := #[v0]) (fun j t v a b => hval j t v (by simpa using a) b) hA).mono fun e W' ⟨he, bel⟩ => ?_
  subst he
  exact ⟨_, rfl, _, _, _, [], _, [], hW', trodAll_mk1 (shut_bool Try.underlying4 _), AM.back_all AM.laid bel _ _ _ _ (by kernel_rfl) hA, rfl, bel.frame _, fun h => by cases h⟩
theorem over : Rows.fnExactFallsRow.holds Try.pinned (OpenSpec.ofChange Rows.fnExactFallsSpec) :=
  OpenClaim.holds_of_wide 3 Try.f3 rfl rfl rfl rfl rfl rfl rfl ⟨rfl, rfl, rfl, rfl, rfl⟩ rfl rfl rfl rfl rfl (by kernel_rfl) Try.func3 (by kernel_rfl)
    (of_decide_eq_true (by kernel_rfl)) (by unfold Func.isWrapper; first | (rw [if_pos (by decide +kernel)]; kernel_rfl) | (rw [if_neg (by decide +kernel)]; exact ⟨rfl, rfl⟩))
    (fun os started H enc _ => lifted os started H enc)
theorem proved : Rows.FnExactFallsSaid := over
end Go.Proofs.Ytlmlkkkgcbpaoaa.fnExactFalls
namespace Go.Proofs.Ytlmlkkkgcbpaoaa
theorem fnExactFalls_holds : Rows.FnExactFallsSaid := fnExactFalls.proved
end Go.Proofs.Ytlmlkkkgcbpaoaa
