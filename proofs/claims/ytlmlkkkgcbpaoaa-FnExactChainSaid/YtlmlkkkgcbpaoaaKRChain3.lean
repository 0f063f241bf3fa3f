/-
  FnExactChain: for every argument, the law returns true, and the arguments read behind the call as they read before.
  Conditions: none beyond the given statement's own.
-/
import Derived.Test.YtlmlkkkgcbpaoaaKk2
import Derived.WalkKit
import Derived.ProofKit
import Derived.OpenShut
import Derived.ShutString
import Derived.ChangeOld
import Derived.Below
import Derived.SizedLaws
/-
  A block, a graph that is right: the reference's.
-/
set_option linter.unusedVariables false
set_option linter.unusedSimpArgs false
set_option maxRecDepth 4000
namespace Go.Proofs.Ytlmlkkkgcbpaoaa.AM
open Go.RowKit

private def MG8 : FuncId → Mode := fun f => .tree

theorem all_take {α : Type} {l : List α} {p : α → Bool} {i : Nat} (hi : i < l.length) : (l.take (i + 1)).all p = ((l.take i).all p && p l[i]) := by
  have hx : l[i]? = some l[i] := by simp
  rw [List.take_add_one, hx, List.all_append, Option.toList_some, List.all_cons, List.all_nil, Bool.and_true]
theorem all_false {α : Type} {l : List α} {p : α → Bool} {i : Nat} (hi : i < l.length) (h : p l[i] = false) : l.all p = false := by
  cases ha : l.all p with
  | false => rfl
  | true => rw [List.all_eq_true] at ha; rw [ha _ (List.getElem_mem hi)] at h; cases h

set_option maxHeartbeats 4000000 in
theorem l04BlockOk (g : Graph) (b : Block) (hs : 0 ≤ g.Slots ∧ g.Slots ≤ 1000) (hr : g.Sizes.length ≤ 2 ^ 20) (hb : g.Blocks.length ≤ 2 ^ 20) (hc : b.Code.length ≤ 2 ^ 20) : Pure Try.prog 69 [.agg (g.cells true), .agg (b.cells true)] (.bool (blockOk g b)) := by
  intro T
  have w1 : IntKind.i64.wrap (g.Slots - 1) = g.Slots - 1 := wrap_id (by omega) (by omega)
  have w2 : IntKind.i64.wrap ((g.Blocks.length : Int) - 1) = (g.Blocks.length : Int) - 1 := wrap_id (by omega) (by omega)
  refine enter mixed MG8 Try.func69 rfl (by kernel_rfl) rfl ?_
  repeat' (first
   | with_reducible refine stp ?_
   | with_reducible refine k_blk_o rfl ?_
   | ((try (conv => arg 1; simp [Graph.cells, Block.cells])); with_reducible refine evp ?_)
   | ((with_reducible refine apn ?na ?_); (case na => simp [appNames, ints, intss] <;> first | kernel_rfl | (refine ⟨?_, ?_⟩ <;> kernel_rfl)))
   | fail)
  refine cx_k ((Cx.mt.next.box_one (T := T) (i := 0) Cx.mt.off (by simp)).box_add (n := (T, 1, 0)) (by simp [nms]) (by simp)) ?_
  intro h1 x1
  have b1 := x1.bxs
  simp only [Bxs] at b1
  repeat' (first
   | with_reducible refine stp ?_
   | with_reducible refine k_blk_o rfl ?_
   | with_reducible refine k_seq_n ?_
   | ((try (conv => arg 1; simp [b1])); with_reducible refine evp ?_)
   | ((with_reducible refine apn ?na ?_); (case na => simp [appNames, ints, intss] <;> first | kernel_rfl | (refine ⟨?_, ?_⟩ <;> kernel_rfl)))
   | fail)
  refine st_loop (fun (i : Nat) σ h => i ≤ b.Code.length ∧ σ 2 = .ptr (T, 0, 0) 0 0 0 ∧ σ 3 = .ptr (T, 1, 0) 0 0 0 ∧ σ 5 = .int .i64 i ∧ (b.Code.take i).all (instrOk g.Slots g.Sizes.length) = true ∧
    Cx h [((T, 1, 0), ⟨0, 5, [[instrs true b.Code, .int .i64 b.Jump, .int .i64 b.A, .int .i64 b.To, .int .i64 b.Else]]⟩), ((T, 0, 0), ⟨0, 5, [[ints true g.Sizes, .int .i64 g.Params, .int .i64 g.Vars, .int .i64 g.Slots, blocks true g.Blocks]]⟩)] []) (fun i => b.Code.length - i) 0 ?init ?step
  case init => exact ⟨Nat.zero_le _, by simp, by simp, by simp, rfl, Cx.to x1⟩
  case step =>
    rintro i σ h ⟨hi, s2, s3, s5, ha, x⟩
    have b2 := x.bxs
    simp only [Bxs] at b2
    by_cases hlt : i < b.Code.length
    · have hlt2 : (i : Int) < b.Code.length := by omega
      have hx : b.Code[i]? = some b.Code[i] := by simp
      have hlen := instr_len b.Code[i]
      have hw : IntKind.i64.wrap (i + 1) = i + 1 := wrap_id (by omega) (by omega)
      have I := l04InstrOk g b.Code[i] hs hr
      have hT : ¬ T = h.tick + 1 := by omega
      repeat' (first
       | with_reducible refine stp ?_
       | with_reducible refine k_blk_o rfl ?_
       | with_reducible refine k_seq_n ?_
       | ((try (conv => arg 1; simp [s2, s3, s5, b2, hlt2])); with_reducible refine evp ?_)
       | ((with_reducible refine apn ?na ?_); (case na => simp [appNames, ints, intss] <;> first | kernel_rfl | (refine ⟨?_, ?_⟩ <;> kernel_rfl)))
       | fail)
      cases hv : instrOk g.Slots g.Sizes.length b.Code[i] with
      | false =>
        rw [hv] at I
        repeat (with_reducible first | refine stp ?_ | refine k_seq_n ?_)
        refine st_lz (by kernel_rfl) ?_
        have hF := And.intro s2 (And.intro s3 (And.intro s5 (And.intro b2 (And.intro hT (And.intro hx hlen)))))
        repeat' (first
         | with_reducible refine stp ?_
         | with_reducible refine k_blk_o rfl ?_
         | ((try (conv => arg 1; simp [instrs, Instr.cells, hF])); with_reducible refine evp ?_)
         | ((with_reducible refine apn ?na ?_); (case na => simp [appNames, ints, intss] <;> first | kernel_rfl | (refine ⟨?_, ?_⟩ <;> kernel_rfl)))
         | ((with_reducible refine tcl ?_); first | ((apply tg (I)); (case e => rfl); (case d => (refine dq ?_); (repeat' (first | ((refine Da.mk ?_); first | exact dr_blocks (by simp) _ | assumption) | constructor)))))
          | ((with_reducible refine la_id ?_); refine la_end rfl ?_; (repeat (first | refine pl_nil ?_ | refine pl_cons ?_)))
          | ((with_reducible refine la_id ?_); refine la_pick ?_; (conv => arg 1; whnf); (repeat ((fail_if_success (first | ((refine la_q0 rfl ?_); (try (conv => arg 1; simp [instrs, Instr.cells, hF])); with_reducible refine evp ?_) | ((refine la_n rfl rfl ?_); (try (conv => arg 1; simp [instrs, Instr.cells, hF])); with_reducible refine evp ?_) | ((refine la_q2 rfl (by decide +kernel) ?_); (repeat (first | refine bk_nil ?_ | refine bk_t (by decide +kernel) ?_ | refine bk_f (by decide +kernel) ?_)); (try (conv => arg 1; simp [instrs, Instr.cells, hF])); with_reducible refine evp ?_) | ((refine la_q1 rfl (by decide +kernel) ?_); (try (conv => arg 1; simp [instrs, Instr.cells, hF])); with_reducible refine evp ?_) | ((refine la_g0 rfl ?_); (try (conv => arg 1; simp [instrs, Instr.cells, hF])); with_reducible refine evp ?_; (with_reducible refine evp ?_); try ((try (conv => arg 1; simp [instrs, Instr.cells, hF])); with_reducible refine evp ?_)))); (refine la_there ?_); (conv => arg 1; whnf))); first | ((refine la_q0 rfl ?_); (try (conv => arg 1; simp [instrs, Instr.cells, hF])); with_reducible refine evp ?_) | ((refine la_n rfl rfl ?_); (try (conv => arg 1; simp [instrs, Instr.cells, hF])); with_reducible refine evp ?_) | ((refine la_q2 rfl (by decide +kernel) ?_); (repeat (first | refine bk_nil ?_ | refine bk_t (by decide +kernel) ?_ | refine bk_f (by decide +kernel) ?_)); (try (conv => arg 1; simp [instrs, Instr.cells, hF])); with_reducible refine evp ?_) | ((refine la_q1 rfl (by decide +kernel) ?_); (try (conv => arg 1; simp [instrs, Instr.cells, hF])); with_reducible refine evp ?_) | ((refine la_g0 rfl ?_); (try (conv => arg 1; simp [instrs, Instr.cells, hF])); with_reducible refine evp ?_; (with_reducible refine evp ?_); try ((try (conv => arg 1; simp [instrs, Instr.cells, hF])); with_reducible refine evp ?_)))
          | ((with_reducible refine la_id ?_); refine la_all rfl ?_)
          | ((with_reducible refine all_id ?_); (conv => arg 1; whnf); first | exact all_nil | refine all_cons ?_ ?_)
          | (refine la_op rfl (by first | exact frm_s (by decide +kernel) | exact frm_a (by repeat' (first | exact fa_nil | refine fa_cons (by decide +kernel) ?_))) (by intro hq; first | exact trivial | (cases hq; done) | simp [appT, instrs, Instr.cells, hF]) ?_; (repeat (first | refine bk_nil ?_ | refine bk_t (by decide +kernel) ?_ | refine bk_f (by decide +kernel) ?_)))
         | fail)
        repeat' (first
         | with_reducible refine stp ?_
         | with_reducible refine k_blk_o rfl ?_
         | with_reducible refine k_seq_n ?_
         | ((try (conv => arg 1; simp [s2, s3, s5, b2])); with_reducible refine evp ?_)
         | ((with_reducible refine apn ?na ?_); (case na => simp [appNames, ints, intss] <;> first | kernel_rfl | (refine ⟨?_, ?_⟩ <;> kernel_rfl)))
         | fail)
        have e : blockOk g b = false := by unfold blockOk; rw [all_false hlt hv, Bool.false_and]
        rw [e]
        exact .bool _
      | true =>
        rw [hv] at I
        repeat (with_reducible first | refine stp ?_ | refine k_seq_n ?_)
        refine st_lz (by kernel_rfl) ?_
        have hF := And.intro s2 (And.intro s3 (And.intro s5 (And.intro b2 (And.intro hT (And.intro hx hlen)))))
        repeat' (first
         | with_reducible refine stp ?_
         | with_reducible refine k_blk_o rfl ?_
         | ((try (conv => arg 1; simp [instrs, Instr.cells, hF])); with_reducible refine evp ?_)
         | ((with_reducible refine apn ?na ?_); (case na => simp [appNames, ints, intss] <;> first | kernel_rfl | (refine ⟨?_, ?_⟩ <;> kernel_rfl)))
         | ((with_reducible refine tcl ?_); first | ((apply tg (I)); (case e => rfl); (case d => (refine dq ?_); (repeat' (first | ((refine Da.mk ?_); first | exact dr_blocks (by simp) _ | assumption) | constructor)))))
          | ((with_reducible refine la_id ?_); refine la_end rfl ?_; (repeat (first | refine pl_nil ?_ | refine pl_cons ?_)))
          | ((with_reducible refine la_id ?_); refine la_pick ?_; (conv => arg 1; whnf); (repeat ((fail_if_success (first | ((refine la_q0 rfl ?_); (try (conv => arg 1; simp [instrs, Instr.cells, hF])); with_reducible refine evp ?_) | ((refine la_n rfl rfl ?_); (try (conv => arg 1; simp [instrs, Instr.cells, hF])); with_reducible refine evp ?_) | ((refine la_q2 rfl (by decide +kernel) ?_); (repeat (first | refine bk_nil ?_ | refine bk_t (by decide +kernel) ?_ | refine bk_f (by decide +kernel) ?_)); (try (conv => arg 1; simp [instrs, Instr.cells, hF])); with_reducible refine evp ?_) | ((refine la_q1 rfl (by decide +kernel) ?_); (try (conv => arg 1; simp [instrs, Instr.cells, hF])); with_reducible refine evp ?_) | ((refine la_g0 rfl ?_); (try (conv => arg 1; simp [instrs, Instr.cells, hF])); with_reducible refine evp ?_; (with_reducible refine evp ?_); try ((try (conv => arg 1; simp [instrs, Instr.cells, hF])); with_reducible refine evp ?_)))); (refine la_there ?_); (conv => arg 1; whnf))); first | ((refine la_q0 rfl ?_); (try (conv => arg 1; simp [instrs, Instr.cells, hF])); with_reducible refine evp ?_) | ((refine la_n rfl rfl ?_); (try (conv => arg 1; simp [instrs, Instr.cells, hF])); with_reducible refine evp ?_) | ((refine la_q2 rfl (by decide +kernel) ?_); (repeat (first | refine bk_nil ?_ | refine bk_t (by decide +kernel) ?_ | refine bk_f (by decide +kernel) ?_)); (try (conv => arg 1; simp [instrs, Instr.cells, hF])); with_reducible refine evp ?_) | ((refine la_q1 rfl (by decide +kernel) ?_); (try (conv => arg 1; simp [instrs, Instr.cells, hF])); with_reducible refine evp ?_) | ((refine la_g0 rfl ?_); (try (conv => arg 1; simp [instrs, Instr.cells, hF])); with_reducible refine evp ?_; (with_reducible refine evp ?_); try ((try (conv => arg 1; simp [instrs, Instr.cells, hF])); with_reducible refine evp ?_)))
          | ((with_reducible refine la_id ?_); refine la_all rfl ?_)
          | ((with_reducible refine all_id ?_); (conv => arg 1; whnf); first | exact all_nil | refine all_cons ?_ ?_)
          | (refine la_op rfl (by first | exact frm_s (by decide +kernel) | exact frm_a (by repeat' (first | exact fa_nil | refine fa_cons (by decide +kernel) ?_))) (by intro hq; first | exact trivial | (cases hq; done) | simp [appT, instrs, Instr.cells, hF]) ?_; (repeat (first | refine bk_nil ?_ | refine bk_t (by decide +kernel) ?_ | refine bk_f (by decide +kernel) ?_)))
         | fail)
        repeat' (first
         | with_reducible refine stp ?_
         | with_reducible refine k_blk_o rfl ?_
         | with_reducible refine k_seq_n ?_
         | ((try (conv => arg 1; simp [s2, s3, s5, b2, hw])); with_reducible refine evp ?_)
         | ((with_reducible refine apn ?na ?_); (case na => simp [appNames, ints, intss] <;> first | kernel_rfl | (refine ⟨?_, ?_⟩ <;> kernel_rfl)))
         | fail)
        refine k_lp_n (i + 1) (by omega) ⟨by omega, by simp [s2], by simp [s3], by simp, by rw [all_take hlt, ha, hv]; rfl, Cx.to x⟩
    · have hlt2 : ¬ (i : Int) < b.Code.length := by omega
      rw [List.take_of_length_le (by omega)] at ha
      have e : blockOk g b = (if b.Jump = 0 then inB b.To 0 ((g.Blocks.length : Int) - 1) && decide (b.A = 0) && decide (b.Else = 0)
        else if b.Jump = 1 then inB b.To 0 ((g.Blocks.length : Int) - 1) && inB b.Else 0 ((g.Blocks.length : Int) - 1) && inB b.A 0 (g.Slots - 1)
        else if b.Jump = 2 then inB b.A 0 (g.Slots - 1) && decide (b.To = 0) && decide (b.Else = 0)
        else false) := by unfold blockOk; rw [ha, Bool.true_and]
      rw [e]
      repeat' (first
        | (with_reducible first | refine st_seq ?_ | refine st_reg ?_ | refine st_block ?_ | refine st_nil ?_ | refine st_skip ?_ | refine st_ret ?_ | refine st_exit ?_ | refine fr_nil ?_ | refine k_seq_n ?_ | refine k_seq_r ?_ | refine k_seq_e ?_ | refine k_blk_n ?_ | refine k_blk_r ?_ | refine k_blk_s ?_ | refine k_blk_o rfl ?_ | refine k_fn_r ?_ | refine k_fn_n ?_ | refine k_lp_r ?_ | refine k_lp_e ?_)
        | ((with_reducible first | refine st_move ?_ | refine st_asg ?_ | refine st_c ?_ | refine fr_c ?_); (try (conv => arg 1; simp [s2, s3, s5, b2, hlt2, w1, w2, ltS, nm_ne])); (with_reducible refine at_mk ?_))
        | ((with_reducible first | refine st_g ?_ | refine fr_g ?_); (try (conv => arg 1; simp [s2, s3, s5, b2, hlt2, w1, w2, ltS, nm_ne])); (with_reducible refine at_mk ?_); with_reducible first | refine gd_tt ?_ | refine gd_ff ?_ | refine gd_tf ?_ | refine gd_ft ?_ | refine gd_no ?_)
        | ((with_reducible first | refine st_gm ?_ | refine fr_gm ?_); (try (conv => arg 1; simp [s2, s3, s5, b2, hlt2, w1, w2, ltS, nm_ne])); (with_reducible refine at_mk ?_); (with_reducible first | refine gm_bool ?_ | refine gm_gv ?_); refine ⟨_, (by intro hc; first | ((try simp only [Bool.and_eq_true] at hc); (try (conv => lhs; simp [hc, s2, s3, s5, b2, hlt2, w1, w2, ltS, nm_ne])); first | done | exact rfl) | ((try simp [gq] at hc); (try (conv => lhs; simp [gq, hc, s2, s3, s5, b2, hlt2, w1, w2, ltS, nm_ne])); first | done | exact rfl)), ?_⟩)
        | ((with_reducible refine st_gmc ?_); (try (conv => arg 1; simp [s2, s3, s5, b2, hlt2, w1, w2, ltS, nm_ne])); (with_reducible refine at_mk ?_); (with_reducible first | refine gm_bool ?_ | refine gm_gv ?_); refine ⟨_, _, _, (by intro hc; first | ((try simp only [Bool.and_eq_true] at hc); (try (conv => lhs; simp [hc, s2, s3, s5, b2, hlt2, w1, w2, ltS, nm_ne])); first | done | exact rfl) | ((try simp [gq] at hc); (try (conv => lhs; simp [gq, hc, s2, s3, s5, b2, hlt2, w1, w2, ltS, nm_ne])); first | done | exact rfl)), rfl, l01In _ _ _, (by intro hc; (try simp at hc); (repeat' (first | exact DRs.nil | refine DRs.cons ?_ ?_ | exact .int _ _ | exact .bool _ | exact .str _ | exact .nilsl | exact .nilp | exact dr_ints (by simp) _ | exact dr_intss (by simp) _ | refine dr_agg ?_ | refine dr_fn ?_ | refine dr_tptr' (by simp) ?_ | assumption))), ?_⟩)
        | ((with_reducible refine fr_gmc ?_); (try (conv => arg 1; simp [s2, s3, s5, b2, hlt2, w1, w2, ltS, nm_ne])); (with_reducible refine at_mk ?_); (with_reducible first | refine gm_bool ?_ | refine gm_gv ?_); refine ⟨_, _, _, (by intro hc; first | ((try simp only [Bool.and_eq_true] at hc); (try (conv => lhs; simp [hc, s2, s3, s5, b2, hlt2, w1, w2, ltS, nm_ne])); first | done | exact rfl) | ((try simp [gq] at hc); (try (conv => lhs; simp [gq, hc, s2, s3, s5, b2, hlt2, w1, w2, ltS, nm_ne])); first | done | exact rfl)), l01In _ _ _, (by intro hc; (try simp at hc); (repeat' (first | exact DRs.nil | refine DRs.cons ?_ ?_ | exact .int _ _ | exact .bool _ | exact .str _ | exact .nilsl | exact .nilp | exact dr_ints (by simp) _ | exact dr_intss (by simp) _ | refine dr_agg ?_ | refine dr_fn ?_ | refine dr_tptr' (by simp) ?_ | assumption))), ?_⟩)
        | ((with_reducible refine st_gmv ?_); (try (conv => arg 1; simp [s2, s3, s5, b2, hlt2, w1, w2, ltS, nm_ne])); (with_reducible refine at_mk ?_); (with_reducible first | refine gm_bool ?_ | refine gm_gv ?_); refine ⟨_, _, _, _, _, (by intro hc; first | ((try simp only [Bool.and_eq_true] at hc); (try (conv => lhs; simp [hc, s2, s3, s5, b2, hlt2, w1, w2, ltS, nm_ne])); first | done | exact rfl) | ((try simp [gq] at hc); (try (conv => lhs; simp [gq, hc, s2, s3, s5, b2, hlt2, w1, w2, ltS, nm_ne])); first | done | exact rfl)), (by intro hc; first | ((try simp only [Bool.and_eq_true] at hc); (try (conv => lhs; simp [hc, s2, s3, s5, b2, hlt2, w1, w2, ltS, nm_ne])); first | done | exact rfl) | ((try simp [gq] at hc); (try (conv => lhs; simp [gq, hc, s2, s3, s5, b2, hlt2, w1, w2, ltS, nm_ne])); first | done | exact rfl)), rfl, l01In _ _ _, (by intro hc; (try simp at hc); (repeat' (first | exact DRs.nil | refine DRs.cons ?_ ?_ | exact .int _ _ | exact .bool _ | exact .str _ | exact .nilsl | exact .nilp | exact dr_ints (by simp) _ | exact dr_intss (by simp) _ | refine dr_agg ?_ | refine dr_fn ?_ | refine dr_tptr' (by simp) ?_ | assumption))), ?_⟩)
        | ((with_reducible refine st_m rfl ?_); (try (conv => arg 1; simp [s2, s3, s5, b2, hlt2, w1, w2, ltS, nm_ne])); (with_reducible refine ev2_some ?_))
        | ((with_reducible refine fr_n rfl ?_); (try (conv => arg 1; simp [s2, s3, s5, b2, hlt2, w1, w2, ltS, nm_ne])); (with_reducible refine evn_some ?_))
        | ((with_reducible first | refine st_cv ?_ | refine fr_cv ?_); (try (conv => arg 1; simp [s2, s3, s5, b2, hlt2, w1, w2, ltS, nm_ne])); (with_reducible refine at_mk ?_); (with_reducible refine fn_mk ?_); (try (conv => arg 1; simp [s2, s3, s5, b2, hlt2, w1, w2, ltS, nm_ne])); (with_reducible refine at_mk ?_))
        | ((with_reducible refine fr_a ?_); (try (conv => arg 1; simp [s2, s3, s5, b2, hlt2, w1, w2, ltS, nm_ne])); (with_reducible refine at_mk ?_); (try (conv => arg 1; simp [s2, s3, s5, b2, hlt2, w1, w2, ltS, nm_ne])); (with_reducible refine at_mk ?_); refine ⟨?names, ?_⟩; (case names => (simp [appNames, ints, intss] <;> first | kernel_rfl | (refine ⟨?_, ?_⟩ <;> kernel_rfl))); (try (conv => arg 1; simp [s2, s3, s5, b2, hlt2, w1, w2, ltS, nm_ne])); (with_reducible refine ev2_some ?_))
        | ((with_reducible first | refine st_q ?_ | refine fr_q ?_ | refine st_res ?_); (try (conv => arg 1; simp [s2, s3, s5, b2, hlt2, w1, w2, ltS, nm_ne])); (with_reducible refine ev_some ?_))
        | ((with_reducible refine st_if ?_); (try (conv => arg 1; simp [s2, s3, s5, b2, hlt2, w1, w2, ltS, nm_ne])); (with_reducible refine at_mk ?_); with_reducible first | refine br_t ?_ | refine br_f ?_ | (refine br_b (fun hb => ?_) (fun hb => ?_) <;> ((try simp only [Bool.not_eq_eq_eq_not, Bool.not_true, Bool.not_false] at hb); (try simp only [hb]); (try simp at hb))))
        | ((with_reducible refine ct_id ?_); refine st_tree rfl (l01In _ _ _) (by (repeat' (first | exact DRs.nil | refine DRs.cons ?_ ?_ | exact .int _ _ | exact .bool _ | exact .str _ | exact .nilsl | exact .nilp | exact dr_ints (by simp) _ | exact dr_intss (by simp) _ | refine dr_agg ?_ | refine dr_fn ?_ | refine dr_tptr' (by simp) ?_ | assumption))) ?_)
        | ((with_reducible refine tw_id ?_); refine treeW_pure (l01In _ _ _) (by (repeat' (first | exact DRs.nil | refine DRs.cons ?_ ?_ | exact .int _ _ | exact .bool _ | exact .str _ | exact .nilsl | exact .nilp | exact dr_ints (by simp) _ | exact dr_intss (by simp) _ | refine dr_agg ?_ | refine dr_fn ?_ | refine dr_tptr' (by simp) ?_ | assumption))) ?_))
      all_goals refine dr_bool ?_
      all_goals rw [Bool.eq_iff_iff]
      all_goals (try simp_all)
      all_goals grind
end Go.Proofs.Ytlmlkkkgcbpaoaa.AM

/-
  A graph that is right: the reference's.
-/
set_option linter.unusedVariables false
set_option linter.unusedSimpArgs false
set_option maxRecDepth 4000
namespace Go.Proofs.Ytlmlkkkgcbpaoaa.AM
open Go.RowKit

private def MG9 : FuncId → Mode := fun f => .tree

/-- What the laws' sizes say of a graph. -/
structure Graph.Fit (g : Graph) : Prop where
  sizes : g.Sizes.length ≤ 2 ^ 20
  blocks : g.Blocks.length ≤ 2 ^ 20
  code : ∀ b ∈ g.Blocks, b.Code.length ≤ 2 ^ 20
theorem codeLen_le (xs : List Block) (i : Nat) : codeLen xs i ≤ codeLen xs xs.length := gsum_le _ xs i
theorem codeLen_succ {xs : List Block} {i : Nat} (h : i < xs.length) : codeLen xs (i + 1) = codeLen xs i + xs[i].Code.length := gsum_succ _ xs i h
def graphRow (g : Graph) : Row := ⟨0, 5, [[ints true g.Sizes, .int .i64 g.Params, .int .i64 g.Vars, .int .i64 g.Slots, blocks true g.Blocks]]⟩

set_option maxHeartbeats 4000000 in
theorem graphOkSpec (g : Graph) (d : g.Fit) : Pure Try.prog 38 [.agg (g.cells true)] (.bool (graphOk g)) := by
  intro T
  have d1 := d.sizes
  have d2 := d.blocks
  refine enter mixed MG9 Try.func38 rfl (by kernel_rfl) rfl ?_
  repeat' (first
   | with_reducible refine stp ?_
   | with_reducible refine k_blk_o rfl ?_
   | ((try (conv => arg 1; simp [Graph.cells])); with_reducible refine evp ?_)
   | ((with_reducible refine apn ?na ?_); (case na => simp [appNames, ints, intss] <;> first | kernel_rfl | (refine ⟨?_, ?_⟩ <;> kernel_rfl)))
   | fail)
  refine cx_k (Cx.mt.next.box_one (T := T) (i := 0) Cx.mt.off (by simp)) ?_
  intro h1 x1
  have b1 := x1.bxs
  simp only [Bxs] at b1
  repeat' (first
   | with_reducible refine stp ?_
   | with_reducible refine k_blk_o rfl ?_
   | with_reducible refine k_seq_n ?_
   | ((try (conv => arg 1; simp [b1])); with_reducible refine evp ?_)
   | ((with_reducible refine apn ?na ?_); (case na => simp [appNames, ints, intss] <;> first | kernel_rfl | (refine ⟨?_, ?_⟩ <;> kernel_rfl)))
   | fail)
  refine st_loop (fun (i : Nat) σ h => i ≤ g.Sizes.length ∧ σ 1 = .ptr (T, 0, 0) 0 0 0 ∧ σ 3 = .int .i64 i ∧ (g.Sizes.take i).all (fun n => inB n 1 16) = true ∧ Cx h [((T, 0, 0), graphRow g)] []) (fun i => g.Sizes.length - i) 0 ?init ?step
  case init => exact ⟨Nat.zero_le _, by simp, by simp, rfl, Cx.to x1⟩
  case step =>
    rintro i σ h ⟨hi, s1, s3, ha, x⟩
    have b2 := x.bxs
    simp only [Bxs, graphRow] at b2
    by_cases hlt : i < g.Sizes.length
    · have hlt2 : (i : Int) < g.Sizes.length := by omega
      have hx : g.Sizes[i]? = some g.Sizes[i] := by simp
      have hw : IntKind.i64.wrap (i + 1) = i + 1 := wrap_id (by omega) (by omega)
      cases hv : inB g.Sizes[i] 1 16 with
      | false =>
        repeat' (first
         | with_reducible refine stp ?_
         | with_reducible refine k_blk_o rfl ?_
         | with_reducible refine k_seq_n ?_
         | ((try (conv => arg 1; simp [s1, s3, b2, hlt2, hx, ints, hv, ltS, nm_ne])); with_reducible refine evp ?_)
         | ((with_reducible refine apn ?na ?_); (case na => simp [appNames, ints, intss] <;> first | kernel_rfl | (refine ⟨?_, ?_⟩ <;> kernel_rfl)))
         | ((with_reducible refine tcl ?_); first | ((apply tg (l01In _ _ _)); (case e => rfl); (case d => (refine dq ?_); (repeat' (first | ((refine Da.mk ?_); first | assumption) | constructor)))))
         | fail)
        have e : graphOk g = false := by unfold graphOk headOk; rw [all_false hlt hv]; simp
        rw [e]
        exact .bool _
      | true =>
        repeat' (first
         | with_reducible refine stp ?_
         | with_reducible refine k_blk_o rfl ?_
         | with_reducible refine k_seq_n ?_
         | ((try (conv => arg 1; simp [s1, s3, b2, hlt2, hx, ints, hv, hw, ltS, nm_ne])); with_reducible refine evp ?_)
         | ((with_reducible refine apn ?na ?_); (case na => simp [appNames, ints, intss] <;> first | kernel_rfl | (refine ⟨?_, ?_⟩ <;> kernel_rfl)))
         | ((with_reducible refine tcl ?_); first | ((apply tg (l01In _ _ _)); (case e => rfl); (case d => (refine dq ?_); (repeat' (first | ((refine Da.mk ?_); first | assumption) | constructor)))))
         | fail)
        refine k_lp_n (i + 1) (by omega) ⟨by omega, by simp [s1], by simp, by rw [all_take hlt, ha, hv]; rfl, Cx.to x⟩
    · have hlt2 : ¬ (i : Int) < g.Sizes.length := by omega
      rw [List.take_of_length_le (by omega)] at ha
      repeat' (first
       | with_reducible refine stp ?_
       | with_reducible refine k_blk_o rfl ?_
       | with_reducible refine k_seq_n ?_
       | ((try (conv => arg 1; simp [s1, s3, b2, hlt2, ltS, nm_ne])); with_reducible refine evp ?_)
       | ((with_reducible refine apn ?na ?_); (case na => simp [appNames, ints, intss] <;> first | kernel_rfl | (refine ⟨?_, ?_⟩ <;> kernel_rfl)))
       | fail)
      have x' := x.next
      generalize h.next = hq at *
      have b3 := x'.bxs
      simp only [Bxs, graphRow] at b3
      repeat' (first
        | (with_reducible first | refine st_seq ?_ | refine st_reg ?_ | refine st_block ?_ | refine st_nil ?_ | refine st_skip ?_ | refine st_ret ?_ | refine st_exit ?_ | refine fr_nil ?_ | refine k_seq_n ?_ | refine k_seq_r ?_ | refine k_seq_e ?_ | refine k_blk_n ?_ | refine k_blk_r ?_ | refine k_blk_s ?_ | refine k_blk_o rfl ?_ | refine k_fn_r ?_ | refine k_fn_n ?_ | refine k_lp_r ?_ | refine k_lp_e ?_)
        | ((with_reducible first | refine st_move ?_ | refine st_asg ?_ | refine st_c ?_ | refine fr_c ?_); (try (conv => arg 1; simp [s1, b3])); (with_reducible refine at_mk ?_))
        | ((with_reducible first | refine st_g ?_ | refine fr_g ?_); (try (conv => arg 1; simp [s1, b3])); (with_reducible refine at_mk ?_); with_reducible first | refine gd_tt ?_ | refine gd_ff ?_ | refine gd_tf ?_ | refine gd_ft ?_ | refine gd_no ?_)
        | ((with_reducible first | refine st_gm ?_ | refine fr_gm ?_); (try (conv => arg 1; simp [s1, b3])); (with_reducible refine at_mk ?_); (with_reducible first | refine gm_bool ?_ | refine gm_gv ?_); refine ⟨_, (by intro hc; first | ((try simp only [Bool.and_eq_true] at hc); (try (conv => lhs; simp [hc, s1, b3])); first | done | exact rfl) | ((try simp [gq] at hc); (try (conv => lhs; simp [gq, hc, s1, b3])); first | done | exact rfl)), ?_⟩)
        | ((with_reducible refine st_gmc ?_); (try (conv => arg 1; simp [s1, b3])); (with_reducible refine at_mk ?_); (with_reducible first | refine gm_bool ?_ | refine gm_gv ?_); refine ⟨_, _, _, (by intro hc; first | ((try simp only [Bool.and_eq_true] at hc); (try (conv => lhs; simp [hc, s1, b3])); first | done | exact rfl) | ((try simp [gq] at hc); (try (conv => lhs; simp [gq, hc, s1, b3])); first | done | exact rfl)), rfl, l01In _ _ _, (by intro hc; (try simp at hc); (repeat' (first | exact DRs.nil | refine DRs.cons ?_ ?_ | exact .int _ _ | exact .bool _ | exact .str _ | exact .nilsl | exact .nilp | exact dr_ints (by simp) _ | exact dr_intss (by simp) _ | refine dr_agg ?_ | refine dr_fn ?_ | refine dr_tptr' (by simp) ?_ | assumption))), ?_⟩)
        | ((with_reducible refine fr_gmc ?_); (try (conv => arg 1; simp [s1, b3])); (with_reducible refine at_mk ?_); (with_reducible first | refine gm_bool ?_ | refine gm_gv ?_); refine ⟨_, _, _, (by intro hc; first | ((try simp only [Bool.and_eq_true] at hc); (try (conv => lhs; simp [hc, s1, b3])); first | done | exact rfl) | ((try simp [gq] at hc); (try (conv => lhs; simp [gq, hc, s1, b3])); first | done | exact rfl)), l01In _ _ _, (by intro hc; (try simp at hc); (repeat' (first | exact DRs.nil | refine DRs.cons ?_ ?_ | exact .int _ _ | exact .bool _ | exact .str _ | exact .nilsl | exact .nilp | exact dr_ints (by simp) _ | exact dr_intss (by simp) _ | refine dr_agg ?_ | refine dr_fn ?_ | refine dr_tptr' (by simp) ?_ | assumption))), ?_⟩)
        | ((with_reducible refine st_gmv ?_); (try (conv => arg 1; simp [s1, b3])); (with_reducible refine at_mk ?_); (with_reducible first | refine gm_bool ?_ | refine gm_gv ?_); refine ⟨_, _, _, _, _, (by intro hc; first | ((try simp only [Bool.and_eq_true] at hc); (try (conv => lhs; simp [hc, s1, b3])); first | done | exact rfl) | ((try simp [gq] at hc); (try (conv => lhs; simp [gq, hc, s1, b3])); first | done | exact rfl)), (by intro hc; first | ((try simp only [Bool.and_eq_true] at hc); (try (conv => lhs; simp [hc, s1, b3])); first | done | exact rfl) | ((try simp [gq] at hc); (try (conv => lhs; simp [gq, hc, s1, b3])); first | done | exact rfl)), rfl, l01In _ _ _, (by intro hc; (try simp at hc); (repeat' (first | exact DRs.nil | refine DRs.cons ?_ ?_ | exact .int _ _ | exact .bool _ | exact .str _ | exact .nilsl | exact .nilp | exact dr_ints (by simp) _ | exact dr_intss (by simp) _ | refine dr_agg ?_ | refine dr_fn ?_ | refine dr_tptr' (by simp) ?_ | assumption))), ?_⟩)
        | ((with_reducible refine st_m rfl ?_); (try (conv => arg 1; simp [s1, b3])); (with_reducible refine ev2_some ?_))
        | ((with_reducible refine fr_n rfl ?_); (try (conv => arg 1; simp [s1, b3])); (with_reducible refine evn_some ?_))
        | ((with_reducible first | refine st_cv ?_ | refine fr_cv ?_); (try (conv => arg 1; simp [s1, b3])); (with_reducible refine at_mk ?_); (with_reducible refine fn_mk ?_); (try (conv => arg 1; simp [s1, b3])); (with_reducible refine at_mk ?_))
        | ((with_reducible refine fr_a ?_); (try (conv => arg 1; simp [s1, b3])); (with_reducible refine at_mk ?_); (try (conv => arg 1; simp [s1, b3])); (with_reducible refine at_mk ?_); refine ⟨?names, ?_⟩; (case names => (simp [appNames, ints, intss] <;> first | kernel_rfl | (refine ⟨?_, ?_⟩ <;> kernel_rfl))); (try (conv => arg 1; simp [s1, b3])); (with_reducible refine ev2_some ?_))
        | ((with_reducible first | refine st_q ?_ | refine fr_q ?_ | refine st_res ?_); (try (conv => arg 1; simp [s1, b3])); (with_reducible refine ev_some ?_))
        | ((with_reducible refine st_if ?_); (try (conv => arg 1; simp [s1, b3])); (with_reducible refine at_mk ?_); with_reducible first | refine br_t ?_ | refine br_f ?_)
        | ((with_reducible refine ct_id ?_); refine st_tree rfl (l01In _ _ _) (by (repeat' (first | exact DRs.nil | refine DRs.cons ?_ ?_ | exact .int _ _ | exact .bool _ | exact .str _ | exact .nilsl | exact .nilp | exact dr_ints (by simp) _ | exact dr_intss (by simp) _ | refine dr_agg ?_ | refine dr_fn ?_ | refine dr_tptr' (by simp) ?_ | assumption))) ?_)
        | ((with_reducible refine tw_id ?_); refine treeW_pure (l01In _ _ _) (by (repeat' (first | exact DRs.nil | refine DRs.cons ?_ ?_ | exact .int _ _ | exact .bool _ | exact .str _ | exact .nilsl | exact .nilp | exact dr_ints (by simp) _ | exact dr_intss (by simp) _ | refine dr_agg ?_ | refine dr_fn ?_ | refine dr_tptr' (by simp) ?_ | assumption))) ?_))
      (try with_reducible refine st_if ?_)
      (try (conv => arg 1; simp [d1]))
      (try with_reducible refine at_mk ?_)
      refine ⟨fun hb => ?_, fun hb => ?_⟩
      · have e : graphOk g = false := by
          have : headOk g = false := by
            cases hk : headOk g with
            | false => rfl
            | true =>
              have H := headOk_head hk
              have e1 := H.sizes
              have e2 := H.params
              have e3 := H.vars
              have e4 := H.slots
              have e5 := H.blocks
              exfalso
              simp only [Bool.or_eq_true, Bool.not_eq_true', inB, decide_eq_true_eq, Bool.and_eq_false_iff, decide_eq_false_iff_not] at hb
              omega
          simp [graphOk, this]
        repeat' (first
         | with_reducible refine stp ?_
         | with_reducible refine k_blk_o rfl ?_
         | with_reducible refine k_seq_n ?_
         | ((try (conv => arg 1; simp [d1])); with_reducible refine evp ?_)
         | ((with_reducible refine apn ?na ?_); (case na => simp [appNames, ints, intss] <;> first | kernel_rfl | (refine ⟨?_, ?_⟩ <;> kernel_rfl)))
         | fail)
        rw [e]
        exact .bool _
      have hk : headOk g = true := by
        simp only [headOk, inB, Bool.and_eq_true, decide_eq_true_eq]
        simp only [Bool.not_eq_true, Bool.or_eq_false_iff, Bool.not_eq_false', inB, Bool.and_eq_true, decide_eq_true_eq, decide_eq_false_iff_not] at hb
        repeat' apply And.intro
        all_goals first | exact ha | omega
      have H := headOk_head hk
      have e4 := H.slots
      have e2 := H.params
      have e5 := H.blocks
      repeat' (first
       | with_reducible refine stp ?_
       | with_reducible refine k_blk_o rfl ?_
       | with_reducible refine k_seq_n ?_
       | ((try (conv => arg 1; simp [d1])); with_reducible refine evp ?_)
       | ((with_reducible refine apn ?na ?_); (case na => simp [appNames, ints, intss] <;> first | kernel_rfl | (refine ⟨?_, ?_⟩ <;> kernel_rfl)))
       | fail)
      refine st_loop (fun (i : Nat) σ h => i ≤ g.Blocks.length ∧ σ 1 = .ptr (T, 0, 0) 0 0 0 ∧ σ 4 = .int .i64 (codeLen g.Blocks i) ∧ σ 5 = .int .i64 i ∧ codeLen g.Blocks i ≤ 1000 ∧ (g.Blocks.take i).all (blockOk g) = true ∧ Cx h [((T, 0, 0), graphRow g)] []) (fun i => g.Blocks.length - i) 0 ?init ?step
      case init => exact ⟨Nat.zero_le _, by simp [s1], by simp [codeLen, gsum_zero], by simp, by simp [codeLen, gsum_zero], rfl, Cx.to x'⟩
      case step =>
        rintro i σ h ⟨hi, s1, s4, s5, hn, ha2, x⟩
        have b2 := x.bxs
        simp only [Bxs, graphRow] at b2
        by_cases hlt : i < g.Blocks.length
        · have hlt2 : (i : Int) < g.Blocks.length := by omega
          have hx : g.Blocks[i]? = some g.Blocks[i] := by simp
          have hlen := block_len true g.Blocks[i]
          have hc := d.code _ (List.getElem_mem hlt)
          have hw : IntKind.i64.wrap (i + 1) = i + 1 := wrap_id (by omega) (by omega)
          have hs := codeLen_succ hlt
          have hw2 : IntKind.i64.wrap ((codeLen g.Blocks i : Int) + g.Blocks[i].Code.length) = codeLen g.Blocks (i + 1) := by rw [wrap_id (by omega) (by omega)]; omega
          have B := l04BlockOk g g.Blocks[i] (by omega) d1 d2 hc
          have hT : ¬ T = h.tick + 1 + 1 := by omega
          repeat' (first
           | with_reducible refine stp ?_
           | with_reducible refine k_blk_o rfl ?_
           | with_reducible refine k_seq_n ?_
           | ((try (conv => arg 1; simp [s1, s4, s5, b2, hlt2, hx, hlen, blocks, Block.cells, hw2, ltS, nm_ne])); with_reducible refine evp ?_)
           | ((with_reducible refine apn ?na ?_); (case na => simp [appNames, ints, intss] <;> first | kernel_rfl | (refine ⟨?_, ?_⟩ <;> kernel_rfl)))
           | fail)
          by_cases h1000 : codeLen g.Blocks (i + 1) > 1000
          · have h2 : (1000 : Int) < codeLen g.Blocks (i + 1) := by omega
            have e : graphOk g = false := by
              have := codeLen_le g.Blocks (i + 1)
              simp only [graphOk]
              rw [show decide (codeLen g.Blocks g.Blocks.length ≤ 1000) = false by simp; omega]
              simp
            repeat (with_reducible first | refine stp ?_ | refine k_seq_n ?_)
            refine st_draw 12 (fun _ => false) (by kernel_rfl) ?_
            simp only [List.take_succ_cons, List.take_zero, List.drop_succ_cons, List.drop_zero, List.take_nil, List.drop_nil]
            repeat' (first
             | with_reducible refine stp ?_
             | with_reducible refine k_blk_o rfl ?_
             | with_reducible refine k_seq_n ?_
             | ((try (conv => arg 1; simp [s1, s5, b2, h2, hT])); with_reducible refine evp ?_)
             | ((with_reducible refine apn ?na ?_); (case na => simp [appNames, ints, intss] <;> first | kernel_rfl | (refine ⟨?_, ?_⟩ <;> kernel_rfl)))
             | fail)
            rw [e]
            exact .bool _
          · have h2 : ¬ (1000 : Int) < codeLen g.Blocks (i + 1) := by omega
            cases hv : blockOk g g.Blocks[i] with
            | false =>
              rw [hv] at B
              repeat (with_reducible first | refine stp ?_ | refine k_seq_n ?_)
              refine st_draw 12 (fun _ => false) (by kernel_rfl) ?_
              simp only [List.take_succ_cons, List.take_zero, List.drop_succ_cons, List.drop_zero, List.take_nil, List.drop_nil]
              repeat' (first
               | with_reducible refine stp ?_
               | with_reducible refine k_blk_o rfl ?_
               | with_reducible refine k_seq_n ?_
               | ((try (conv => arg 1; simp [s1, s5, b2, h2, hT, hx, hlen, hw, blocks, Block.cells, Graph.cells])); with_reducible refine evp ?_)
               | ((with_reducible refine apn ?na ?_); (case na => simp [appNames, ints, intss] <;> first | kernel_rfl | (refine ⟨?_, ?_⟩ <;> kernel_rfl)))
               | ((with_reducible refine tcl ?_); first | ((apply tg (B)); (case e => rfl); (case d => (refine dq ?_); (repeat' (first | ((refine Da.mk ?_); first | exact dr_blocks (by simp) _ | exact dr_instrs (by simp) _ | assumption) | constructor)))))
               | fail)
              have e : graphOk g = false := by simp only [graphOk]; rw [all_false hlt hv, Bool.and_false]
              rw [e]
              exact .bool _
            | true =>
              rw [hv] at B
              repeat (with_reducible first | refine stp ?_ | refine k_seq_n ?_)
              refine st_draw 12 (fun _ => false) (by kernel_rfl) ?_
              simp only [List.take_succ_cons, List.take_zero, List.drop_succ_cons, List.drop_zero, List.take_nil, List.drop_nil]
              repeat' (first
               | with_reducible refine stp ?_
               | with_reducible refine k_blk_o rfl ?_
               | with_reducible refine k_seq_n ?_
               | ((try (conv => arg 1; simp [s1, s5, b2, h2, hT, hx, hlen, hw, blocks, Block.cells, Graph.cells])); with_reducible refine evp ?_)
               | ((with_reducible refine apn ?na ?_); (case na => simp [appNames, ints, intss] <;> first | kernel_rfl | (refine ⟨?_, ?_⟩ <;> kernel_rfl)))
               | ((with_reducible refine tcl ?_); first | ((apply tg (B)); (case e => rfl); (case d => (refine dq ?_); (repeat' (first | ((refine Da.mk ?_); first | exact dr_blocks (by simp) _ | exact dr_instrs (by simp) _ | assumption) | constructor)))))
               | fail)
              refine k_lp_n (i + 1) (by omega) ⟨by omega, by simp [s1], by simp, by simp, by omega, by rw [all_take hlt, ha2, hv]; rfl, Cx.to x⟩
        · have hlt2 : ¬ (i : Int) < g.Blocks.length := by omega
          rw [List.take_of_length_le (by omega)] at ha2
          have hi2 : i = g.Blocks.length := by omega
          rw [hi2] at hn
          repeat' (first
           | with_reducible refine stp ?_
           | with_reducible refine k_blk_o rfl ?_
           | with_reducible refine k_seq_n ?_
           | ((try (conv => arg 1; simp [s1, s5, b2, hlt2, ltS, nm_ne])); with_reducible refine evp ?_)
           | ((with_reducible refine apn ?na ?_); (case na => simp [appNames, ints, intss] <;> first | kernel_rfl | (refine ⟨?_, ?_⟩ <;> kernel_rfl)))
           | fail)
          have e : graphOk g = true := by simp [graphOk, hk, hn, ha2]
          rw [e]
          exact .bool _
end Go.Proofs.Ytlmlkkkgcbpaoaa.AM

/-
  Graphs: copies, equal.
-/
set_option linter.unusedVariables false
set_option linter.unusedSimpArgs false
set_option maxRecDepth 4000
namespace Go.Proofs.Ytlmlkkkgcbpaoaa.AM
open Go.RowKit

private def MG4 : FuncId → Mode := fun f => if f = 17 ∨ f = 39 then .fresh else .tree

theorem Graph.Small.code {g : Graph} (h : g.Small) : ∀ x ∈ g.Blocks, x.Code.length ≤ 2 ^ 20 := fun x hx => by
  have := wtBS_mem hx
  have := h.blocks
  omega
theorem Graph.Small.len {g : Graph} (h : g.Small) : g.Blocks.length ≤ 2 ^ 20 := by
  have := wtBS_len (xs := g.Blocks)
  have := h.blocks
  omega

theorem Cx.graph_join {h : Hp} {bs : Bx} {os : Ox} {w1 w2 : AV} {n1 n2 : List Nm} {g : Graph} (x : Cx h bs ((w1, (fun b => ints b g.Sizes), n1) :: (w2, (fun b => blocks b g.Blocks), n2) :: os)) :
    Cx h bs ((.agg [w1, .int .i64 g.Params, .int .i64 g.Vars, .int .i64 g.Slots, w2], (fun b => .agg (g.cells b)), n1 ++ n2) :: os) := by
  refine ⟨x.box, fun y hy b => ?_, ?_, fun m hm => x.lt m ?_⟩
  · simp only [List.mem_cons] at hy
    rcases hy with rfl | hy
    · exact .agg (Own.append (own_of (x.o0 b) rfl) (.int _ _ (.int _ _ (.int _ _ (own_of (x.o1 b) rfl)))))
    · exact x.own y (by simp [hy]) b
  · have := x.nd
    simpa [nms, List.append_assoc] using this
  · simpa [nms, List.append_assoc] using hm
theorem ownV_graph {rows : Nm → Option Row} {b : Bool} {v : AV} {g : Graph} {ns : List Nm} (h : OwnV rows b v (.agg (g.cells b)) ns) : ∃ w1 w2 n1 n2, v = .agg [w1, .int .i64 g.Params, .int .i64 g.Vars, .int .i64 g.Slots, w2] ∧ ns = n1 ++ n2 ∧ Own rows b [w1] [ints b g.Sizes] n1 ∧ Own rows b [w2] [blocks b g.Blocks] n2 := by
  generalize ht : AV.agg (g.cells b) = t at h
  cases h with
  | one h => subst ht; unfold Graph.cells at h; cases h
  | tup2 => cases ht
  | @agg l _ _ h =>
    cases ht
    unfold Graph.cells at h
    obtain ⟨w1, l1, n1, m1, rfl, rfl, o1, h⟩ := own_cons1 h
    cases h with
    | int _ _ h => cases h with
      | int _ _ h => cases h with
        | int _ _ h =>
          obtain ⟨w2, l2, n2, m2, rfl, rfl, o2, h⟩ := own_cons1 h
          cases h with
          | nil => exact ⟨w1, w2, n1, n2, rfl, by simp, o1, o2⟩

theorem toGraph (g : Graph) (hs : g.Small) : FreshW Try.prog 13 [.agg (g.cells true)] (fun b => .agg (g.cells b)) := by
  intro T
  have hnil : True := trivial
  refine enter mixed MG4 Try.func13 rfl (by kernel_rfl) rfl ?_
  repeat' (first
   | with_reducible refine stp ?_
   | with_reducible refine k_blk_o rfl ?_
   | ((try (conv => arg 1; simp [Graph.cells])); with_reducible refine evp ?_)
   | ((with_reducible refine apn ?na ?_); (case na => simp [appNames, ints, intss] <;> first | kernel_rfl | (refine ⟨?_, ?_⟩ <;> kernel_rfl)))
   | fail)
  refine cx_k ((Cx.mt.next.box_one (T := T) (i := 0) Cx.mt.off (by simp)).box_add (n := (T, 1, 0)) (by simp [nms]) (by simp)) ?_
  intro h1 x1
  have hT := x1.l0
  have hT2 : ¬ h1.tick = T := fun e => hT e.symm
  repeat' (first
   | with_reducible refine stp ?_
   | with_reducible refine k_blk_o rfl ?_
   | ((try (conv => arg 1; simp [hnil])); with_reducible refine evp ?_)
   | ((with_reducible refine apn ?na ?_); (case na => simp [appNames, ints, intss] <;> first | kernel_rfl | (refine ⟨?_, ?_⟩ <;> kernel_rfl)))
   | fail)
  refine cx_k (x1.next.box_one (T := h1.tick) (i := 0) x1.off (by simp)) ?_
  intro h2 x2
  have b2 := x2.bxs
  simp only [Bxs] at b2
  repeat' (first
   | with_reducible refine stp ?_
   | with_reducible refine k_blk_o rfl ?_
   | with_reducible refine k_seq_n ?_
   | ((try (conv => arg 1; simp [hT, hT2, b2, nm_ne, ltS])); with_reducible refine evp ?_)
   | ((with_reducible refine apn ?na ?_); (case na => simp [appNames, ints, intss] <;> first | kernel_rfl | (refine ⟨?_, ?_⟩ <;> kernel_rfl)))
   | fail)
  refine st_fresh rfl (toIntS g.Sizes hs.sizes) (.cons (dr_ints (fun h => h) _) .nil) ?_
  intro v h3 n o d f p t
  have x3 := x2.next.fresh o d f p t
  have q := own_one (ownV_ints (o true))
  have b3 := x3.bxs
  simp only [Bxs] at b3
  have x3' := x3.box_set (r' := ⟨0, 5, [[v, .int .i64 0, .int .i64 0, .int .i64 0, .nilsl]]⟩)
  repeat' (first
   | with_reducible refine stp ?_
   | with_reducible refine k_blk_o rfl ?_
   | ((try (conv => arg 1; simp [hT, hT2, b3, q.1, q.2.1, q.2.2, nm_ne, ltS])); with_reducible refine evp ?_)
   | ((with_reducible refine apn ?na ?_); (case na => simp [appNames, ints, intss] <;> first | kernel_rfl | (refine ⟨?_, ?_⟩ <;> kernel_rfl)))
   | fail)
  refine cx_k x3' ?_
  intro h4 x4
  have b4 := x4.bxs
  simp only [Bxs] at b4
  repeat' (first
   | with_reducible refine stp ?_
   | with_reducible refine k_blk_o rfl ?_
   | ((try (conv => arg 1; simp [hT, hT2, b4, q.1, q.2.1, q.2.2, nm_ne, ltS])); with_reducible refine evp ?_)
   | ((with_reducible refine apn ?na ?_); (case na => simp [appNames, ints, intss] <;> first | kernel_rfl | (refine ⟨?_, ?_⟩ <;> kernel_rfl)))
   | fail)
  refine cx_k (x4.next.box_set (r' := ⟨0, 5, [[v, .int .i64 g.Params, .int .i64 0, .int .i64 0, .nilsl]]⟩)) ?_
  intro h5 x5
  have b5 := x5.bxs
  simp only [Bxs] at b5
  repeat' (first
   | with_reducible refine stp ?_
   | with_reducible refine k_blk_o rfl ?_
   | ((try (conv => arg 1; simp [hT, hT2, b5, q.1, q.2.1, q.2.2, nm_ne, ltS])); with_reducible refine evp ?_)
   | ((with_reducible refine apn ?na ?_); (case na => simp [appNames, ints, intss] <;> first | kernel_rfl | (refine ⟨?_, ?_⟩ <;> kernel_rfl)))
   | fail)
  refine cx_k (x5.next.box_set (r' := ⟨0, 5, [[v, .int .i64 g.Params, .int .i64 g.Vars, .int .i64 0, .nilsl]]⟩)) ?_
  intro h6 x6
  have b6 := x6.bxs
  simp only [Bxs] at b6
  repeat' (first
   | with_reducible refine stp ?_
   | with_reducible refine k_blk_o rfl ?_
   | ((try (conv => arg 1; simp [hT, hT2, b6, q.1, q.2.1, q.2.2, nm_ne, ltS])); with_reducible refine evp ?_)
   | ((with_reducible refine apn ?na ?_); (case na => simp [appNames, ints, intss] <;> first | kernel_rfl | (refine ⟨?_, ?_⟩ <;> kernel_rfl)))
   | fail)
  refine cx_k (x6.next.box_set (r' := ⟨0, 5, [[v, .int .i64 g.Params, .int .i64 g.Vars, .int .i64 g.Slots, .nilsl]]⟩)) ?_
  intro h7 x7
  have b7 := x7.bxs
  simp only [Bxs] at b7
  repeat' (first
   | with_reducible refine stp ?_
   | with_reducible refine k_blk_o rfl ?_
   | with_reducible refine k_seq_n ?_
   | ((try (conv => arg 1; simp [hT, hT2, b7, q.1, q.2.1, q.2.2, nm_ne, ltS])); with_reducible refine evp ?_)
   | ((with_reducible refine apn ?na ?_); (case na => simp [appNames, ints, intss] <;> first | kernel_rfl | (refine ⟨?_, ?_⟩ <;> kernel_rfl)))
   | fail)
  refine st_freshw rfl (toBlockS g.Blocks hs.len hs.code) (.cons (dr_blocks (fun h => h) _) .nil) ?_
  intro v2 h8 n2 o2 d2 f2 p2 t2
  have x8 := x7.next.fresh o2 d2 f2 p2 t2
  have q2 := own_one' (own_of (o2 true) rfl)
  have b8 := x8.bxs
  simp only [Bxs] at b8
  repeat' (first
   | with_reducible refine stp ?_
   | with_reducible refine k_blk_o rfl ?_
   | with_reducible refine k_seq_n ?_
   | ((try (conv => arg 1; simp [hT, hT2, b8, q.1, q.2.1, q.2.2, q2.1, q2.2.1, q2.2.2, nm_ne, ltS])); with_reducible refine evp ?_)
   | ((with_reducible refine apn ?na ?_); (case na => simp [appNames, ints, intss] <;> first | kernel_rfl | (refine ⟨?_, ?_⟩ <;> kernel_rfl)))
   | fail)
  refine fin_own (os := []) (ns := n ++ n2) (bs := ?bs) (Cx.graph_join (g := g) (w1 := v) (w2 := v2) (n1 := n) (n2 := n2) (Cx.rot1 ?y))
  case y => exact Cx.to x8

theorem eqGraph (g : Graph) (hs : g.Small) : Pure Try.prog 15 [.agg (g.cells true), .agg (g.cells true)] (.bool true) := by
  intro T
  refine enter mixed MG4 Try.func15 rfl (by kernel_rfl) rfl ?_
  repeat' (first
   | with_reducible refine stp ?_
   | with_reducible refine k_blk_o rfl ?_
   | with_reducible refine k_seq_n ?_
   | ((try (conv => arg 1; simp [Graph.cells])); with_reducible refine evp ?_)
   | ((with_reducible refine apn ?na ?_); (case na => simp [appNames, ints, intss] <;> first | kernel_rfl | (refine ⟨?_, ?_⟩ <;> kernel_rfl)))
   | ((with_reducible refine tcl ?_); first | ((apply tg (eqIntS g.Sizes (by have := hs.sizes; omega))); (case e => rfl); (case d => (refine dq ?_); (repeat' (first | ((refine Da.mk ?_); first | exact dr_blocks (by simp) _ | assumption) | constructor)))) | ((apply tg (eqBlockS g.Blocks (by have := hs.len; omega) (fun x hx => by have := hs.code x hx; omega))); (case e => rfl); (case d => (refine dq ?_); (repeat' (first | ((refine Da.mk ?_); first | exact dr_blocks (by simp) _ | assumption) | constructor)))))
   | fail)
  exact .bool true
end Go.Proofs.Ytlmlkkkgcbpaoaa.AM

/-
  A block, a graph that is right: the program's.
-/
set_option linter.unusedVariables false
set_option linter.unusedSimpArgs false
set_option maxRecDepth 4000
namespace Go.Proofs.Ytlmlkkkgcbpaoaa.AM
open Go.RowKit

private def MG12 : FuncId → Mode := fun f => .tree

theorem Graph.Small.fit {g : Graph} (h : g.Small) : g.Fit := ⟨h.sizes, h.len, h.code⟩
theorem gsum_mono {α : Type} {f e : α → Nat} (h : ∀ a, f a ≤ e a) (l : List α) (i : Nat) : gsum f l i ≤ gsum e l i := by
  unfold gsum
  generalize List.take i l = k
  induction k with
  | nil => simp
  | cons a k ih =>
    have := h a
    simp
    omega
theorem codeLen_small {g : Graph} (h : g.Small) (i : Nat) : codeLen g.Blocks i ≤ 2 ^ 20 := by
  have h1 := codeLen_le g.Blocks i
  have h2 : codeLen g.Blocks g.Blocks.length ≤ gsum wtB g.Blocks g.Blocks.length := gsum_mono (fun b => wtIS_len) _ _
  have h3 := h.blocks
  unfold wtBS at h3
  omega

theorem notInstr (g : Graph) (x : Instr) (hs : 0 ≤ g.Slots ∧ g.Slots ≤ 1000) (hr : g.Sizes.length ≤ 2 ^ 20) : Pure Try.prog 114 [.agg x.cells, .tptr true (g.cells true)] (.bool (!instrOk g.Slots g.Sizes.length x)) := by
  intro T
  have I := isInstr g x hs hr
  refine enter mixed MG12 Try.func114 rfl (by kernel_rfl) rfl ?_
  repeat' (first
   | with_reducible refine stp ?_
   | with_reducible refine k_blk_o rfl ?_
   | with_reducible refine k_seq_n ?_
   | ((try (conv => arg 1; simp [Graph.cells, Instr.cells])); with_reducible refine evp ?_)
   | ((with_reducible refine apn ?na ?_); (case na => simp [appNames, ints, intss] <;> first | kernel_rfl | (refine ⟨?_, ?_⟩ <;> kernel_rfl)))
   | ((with_reducible refine tcl ?_); first | ((apply tg (I)); (case e => rfl); (case d => (refine dq ?_); (repeat' (first | ((refine Da.mk ?_); first | exact dr_blocks (by simp) _ | assumption) | constructor)))))
   | fail)
  exact .bool _

set_option maxHeartbeats 8000000 in
theorem isBlock (g : Graph) (b : Block) (hs : 0 ≤ g.Slots ∧ g.Slots ≤ 1000) (hr : g.Sizes.length ≤ 2 ^ 20) (hb : g.Blocks.length ≤ 2 ^ 20) (hc : b.Code.length ≤ 2 ^ 20) : Pure Try.prog 73 [.agg (g.cells true), .agg (b.cells true)] (.bool (blockOk g b)) := by
  intro T
  have w1 : IntKind.i64.wrap (g.Slots - 1) = g.Slots - 1 := wrap_id (by omega) (by omega)
  have w2 : IntKind.i64.wrap ((g.Blocks.length : Int) - 1) = (g.Blocks.length : Int) - 1 := wrap_id (by omega) (by omega)
  have hs0 : ¬ g.Slots < 0 := by omega
  have H := containsFuncW b.Code 114 [.tptr true (g.cells true)] (fun x => !instrOk g.Slots g.Sizes.length x) (fun x _ => notInstr g x hs hr) (fun _ => .cons (dr_tptr' (fun h => h) (drs_graph (fun h => h) g)) .nil) (by omega)
  have e1 : (b.Code.any fun x => !instrOk g.Slots g.Sizes.length x) = !(b.Code.all (instrOk g.Slots g.Sizes.length)) := by rw [List.all_eq_not_any_not, Bool.not_not]
  rw [e1] at H
  refine enter mixed MG12 Try.func73 rfl (by kernel_rfl) rfl ?_
  cases ha : b.Code.all (instrOk g.Slots g.Sizes.length) with
  | false =>
    rw [ha] at H
    repeat' (first
     | with_reducible refine stp ?_
     | with_reducible refine k_blk_o rfl ?_
     | with_reducible refine k_seq_n ?_
     | ((try (conv => arg 1; simp [Graph.cells, Block.cells])); with_reducible refine evp ?_)
     | ((with_reducible refine apn ?na ?_); (case na => simp [appNames, ints, intss] <;> first | kernel_rfl | (refine ⟨?_, ?_⟩ <;> kernel_rfl)))
     | ((with_reducible refine tcl ?_); first | ((apply tg (H)); (case e => rfl); (case d => (refine dq ?_); (repeat' (first | ((refine Da.mk ?_); first | exact dr_instrs (by simp) _ | exact dr_ptr0 (r := ⟨0, 5, [g.cells true]⟩) (by simp [Graph.cells]) rfl rfl (drs_graph (by simp) _) | assumption) | constructor)))))
     | fail)
    have e : blockOk g b = false := by unfold blockOk; rw [ha, Bool.false_and]
    rw [e]
    exact .bool _
  | true =>
    rw [ha] at H
    repeat' (first
     | with_reducible refine stp ?_
     | with_reducible refine k_blk_o rfl ?_
     | with_reducible refine k_seq_n ?_
     | ((try (conv => arg 1; simp [Graph.cells, Block.cells])); with_reducible refine evp ?_)
     | ((with_reducible refine apn ?na ?_); (case na => simp [appNames, ints, intss] <;> first | kernel_rfl | (refine ⟨?_, ?_⟩ <;> kernel_rfl)))
     | ((with_reducible refine tcl ?_); first | ((apply tg (H)); (case e => rfl); (case d => (refine dq ?_); (repeat' (first | ((refine Da.mk ?_); first | exact dr_instrs (by simp) _ | exact dr_ptr0 (r := ⟨0, 5, [g.cells true]⟩) (by simp [Graph.cells]) rfl rfl (drs_graph (by simp) _) | assumption) | constructor)))))
     | fail)
    have e : blockOk g b = (if b.Jump = 0 then inB b.To 0 ((g.Blocks.length : Int) - 1) && decide (b.A = 0) && decide (b.Else = 0)
        else if b.Jump = 1 then inB b.To 0 ((g.Blocks.length : Int) - 1) && inB b.Else 0 ((g.Blocks.length : Int) - 1) && inB b.A 0 (g.Slots - 1)
        else if b.Jump = 2 then inB b.A 0 (g.Slots - 1) && decide (b.To = 0) && decide (b.Else = 0)
        else false) := by unfold blockOk; rw [ha, Bool.true_and]
    rw [e]
    repeat (with_reducible first | refine stp ?_ | refine k_seq_n ?_)
    refine st_draw 27 (fun _ => false) (by kernel_rfl) ?_
    simp only [List.take_succ_cons, List.take_zero, List.drop_succ_cons, List.drop_zero, List.take_nil, List.drop_nil]
    repeat' (first
      | (with_reducible first | refine st_seq ?_ | refine st_reg ?_ | refine st_block ?_ | refine st_nil ?_ | refine st_skip ?_ | refine st_ret ?_ | refine st_exit ?_ | refine fr_nil ?_ | refine k_seq_n ?_ | refine k_seq_r ?_ | refine k_seq_e ?_ | refine k_blk_n ?_ | refine k_blk_r ?_ | refine k_blk_s ?_ | refine k_blk_o rfl ?_ | refine k_fn_r ?_ | refine k_fn_n ?_ | refine k_lp_r ?_ | refine k_lp_e ?_)
      | ((with_reducible first | refine st_move ?_ | refine st_asg ?_ | refine st_c ?_ | refine fr_c ?_); (try (conv => arg 1; simp [w1, w2, hs0])); (with_reducible refine at_mk ?_))
      | ((with_reducible first | refine st_g ?_ | refine fr_g ?_); (try (conv => arg 1; simp [w1, w2, hs0])); (with_reducible refine at_mk ?_); with_reducible first | refine gd_tt ?_ | refine gd_ff ?_ | refine gd_tf ?_ | refine gd_ft ?_ | refine gd_no ?_)
      | ((with_reducible first | refine st_gm ?_ | refine fr_gm ?_); (try (conv => arg 1; simp [w1, w2, hs0])); (with_reducible refine at_mk ?_); (with_reducible first | refine gm_bool ?_ | refine gm_gv ?_); refine ⟨_, (by intro hc; first | ((try simp only [Bool.and_eq_true] at hc); (try (conv => lhs; simp [hc, w1, w2, hs0])); first | done | exact rfl) | ((try simp [gq] at hc); (try (conv => lhs; simp [gq, hc, w1, w2, hs0])); first | done | exact rfl)), ?_⟩)
      | ((with_reducible refine st_gmc ?_); (try (conv => arg 1; simp [w1, w2, hs0])); (with_reducible refine at_mk ?_); (with_reducible first | refine gm_bool ?_ | refine gm_gv ?_); refine ⟨_, _, _, (by intro hc; first | ((try simp only [Bool.and_eq_true] at hc); (try (conv => lhs; simp [hc, w1, w2, hs0])); first | done | exact rfl) | ((try simp [gq] at hc); (try (conv => lhs; simp [gq, hc, w1, w2, hs0])); first | done | exact rfl)), rfl, in_ _ _ _, (by intro hc; (try simp at hc); (repeat' (first | exact DRs.nil | refine DRs.cons ?_ ?_ | exact .int _ _ | exact .bool _ | exact .str _ | exact .nilsl | exact .nilp | exact dr_ints (by simp) _ | exact dr_intss (by simp) _ | refine dr_agg ?_ | refine dr_fn ?_ | refine dr_tptr' (by simp) ?_ | assumption))), ?_⟩)
      | ((with_reducible refine fr_gmc ?_); (try (conv => arg 1; simp [w1, w2, hs0])); (with_reducible refine at_mk ?_); (with_reducible first | refine gm_bool ?_ | refine gm_gv ?_); refine ⟨_, _, _, (by intro hc; first | ((try simp only [Bool.and_eq_true] at hc); (try (conv => lhs; simp [hc, w1, w2, hs0])); first | done | exact rfl) | ((try simp [gq] at hc); (try (conv => lhs; simp [gq, hc, w1, w2, hs0])); first | done | exact rfl)), in_ _ _ _, (by intro hc; (try simp at hc); (repeat' (first | exact DRs.nil | refine DRs.cons ?_ ?_ | exact .int _ _ | exact .bool _ | exact .str _ | exact .nilsl | exact .nilp | exact dr_ints (by simp) _ | exact dr_intss (by simp) _ | refine dr_agg ?_ | refine dr_fn ?_ | refine dr_tptr' (by simp) ?_ | assumption))), ?_⟩)
      | ((with_reducible refine st_gmv ?_); (try (conv => arg 1; simp [w1, w2, hs0])); (with_reducible refine at_mk ?_); (with_reducible first | refine gm_bool ?_ | refine gm_gv ?_); refine ⟨_, _, _, _, _, (by intro hc; first | ((try simp only [Bool.and_eq_true] at hc); (try (conv => lhs; simp [hc, w1, w2, hs0])); first | done | exact rfl) | ((try simp [gq] at hc); (try (conv => lhs; simp [gq, hc, w1, w2, hs0])); first | done | exact rfl)), (by intro hc; first | ((try simp only [Bool.and_eq_true] at hc); (try (conv => lhs; simp [hc, w1, w2, hs0])); first | done | exact rfl) | ((try simp [gq] at hc); (try (conv => lhs; simp [gq, hc, w1, w2, hs0])); first | done | exact rfl)), rfl, in_ _ _ _, (by intro hc; (try simp at hc); (repeat' (first | exact DRs.nil | refine DRs.cons ?_ ?_ | exact .int _ _ | exact .bool _ | exact .str _ | exact .nilsl | exact .nilp | exact dr_ints (by simp) _ | exact dr_intss (by simp) _ | refine dr_agg ?_ | refine dr_fn ?_ | refine dr_tptr' (by simp) ?_ | assumption))), ?_⟩)
      | ((with_reducible refine st_m rfl ?_); (try (conv => arg 1; simp [w1, w2, hs0])); (with_reducible refine ev2_some ?_))
      | ((with_reducible refine fr_n rfl ?_); (try (conv => arg 1; simp [w1, w2, hs0])); (with_reducible refine evn_some ?_))
      | ((with_reducible first | refine st_cv ?_ | refine fr_cv ?_); (try (conv => arg 1; simp [w1, w2, hs0])); (with_reducible refine at_mk ?_); (with_reducible refine fn_mk ?_); (try (conv => arg 1; simp [w1, w2, hs0])); (with_reducible refine at_mk ?_))
      | ((with_reducible refine fr_a ?_); (try (conv => arg 1; simp [w1, w2, hs0])); (with_reducible refine at_mk ?_); (try (conv => arg 1; simp [w1, w2, hs0])); (with_reducible refine at_mk ?_); refine ⟨?names, ?_⟩; (case names => (simp [appNames, ints, intss] <;> first | kernel_rfl | (refine ⟨?_, ?_⟩ <;> kernel_rfl))); (try (conv => arg 1; simp [w1, w2, hs0])); (with_reducible refine ev2_some ?_))
      | ((with_reducible first | refine st_q ?_ | refine fr_q ?_ | refine st_res ?_); (try (conv => arg 1; simp [w1, w2, hs0])); (with_reducible refine ev_some ?_))
      | ((with_reducible refine st_if ?_); (try (conv => arg 1; simp [w1, w2, hs0])); (with_reducible refine at_mk ?_); with_reducible first | refine br_t ?_ | refine br_f ?_ | (refine br_b (fun hb => ?_) (fun hb => ?_) <;> ((try simp only [Bool.not_eq_eq_eq_not, Bool.not_true, Bool.not_false] at hb); (try simp only [hb]); (try simp at hb))))
      | ((with_reducible refine ct_id ?_); refine st_tree rfl (in_ _ _ _) (by (repeat' (first | exact DRs.nil | refine DRs.cons ?_ ?_ | exact .int _ _ | exact .bool _ | exact .str _ | exact .nilsl | exact .nilp | exact dr_ints (by simp) _ | exact dr_intss (by simp) _ | refine dr_agg ?_ | refine dr_fn ?_ | refine dr_tptr' (by simp) ?_ | assumption))) ?_)
      | ((with_reducible refine tw_id ?_); refine treeW_pure (in_ _ _ _) (by (repeat' (first | exact DRs.nil | refine DRs.cons ?_ ?_ | exact .int _ _ | exact .bool _ | exact .str _ | exact .nilsl | exact .nilp | exact dr_ints (by simp) _ | exact dr_intss (by simp) _ | refine dr_agg ?_ | refine dr_fn ?_ | refine dr_tptr' (by simp) ?_ | assumption))) ?_))
    all_goals refine dr_bool ?_
    all_goals rw [Bool.eq_iff_iff]
    all_goals (try simp_all [inB])
    all_goals grind

theorem isSize (n : Int) : Pure Try.prog 111 [.int .i64 n] (.bool (!inB n 1 16)) := by
  intro T
  refine enter mixed MG12 Try.func111 rfl (by kernel_rfl) rfl ?_
  repeat' (first
   | with_reducible refine stp ?_
   | with_reducible refine k_blk_o rfl ?_
   | with_reducible refine k_seq_n ?_
   | ((try (conv => arg 1; simp)); with_reducible refine evp ?_)
   | ((with_reducible refine apn ?na ?_); (case na => simp [appNames, ints, intss] <;> first | kernel_rfl | (refine ⟨?_, ?_⟩ <;> kernel_rfl)))
   | ((with_reducible refine tcl ?_); first | ((apply tg (in_ _ _ _)); (case e => rfl); (case d => (refine dq ?_); (repeat' (first | ((refine Da.mk ?_); first | assumption) | constructor)))))
   | fail)
  exact .bool _
theorem areStmts0 (sizes : List Int) (P V : Int) : Pure Try.prog 112 [.agg [ints true sizes, .int .i64 P, .int .i64 V, .tr true []], .tr true [], .int .i64 0] (.bool true) := by
  intro T
  refine enter mixed MG12 Try.func112 rfl (by kernel_rfl) rfl ?_
  repeat' (first
    | (with_reducible first | refine st_seq ?_ | refine st_reg ?_ | refine st_block ?_ | refine st_nil ?_ | refine st_skip ?_ | refine st_ret ?_ | refine st_exit ?_ | refine fr_nil ?_ | refine k_seq_n ?_ | refine k_seq_r ?_ | refine k_seq_e ?_ | refine k_blk_n ?_ | refine k_blk_r ?_ | refine k_blk_s ?_ | refine k_blk_o rfl ?_ | refine k_fn_r ?_ | refine k_fn_n ?_ | refine k_lp_r ?_ | refine k_lp_e ?_)
    | ((with_reducible first | refine st_move ?_ | refine st_asg ?_ | refine st_c ?_ | refine fr_c ?_); (try (conv => arg 1; simp)); (with_reducible refine at_mk ?_))
    | ((with_reducible first | refine st_g ?_ | refine fr_g ?_); (try (conv => arg 1; simp)); (with_reducible refine at_mk ?_); with_reducible first | refine gd_tt ?_ | refine gd_ff ?_ | refine gd_tf ?_ | refine gd_ft ?_ | refine gd_no ?_)
    | ((with_reducible first | refine st_gm ?_ | refine fr_gm ?_); (try (conv => arg 1; simp)); (with_reducible refine at_mk ?_); (with_reducible first | refine gm_bool ?_ | refine gm_gv ?_); refine ⟨_, (by intro hc; first | ((try simp only [Bool.and_eq_true] at hc); (try (conv => lhs; simp [hc])); first | done | exact rfl) | ((try simp [gq] at hc); (try (conv => lhs; simp [gq, hc])); first | done | exact rfl)), ?_⟩)
    | ((with_reducible refine st_m rfl ?_); (try (conv => arg 1; simp)); (with_reducible refine ev2_some ?_))
    | ((with_reducible refine fr_n rfl ?_); (try (conv => arg 1; simp)); (with_reducible refine evn_some ?_))
    | ((with_reducible first | refine st_cv ?_ | refine fr_cv ?_); (try (conv => arg 1; simp)); (with_reducible refine at_mk ?_); (with_reducible refine fn_mk ?_); (try (conv => arg 1; simp)); (with_reducible refine at_mk ?_))
    | ((with_reducible refine fr_a ?_); (try (conv => arg 1; simp)); (with_reducible refine at_mk ?_); (try (conv => arg 1; simp)); (with_reducible refine at_mk ?_); refine ⟨?names, ?_⟩; (case names => (simp [appNames, ints, intss] <;> first | kernel_rfl | (refine ⟨?_, ?_⟩ <;> kernel_rfl))); (try (conv => arg 1; simp)); (with_reducible refine ev2_some ?_))
    | ((with_reducible first | refine st_q ?_ | refine fr_q ?_ | refine st_res ?_); (try (conv => arg 1; simp)); (with_reducible refine ev_some ?_))
    | ((with_reducible refine st_if ?_); (try (conv => arg 1; simp)); (with_reducible refine at_mk ?_); with_reducible first | refine br_t ?_ | refine br_f ?_))
  refine st_loop (fun (i : Nat) σ h => σ 24 = .int .i64 0 ∧ σ 25 = .int .i64 0) (fun i => 0) 0 ?init ?step
  case init =>
    simp
  case step =>
    rintro i σ h ⟨h0, h1⟩
    repeat' (first
     | with_reducible refine stp ?_
     | with_reducible refine k_blk_o rfl ?_
     | with_reducible refine k_seq_n ?_
     | ((try (conv => arg 1; simp [h0, h1])); with_reducible refine evp ?_)
     | ((with_reducible refine apn ?na ?_); (case na => simp [appNames, ints, intss] <;> first | kernel_rfl | (refine ⟨?_, ?_⟩ <;> kernel_rfl)))
     | fail)
    exact .bool _
def progOk (sizes : List Int) (P V : Int) : Bool := (inB sizes.length 1 4 && sizes.all fun n => inB n 1 16) && inB P 0 (if V < 6 then V else 6) && decide (V ≤ 20)
theorem isProgram0 (sizes : List Int) (P V : Int) (hl : sizes.length ≤ 2 ^ 62) : Pure Try.prog 71 [.agg [ints true sizes, .int .i64 P, .int .i64 V, .tr true []]] (.bool (progOk sizes P V)) := by
  intro T
  have hc := containsFuncI sizes 111 [] (fun n => !inB n 1 16) (fun w _ => isSize w) (fun _ => .nil) hl
  have hA := areStmts0 sizes P V
  refine enter mixed MG12 Try.func71 rfl (by kernel_rfl) rfl ?_
  repeat' (first
    | (with_reducible first | refine st_seq ?_ | refine st_reg ?_ | refine st_block ?_ | refine st_nil ?_ | refine st_skip ?_ | refine st_ret ?_ | refine st_exit ?_ | refine fr_nil ?_ | refine k_seq_n ?_ | refine k_seq_r ?_ | refine k_seq_e ?_ | refine k_blk_n ?_ | refine k_blk_r ?_ | refine k_blk_s ?_ | refine k_blk_o rfl ?_ | refine k_fn_r ?_ | refine k_fn_n ?_ | refine k_lp_r ?_ | refine k_lp_e ?_)
    | ((with_reducible first | refine st_move ?_ | refine st_asg ?_ | refine st_c ?_ | refine fr_c ?_); (try (conv => arg 1; simp [mmA])); (with_reducible refine at_mk ?_))
    | ((with_reducible first | refine st_g ?_ | refine fr_g ?_); (try (conv => arg 1; simp [mmA])); (with_reducible refine at_mk ?_); with_reducible first | refine gd_tt ?_ | refine gd_ff ?_ | refine gd_tf ?_ | refine gd_ft ?_ | refine gd_no ?_)
    | ((with_reducible first | refine st_gm ?_ | refine fr_gm ?_); (try (conv => arg 1; simp [mmA])); (with_reducible refine at_mk ?_); (with_reducible first | refine gm_bool ?_ | refine gm_gv ?_); refine ⟨_, (by intro hc; first | ((try simp only [Bool.and_eq_true] at hc); (try (conv => lhs; simp [hc, mmA])); first | done | exact rfl) | ((try simp [gq] at hc); (try (conv => lhs; simp [gq, hc, mmA])); first | done | exact rfl)), ?_⟩)
    | ((with_reducible refine st_gmc ?_); (try (conv => arg 1; simp [mmA])); (with_reducible refine at_mk ?_); (with_reducible first | refine gm_bool ?_ | refine gm_gv ?_); refine ⟨_, _, _, (by intro hc; first | ((try simp only [Bool.and_eq_true] at hc); (try (conv => lhs; simp [hc, mmA])); first | done | exact rfl) | ((try simp [gq] at hc); (try (conv => lhs; simp [gq, hc, mmA])); first | done | exact rfl)), rfl, hc, (by intro hc; (try simp at hc); (repeat' (first | exact DRs.nil | refine DRs.cons ?_ ?_ | exact .int _ _ | exact .bool _ | exact .str _ | exact .nilsl | exact .nilp | exact dr_ints (by simp) _ | exact dr_intss (by simp) _ | refine dr_agg ?_ | refine dr_fn ?_ | refine dr_tptr' (by simp) ?_ | assumption | exact .tr0 _))), ?_⟩)
    | ((with_reducible refine fr_gmc ?_); (try (conv => arg 1; simp [mmA])); (with_reducible refine at_mk ?_); (with_reducible first | refine gm_bool ?_ | refine gm_gv ?_); refine ⟨_, _, _, (by intro hc; first | ((try simp only [Bool.and_eq_true] at hc); (try (conv => lhs; simp [hc, mmA])); first | done | exact rfl) | ((try simp [gq] at hc); (try (conv => lhs; simp [gq, hc, mmA])); first | done | exact rfl)), hc, (by intro hc; (try simp at hc); (repeat' (first | exact DRs.nil | refine DRs.cons ?_ ?_ | exact .int _ _ | exact .bool _ | exact .str _ | exact .nilsl | exact .nilp | exact dr_ints (by simp) _ | exact dr_intss (by simp) _ | refine dr_agg ?_ | refine dr_fn ?_ | refine dr_tptr' (by simp) ?_ | assumption | exact .tr0 _))), ?_⟩)
    | ((with_reducible refine st_gmv ?_); (try (conv => arg 1; simp [mmA])); (with_reducible refine at_mk ?_); (with_reducible first | refine gm_bool ?_ | refine gm_gv ?_); refine ⟨_, _, _, _, _, (by intro hc; first | ((try simp only [Bool.and_eq_true] at hc); (try (conv => lhs; simp [hc, mmA])); first | done | exact rfl) | ((try simp [gq] at hc); (try (conv => lhs; simp [gq, hc, mmA])); first | done | exact rfl)), (by intro hc; first | ((try simp only [Bool.and_eq_true] at hc); (try (conv => lhs; simp [hc, mmA])); first | done | exact rfl) | ((try simp [gq] at hc); (try (conv => lhs; simp [gq, hc, mmA])); first | done | exact rfl)), rfl, hc, (by intro hc; (try simp at hc); (repeat' (first | exact DRs.nil | refine DRs.cons ?_ ?_ | exact .int _ _ | exact .bool _ | exact .str _ | exact .nilsl | exact .nilp | exact dr_ints (by simp) _ | exact dr_intss (by simp) _ | refine dr_agg ?_ | refine dr_fn ?_ | refine dr_tptr' (by simp) ?_ | assumption | exact .tr0 _))), ?_⟩)
    | ((with_reducible refine st_gmc ?_); (try (conv => arg 1; simp [mmA])); (with_reducible refine at_mk ?_); (with_reducible first | refine gm_bool ?_ | refine gm_gv ?_); refine ⟨_, _, _, (by intro hc; first | ((try simp only [Bool.and_eq_true] at hc); (try (conv => lhs; simp [hc, mmA])); first | done | exact rfl) | ((try simp [gq] at hc); (try (conv => lhs; simp [gq, hc, mmA])); first | done | exact rfl)), rfl, in_ _ _ _, (by intro hc; (try simp at hc); (repeat' (first | exact DRs.nil | refine DRs.cons ?_ ?_ | exact .int _ _ | exact .bool _ | exact .str _ | exact .nilsl | exact .nilp | exact dr_ints (by simp) _ | exact dr_intss (by simp) _ | refine dr_agg ?_ | refine dr_fn ?_ | refine dr_tptr' (by simp) ?_ | assumption | exact .tr0 _))), ?_⟩)
    | ((with_reducible refine fr_gmc ?_); (try (conv => arg 1; simp [mmA])); (with_reducible refine at_mk ?_); (with_reducible first | refine gm_bool ?_ | refine gm_gv ?_); refine ⟨_, _, _, (by intro hc; first | ((try simp only [Bool.and_eq_true] at hc); (try (conv => lhs; simp [hc, mmA])); first | done | exact rfl) | ((try simp [gq] at hc); (try (conv => lhs; simp [gq, hc, mmA])); first | done | exact rfl)), in_ _ _ _, (by intro hc; (try simp at hc); (repeat' (first | exact DRs.nil | refine DRs.cons ?_ ?_ | exact .int _ _ | exact .bool _ | exact .str _ | exact .nilsl | exact .nilp | exact dr_ints (by simp) _ | exact dr_intss (by simp) _ | refine dr_agg ?_ | refine dr_fn ?_ | refine dr_tptr' (by simp) ?_ | assumption | exact .tr0 _))), ?_⟩)
    | ((with_reducible refine st_gmv ?_); (try (conv => arg 1; simp [mmA])); (with_reducible refine at_mk ?_); (with_reducible first | refine gm_bool ?_ | refine gm_gv ?_); refine ⟨_, _, _, _, _, (by intro hc; first | ((try simp only [Bool.and_eq_true] at hc); (try (conv => lhs; simp [hc, mmA])); first | done | exact rfl) | ((try simp [gq] at hc); (try (conv => lhs; simp [gq, hc, mmA])); first | done | exact rfl)), (by intro hc; first | ((try simp only [Bool.and_eq_true] at hc); (try (conv => lhs; simp [hc, mmA])); first | done | exact rfl) | ((try simp [gq] at hc); (try (conv => lhs; simp [gq, hc, mmA])); first | done | exact rfl)), rfl, in_ _ _ _, (by intro hc; (try simp at hc); (repeat' (first | exact DRs.nil | refine DRs.cons ?_ ?_ | exact .int _ _ | exact .bool _ | exact .str _ | exact .nilsl | exact .nilp | exact dr_ints (by simp) _ | exact dr_intss (by simp) _ | refine dr_agg ?_ | refine dr_fn ?_ | refine dr_tptr' (by simp) ?_ | assumption | exact .tr0 _))), ?_⟩)
    | ((with_reducible refine st_gmc ?_); (try (conv => arg 1; simp [mmA])); (with_reducible refine at_mk ?_); (with_reducible first | refine gm_bool ?_ | refine gm_gv ?_); refine ⟨_, _, _, (by intro hc; first | ((try simp only [Bool.and_eq_true] at hc); (try (conv => lhs; simp [hc, mmA])); first | done | exact rfl) | ((try simp [gq] at hc); (try (conv => lhs; simp [gq, hc, mmA])); first | done | exact rfl)), rfl, hA, (by intro hc; (try simp at hc); (repeat' (first | exact DRs.nil | refine DRs.cons ?_ ?_ | exact .int _ _ | exact .bool _ | exact .str _ | exact .nilsl | exact .nilp | exact dr_ints (by simp) _ | exact dr_intss (by simp) _ | refine dr_agg ?_ | refine dr_fn ?_ | refine dr_tptr' (by simp) ?_ | assumption | exact .tr0 _))), ?_⟩)
    | ((with_reducible refine fr_gmc ?_); (try (conv => arg 1; simp [mmA])); (with_reducible refine at_mk ?_); (with_reducible first | refine gm_bool ?_ | refine gm_gv ?_); refine ⟨_, _, _, (by intro hc; first | ((try simp only [Bool.and_eq_true] at hc); (try (conv => lhs; simp [hc, mmA])); first | done | exact rfl) | ((try simp [gq] at hc); (try (conv => lhs; simp [gq, hc, mmA])); first | done | exact rfl)), hA, (by intro hc; (try simp at hc); (repeat' (first | exact DRs.nil | refine DRs.cons ?_ ?_ | exact .int _ _ | exact .bool _ | exact .str _ | exact .nilsl | exact .nilp | exact dr_ints (by simp) _ | exact dr_intss (by simp) _ | refine dr_agg ?_ | refine dr_fn ?_ | refine dr_tptr' (by simp) ?_ | assumption | exact .tr0 _))), ?_⟩)
    | ((with_reducible refine st_gmv ?_); (try (conv => arg 1; simp [mmA])); (with_reducible refine at_mk ?_); (with_reducible first | refine gm_bool ?_ | refine gm_gv ?_); refine ⟨_, _, _, _, _, (by intro hc; first | ((try simp only [Bool.and_eq_true] at hc); (try (conv => lhs; simp [hc, mmA])); first | done | exact rfl) | ((try simp [gq] at hc); (try (conv => lhs; simp [gq, hc, mmA])); first | done | exact rfl)), (by intro hc; first | ((try simp only [Bool.and_eq_true] at hc); (try (conv => lhs; simp [hc, mmA])); first | done | exact rfl) | ((try simp [gq] at hc); (try (conv => lhs; simp [gq, hc, mmA])); first | done | exact rfl)), rfl, hA, (by intro hc; (try simp at hc); (repeat' (first | exact DRs.nil | refine DRs.cons ?_ ?_ | exact .int _ _ | exact .bool _ | exact .str _ | exact .nilsl | exact .nilp | exact dr_ints (by simp) _ | exact dr_intss (by simp) _ | refine dr_agg ?_ | refine dr_fn ?_ | refine dr_tptr' (by simp) ?_ | assumption | exact .tr0 _))), ?_⟩)
    | ((with_reducible refine st_m rfl ?_); (try (conv => arg 1; simp [mmA])); (with_reducible refine ev2_some ?_))
    | ((with_reducible refine fr_n rfl ?_); (try (conv => arg 1; simp [mmA])); (with_reducible refine evn_some ?_))
    | ((with_reducible first | refine st_cv ?_ | refine fr_cv ?_); (try (conv => arg 1; simp [mmA])); (with_reducible refine at_mk ?_); (with_reducible refine fn_mk ?_); (try (conv => arg 1; simp [mmA])); (with_reducible refine at_mk ?_))
    | ((with_reducible refine fr_a ?_); (try (conv => arg 1; simp [mmA])); (with_reducible refine at_mk ?_); (try (conv => arg 1; simp [mmA])); (with_reducible refine at_mk ?_); refine ⟨?names, ?_⟩; (case names => (simp [appNames, ints, intss] <;> first | kernel_rfl | (refine ⟨?_, ?_⟩ <;> kernel_rfl))); (try (conv => arg 1; simp [mmA])); (with_reducible refine ev2_some ?_))
    | ((with_reducible first | refine st_q ?_ | refine fr_q ?_ | refine st_res ?_); (try (conv => arg 1; simp [mmA])); (with_reducible refine ev_some ?_))
    | ((with_reducible refine st_if ?_); (try (conv => arg 1; simp [mmA])); (with_reducible refine at_mk ?_); with_reducible first | refine br_t ?_ | refine br_f ?_)
    | ((with_reducible refine ct_id ?_); refine st_tree rfl (hc) (by (repeat' (first | exact DRs.nil | refine DRs.cons ?_ ?_ | exact .int _ _ | exact .bool _ | exact .str _ | exact .nilsl | exact .nilp | exact dr_ints (by simp) _ | exact dr_intss (by simp) _ | refine dr_agg ?_ | refine dr_fn ?_ | refine dr_tptr' (by simp) ?_ | assumption | exact .tr0 _))) ?_)
    | ((with_reducible refine tw_id ?_); refine treeW_pure (hc) (by (repeat' (first | exact DRs.nil | refine DRs.cons ?_ ?_ | exact .int _ _ | exact .bool _ | exact .str _ | exact .nilsl | exact .nilp | exact dr_ints (by simp) _ | exact dr_intss (by simp) _ | refine dr_agg ?_ | refine dr_fn ?_ | refine dr_tptr' (by simp) ?_ | assumption | exact .tr0 _))) ?_)
    | ((with_reducible refine ct_id ?_); refine st_tree rfl (in_ _ _ _) (by (repeat' (first | exact DRs.nil | refine DRs.cons ?_ ?_ | exact .int _ _ | exact .bool _ | exact .str _ | exact .nilsl | exact .nilp | exact dr_ints (by simp) _ | exact dr_intss (by simp) _ | refine dr_agg ?_ | refine dr_fn ?_ | refine dr_tptr' (by simp) ?_ | assumption | exact .tr0 _))) ?_)
    | ((with_reducible refine tw_id ?_); refine treeW_pure (in_ _ _ _) (by (repeat' (first | exact DRs.nil | refine DRs.cons ?_ ?_ | exact .int _ _ | exact .bool _ | exact .str _ | exact .nilsl | exact .nilp | exact dr_ints (by simp) _ | exact dr_intss (by simp) _ | refine dr_agg ?_ | refine dr_fn ?_ | refine dr_tptr' (by simp) ?_ | assumption | exact .tr0 _))) ?_)
    | ((with_reducible refine ct_id ?_); refine st_tree rfl (hA) (by (repeat' (first | exact DRs.nil | refine DRs.cons ?_ ?_ | exact .int _ _ | exact .bool _ | exact .str _ | exact .nilsl | exact .nilp | exact dr_ints (by simp) _ | exact dr_intss (by simp) _ | refine dr_agg ?_ | refine dr_fn ?_ | refine dr_tptr' (by simp) ?_ | assumption | exact .tr0 _))) ?_)
    | ((with_reducible refine tw_id ?_); refine treeW_pure (hA) (by (repeat' (first | exact DRs.nil | refine DRs.cons ?_ ?_ | exact .int _ _ | exact .bool _ | exact .str _ | exact .nilsl | exact .nilp | exact dr_ints (by simp) _ | exact dr_intss (by simp) _ | refine dr_agg ?_ | refine dr_fn ?_ | refine dr_tptr' (by simp) ?_ | assumption | exact .tr0 _))) ?_))
  refine dr_bool ?_
  have e1 : (sizes.all fun n => inB n 1 16) = !sizes.any fun n => !inB n 1 16 := by rw [List.all_eq_not_any_not]
  unfold progOk
  rw [e1]
theorem progOk_iff {g : Graph} : (progOk g.Sizes g.Params g.Vars && inB g.Slots g.Vars 1000 && inB g.Blocks.length 1 300) = headOk g := by
  rw [Bool.eq_iff_iff]
  simp only [progOk, headOk, inB, Bool.and_eq_true, decide_eq_true_eq]
  constructor
  · rintro ⟨⟨⟨⟨⟨h1, h2⟩, h3⟩, h4⟩, h5⟩, h6⟩
    refine ⟨⟨⟨⟨⟨⟨h1, h2⟩, ?_⟩, ?_⟩, h4⟩, h5⟩, h6⟩
    · split at h3 <;> omega
    · split at h3 <;> omega
  · rintro ⟨⟨⟨⟨⟨⟨h1, h2⟩, h3⟩, h3'⟩, h4⟩, h5⟩, h6⟩
    refine ⟨⟨⟨⟨⟨h1, h2⟩, ?_⟩, h4⟩, h5⟩, h6⟩
    split <;> omega

set_option maxHeartbeats 8000000 in
theorem isGraph (g : Graph) (d : g.Small) : Pure Try.prog 40 [.agg (g.cells true)] (.bool (graphOk g)) := by
  intro T
  have d1 := d.sizes
  have d2 := d.len
  have hP := isProgram0 g.Sizes g.Params g.Vars (by omega)
  have hh := progOk_iff (g := g)
  refine enter mixed MG12 Try.func40 rfl (by kernel_rfl) rfl ?_
  repeat' (first
   | with_reducible refine stp ?_
   | with_reducible refine k_blk_o rfl ?_
   | ((try (conv => arg 1; simp [Graph.cells])); with_reducible refine evp ?_)
   | ((with_reducible refine apn ?na ?_); (case na => simp [appNames, ints, intss] <;> first | kernel_rfl | (refine ⟨?_, ?_⟩ <;> kernel_rfl)))
   | fail)
  refine cx_k (Cx.mt.next.box_one (T := T) (i := 0) Cx.mt.off (by simp)) ?_
  intro h1 x1
  have b1 := x1.bxs
  simp only [Bxs] at b1
  repeat' (first
    | (with_reducible first | refine st_seq ?_ | refine st_reg ?_ | refine st_block ?_ | refine st_nil ?_ | refine st_skip ?_ | refine st_ret ?_ | refine st_exit ?_ | refine fr_nil ?_ | refine k_seq_n ?_ | refine k_seq_r ?_ | refine k_seq_e ?_ | refine k_blk_n ?_ | refine k_blk_r ?_ | refine k_blk_s ?_ | refine k_blk_o rfl ?_ | refine k_fn_r ?_ | refine k_fn_n ?_ | refine k_lp_r ?_ | refine k_lp_e ?_)
    | ((with_reducible first | refine st_move ?_ | refine st_asg ?_ | refine st_c ?_ | refine fr_c ?_); (try (conv => arg 1; simp [b1])); (with_reducible refine at_mk ?_))
    | ((with_reducible first | refine st_g ?_ | refine fr_g ?_); (try (conv => arg 1; simp [b1])); (with_reducible refine at_mk ?_); with_reducible first | refine gd_tt ?_ | refine gd_ff ?_ | refine gd_tf ?_ | refine gd_ft ?_ | refine gd_no ?_)
    | ((with_reducible first | refine st_gm ?_ | refine fr_gm ?_); (try (conv => arg 1; simp [b1])); (with_reducible refine at_mk ?_); (with_reducible first | refine gm_bool ?_ | refine gm_gv ?_); refine ⟨_, (by intro hc; first | ((try simp only [Bool.and_eq_true] at hc); (try (conv => lhs; simp [hc, b1])); first | done | exact rfl) | ((try simp [gq] at hc); (try (conv => lhs; simp [gq, hc, b1])); first | done | exact rfl)), ?_⟩)
    | ((with_reducible refine st_gmc ?_); (try (conv => arg 1; simp [b1])); (with_reducible refine at_mk ?_); (with_reducible first | refine gm_bool ?_ | refine gm_gv ?_); refine ⟨_, _, _, (by intro hc; first | ((try simp only [Bool.and_eq_true] at hc); (try (conv => lhs; simp [hc, b1])); first | done | exact rfl) | ((try simp [gq] at hc); (try (conv => lhs; simp [gq, hc, b1])); first | done | exact rfl)), rfl, hP, (by intro hc; (try simp at hc); (repeat' (first | exact DRs.nil | refine DRs.cons ?_ ?_ | exact .int _ _ | exact .bool _ | exact .str _ | exact .nilsl | exact .nilp | exact dr_ints (by simp) _ | exact dr_intss (by simp) _ | refine dr_agg ?_ | refine dr_fn ?_ | refine dr_tptr' (by simp) ?_ | assumption | exact .nilsl))), ?_⟩)
    | ((with_reducible refine fr_gmc ?_); (try (conv => arg 1; simp [b1])); (with_reducible refine at_mk ?_); (with_reducible first | refine gm_bool ?_ | refine gm_gv ?_); refine ⟨_, _, _, (by intro hc; first | ((try simp only [Bool.and_eq_true] at hc); (try (conv => lhs; simp [hc, b1])); first | done | exact rfl) | ((try simp [gq] at hc); (try (conv => lhs; simp [gq, hc, b1])); first | done | exact rfl)), hP, (by intro hc; (try simp at hc); (repeat' (first | exact DRs.nil | refine DRs.cons ?_ ?_ | exact .int _ _ | exact .bool _ | exact .str _ | exact .nilsl | exact .nilp | exact dr_ints (by simp) _ | exact dr_intss (by simp) _ | refine dr_agg ?_ | refine dr_fn ?_ | refine dr_tptr' (by simp) ?_ | assumption | exact .nilsl))), ?_⟩)
    | ((with_reducible refine st_gmv ?_); (try (conv => arg 1; simp [b1])); (with_reducible refine at_mk ?_); (with_reducible first | refine gm_bool ?_ | refine gm_gv ?_); refine ⟨_, _, _, _, _, (by intro hc; first | ((try simp only [Bool.and_eq_true] at hc); (try (conv => lhs; simp [hc, b1])); first | done | exact rfl) | ((try simp [gq] at hc); (try (conv => lhs; simp [gq, hc, b1])); first | done | exact rfl)), (by intro hc; first | ((try simp only [Bool.and_eq_true] at hc); (try (conv => lhs; simp [hc, b1])); first | done | exact rfl) | ((try simp [gq] at hc); (try (conv => lhs; simp [gq, hc, b1])); first | done | exact rfl)), rfl, hP, (by intro hc; (try simp at hc); (repeat' (first | exact DRs.nil | refine DRs.cons ?_ ?_ | exact .int _ _ | exact .bool _ | exact .str _ | exact .nilsl | exact .nilp | exact dr_ints (by simp) _ | exact dr_intss (by simp) _ | refine dr_agg ?_ | refine dr_fn ?_ | refine dr_tptr' (by simp) ?_ | assumption | exact .nilsl))), ?_⟩)
    | ((with_reducible refine st_gmc ?_); (try (conv => arg 1; simp [b1])); (with_reducible refine at_mk ?_); (with_reducible first | refine gm_bool ?_ | refine gm_gv ?_); refine ⟨_, _, _, (by intro hc; first | ((try simp only [Bool.and_eq_true] at hc); (try (conv => lhs; simp [hc, b1])); first | done | exact rfl) | ((try simp [gq] at hc); (try (conv => lhs; simp [gq, hc, b1])); first | done | exact rfl)), rfl, in_ _ _ _, (by intro hc; (try simp at hc); (repeat' (first | exact DRs.nil | refine DRs.cons ?_ ?_ | exact .int _ _ | exact .bool _ | exact .str _ | exact .nilsl | exact .nilp | exact dr_ints (by simp) _ | exact dr_intss (by simp) _ | refine dr_agg ?_ | refine dr_fn ?_ | refine dr_tptr' (by simp) ?_ | assumption | exact .nilsl))), ?_⟩)
    | ((with_reducible refine fr_gmc ?_); (try (conv => arg 1; simp [b1])); (with_reducible refine at_mk ?_); (with_reducible first | refine gm_bool ?_ | refine gm_gv ?_); refine ⟨_, _, _, (by intro hc; first | ((try simp only [Bool.and_eq_true] at hc); (try (conv => lhs; simp [hc, b1])); first | done | exact rfl) | ((try simp [gq] at hc); (try (conv => lhs; simp [gq, hc, b1])); first | done | exact rfl)), in_ _ _ _, (by intro hc; (try simp at hc); (repeat' (first | exact DRs.nil | refine DRs.cons ?_ ?_ | exact .int _ _ | exact .bool _ | exact .str _ | exact .nilsl | exact .nilp | exact dr_ints (by simp) _ | exact dr_intss (by simp) _ | refine dr_agg ?_ | refine dr_fn ?_ | refine dr_tptr' (by simp) ?_ | assumption | exact .nilsl))), ?_⟩)
    | ((with_reducible refine st_gmv ?_); (try (conv => arg 1; simp [b1])); (with_reducible refine at_mk ?_); (with_reducible first | refine gm_bool ?_ | refine gm_gv ?_); refine ⟨_, _, _, _, _, (by intro hc; first | ((try simp only [Bool.and_eq_true] at hc); (try (conv => lhs; simp [hc, b1])); first | done | exact rfl) | ((try simp [gq] at hc); (try (conv => lhs; simp [gq, hc, b1])); first | done | exact rfl)), (by intro hc; first | ((try simp only [Bool.and_eq_true] at hc); (try (conv => lhs; simp [hc, b1])); first | done | exact rfl) | ((try simp [gq] at hc); (try (conv => lhs; simp [gq, hc, b1])); first | done | exact rfl)), rfl, in_ _ _ _, (by intro hc; (try simp at hc); (repeat' (first | exact DRs.nil | refine DRs.cons ?_ ?_ | exact .int _ _ | exact .bool _ | exact .str _ | exact .nilsl | exact .nilp | exact dr_ints (by simp) _ | exact dr_intss (by simp) _ | refine dr_agg ?_ | refine dr_fn ?_ | refine dr_tptr' (by simp) ?_ | assumption | exact .nilsl))), ?_⟩)
    | ((with_reducible refine st_m rfl ?_); (try (conv => arg 1; simp [b1])); (with_reducible refine ev2_some ?_))
    | ((with_reducible refine fr_n rfl ?_); (try (conv => arg 1; simp [b1])); (with_reducible refine evn_some ?_))
    | ((with_reducible first | refine st_cv ?_ | refine fr_cv ?_); (try (conv => arg 1; simp [b1])); (with_reducible refine at_mk ?_); (with_reducible refine fn_mk ?_); (try (conv => arg 1; simp [b1])); (with_reducible refine at_mk ?_))
    | ((with_reducible refine fr_a ?_); (try (conv => arg 1; simp [b1])); (with_reducible refine at_mk ?_); (try (conv => arg 1; simp [b1])); (with_reducible refine at_mk ?_); refine ⟨?names, ?_⟩; (case names => (simp [appNames, ints, intss] <;> first | kernel_rfl | (refine ⟨?_, ?_⟩ <;> kernel_rfl))); (try (conv => arg 1; simp [b1])); (with_reducible refine ev2_some ?_))
    | ((with_reducible first | refine st_q ?_ | refine fr_q ?_ | refine st_res ?_); (try (conv => arg 1; simp [b1])); (with_reducible refine ev_some ?_))
    | ((with_reducible refine st_if ?_); (try (conv => arg 1; simp [b1])); (with_reducible refine at_mk ?_); with_reducible first | refine br_t ?_ | refine br_f ?_)
    | ((with_reducible refine ct_id ?_); refine st_tree rfl (hP) (by (repeat' (first | exact DRs.nil | refine DRs.cons ?_ ?_ | exact .int _ _ | exact .bool _ | exact .str _ | exact .nilsl | exact .nilp | exact dr_ints (by simp) _ | exact dr_intss (by simp) _ | refine dr_agg ?_ | refine dr_fn ?_ | refine dr_tptr' (by simp) ?_ | assumption | exact .nilsl))) ?_)
    | ((with_reducible refine tw_id ?_); refine treeW_pure (hP) (by (repeat' (first | exact DRs.nil | refine DRs.cons ?_ ?_ | exact .int _ _ | exact .bool _ | exact .str _ | exact .nilsl | exact .nilp | exact dr_ints (by simp) _ | exact dr_intss (by simp) _ | refine dr_agg ?_ | refine dr_fn ?_ | refine dr_tptr' (by simp) ?_ | assumption | exact .nilsl))) ?_)
    | ((with_reducible refine ct_id ?_); refine st_tree rfl (in_ _ _ _) (by (repeat' (first | exact DRs.nil | refine DRs.cons ?_ ?_ | exact .int _ _ | exact .bool _ | exact .str _ | exact .nilsl | exact .nilp | exact dr_ints (by simp) _ | exact dr_intss (by simp) _ | refine dr_agg ?_ | refine dr_fn ?_ | refine dr_tptr' (by simp) ?_ | assumption | exact .nilsl))) ?_)
    | ((with_reducible refine tw_id ?_); refine treeW_pure (in_ _ _ _) (by (repeat' (first | exact DRs.nil | refine DRs.cons ?_ ?_ | exact .int _ _ | exact .bool _ | exact .str _ | exact .nilsl | exact .nilp | exact dr_ints (by simp) _ | exact dr_intss (by simp) _ | refine dr_agg ?_ | refine dr_fn ?_ | refine dr_tptr' (by simp) ?_ | assumption | exact .nilsl))) ?_))
  (try with_reducible refine st_if ?_)
  (try (conv => arg 1; simp [d1]))
  (try with_reducible refine at_mk ?_)
  refine ⟨fun hb => ?_, fun hb => ?_⟩
  · have e : graphOk g = false := by
      unfold graphOk
      rw [← hh]
      simp only [Bool.or_eq_true, Bool.not_eq_true'] at hb
      rcases hb with (h | h) | h <;> simp only [h, Bool.false_and, Bool.and_false]
    repeat' (first
     | with_reducible refine stp ?_
     | with_reducible refine k_blk_o rfl ?_
     | with_reducible refine k_seq_n ?_
     | ((try (conv => arg 1; simp [d1])); with_reducible refine evp ?_)
     | ((with_reducible refine apn ?na ?_); (case na => simp [appNames, ints, intss] <;> first | kernel_rfl | (refine ⟨?_, ?_⟩ <;> kernel_rfl)))
     | fail)
    rw [e]
    exact .bool _
  have hk : headOk g = true := by
    rw [← hh]
    simp only [Bool.not_eq_true, Bool.or_eq_false_iff, Bool.not_eq_false'] at hb
    simp only [hb, Bool.and_true]
  have H := headOk_head hk
  have e4 := H.slots
  have e2 := H.params
  have e5 := H.blocks
  repeat' (first
   | with_reducible refine stp ?_
   | with_reducible refine k_blk_o rfl ?_
   | with_reducible refine k_seq_n ?_
   | ((try (conv => arg 1; simp [b1])); with_reducible refine evp ?_)
   | ((with_reducible refine apn ?na ?_); (case na => simp [appNames, ints, intss] <;> first | kernel_rfl | (refine ⟨?_, ?_⟩ <;> kernel_rfl)))
   | fail)
  refine st_loop (fun (i : Nat) σ h => i ≤ g.Blocks.length ∧ σ 1 = .ptr (T, 0, 0) 0 0 0 ∧ σ 31 = blocks true g.Blocks ∧ σ 32 = .int .i64 g.Blocks.length ∧ σ 3 = .int .i64 (codeLen g.Blocks i) ∧ σ 33 = .int .i64 i ∧ (g.Blocks.take i).all (blockOk g) = true ∧ Cx h [((T, 0, 0), graphRow g)] []) (fun i => g.Blocks.length - i) 0 ?init ?step
  case init => exact ⟨Nat.zero_le _, by simp, by simp, by simp, by simp [codeLen, gsum_zero], by simp, rfl, Cx.to x1⟩
  case step =>
    rintro i σ h ⟨hi, s1, s31, s32, s3, s33, ha2, x⟩
    have b2 := x.bxs
    simp only [Bxs, graphRow] at b2
    have hn := codeLen_small d i
    by_cases hlt : i < g.Blocks.length
    · have hlt2 : (i : Int) < g.Blocks.length := by omega
      have hx : g.Blocks[i]? = some g.Blocks[i] := by simp
      have hlen := block_len true g.Blocks[i]
      have hc := d.code _ (List.getElem_mem hlt)
      have hw : IntKind.i64.wrap (i + 1) = i + 1 := wrap_id (by omega) (by omega)
      have hs := codeLen_succ hlt
      have hw2 : IntKind.i64.wrap ((codeLen g.Blocks i : Int) + g.Blocks[i].Code.length) = codeLen g.Blocks (i + 1) := by rw [wrap_id (by omega) (by omega)]; omega
      have B := isBlock g g.Blocks[i] (by omega) d1 d2 hc
      cases hv : blockOk g g.Blocks[i] with
      | false =>
        rw [hv] at B
        repeat' (first
         | with_reducible refine stp ?_
         | with_reducible refine k_blk_o rfl ?_
         | with_reducible refine k_seq_n ?_
         | ((try (conv => arg 1; simp [s1, s31, s32, s3, s33, b2, hlt2, hx, hlen, blocks, Block.cells, Graph.cells, hw2, ltS, nm_ne])); with_reducible refine evp ?_)
         | ((with_reducible refine apn ?na ?_); (case na => simp [appNames, ints, intss] <;> first | kernel_rfl | (refine ⟨?_, ?_⟩ <;> kernel_rfl)))
         | ((with_reducible refine tcl ?_); first | ((apply tg (B)); (case e => rfl); (case d => (refine dq ?_); (repeat' (first | ((refine Da.mk ?_); first | exact dr_blocks (by simp) _ | exact dr_instrs (by simp) _ | assumption) | constructor)))))
         | fail)
        have e : graphOk g = false := by simp only [graphOk]; rw [all_false hlt hv, Bool.and_false]
        rw [e]
        exact .bool _
      | true =>
        rw [hv] at B
        repeat' (first
         | with_reducible refine stp ?_
         | with_reducible refine k_blk_o rfl ?_
         | with_reducible refine k_seq_n ?_
         | ((try (conv => arg 1; simp [s1, s31, s32, s3, s33, b2, hlt2, hx, hlen, blocks, Block.cells, Graph.cells, hw, hw2, ltS, nm_ne])); with_reducible refine evp ?_)
         | ((with_reducible refine apn ?na ?_); (case na => simp [appNames, ints, intss] <;> first | kernel_rfl | (refine ⟨?_, ?_⟩ <;> kernel_rfl)))
         | ((with_reducible refine tcl ?_); first | ((apply tg (B)); (case e => rfl); (case d => (refine dq ?_); (repeat' (first | ((refine Da.mk ?_); first | exact dr_blocks (by simp) _ | exact dr_instrs (by simp) _ | assumption) | constructor)))))
         | fail)
        refine k_lp_n (i + 1) (by omega) ⟨by omega, by simp [s1], by simp [s31], by simp [s32], by simp, by simp, by rw [all_take hlt, ha2, hv]; rfl, Cx.to x⟩
    · have hlt2 : ¬ (i : Int) < g.Blocks.length := by omega
      rw [List.take_of_length_le (by omega)] at ha2
      have hi2 : i = g.Blocks.length := by omega
      rw [hi2] at s3
      repeat' (first
       | with_reducible refine stp ?_
       | with_reducible refine k_blk_o rfl ?_
       | with_reducible refine k_seq_n ?_
       | ((try (conv => arg 1; simp [s1, s3, s32, s33, b2, hlt2, ltS, nm_ne])); with_reducible refine evp ?_)
       | ((with_reducible refine apn ?na ?_); (case na => simp [appNames, ints, intss] <;> first | kernel_rfl | (refine ⟨?_, ?_⟩ <;> kernel_rfl)))
       | fail)
      refine dr_bool ?_
      simp only [graphOk, hk, ha2, Bool.true_and, Bool.and_true]
      rw [Bool.eq_iff_iff]
      simp
      omega
end Go.Proofs.Ytlmlkkkgcbpaoaa.AM

/-
  Blocks that fall through: how many.
-/
set_option linter.unusedVariables false
set_option linter.unusedSimpArgs false
set_option maxRecDepth 4000
namespace Go.Proofs.Ytlmlkkkgcbpaoaa.AM
open Go.RowKit

private def MG13 : FuncId → Mode := fun f => .tree

def isFall (b : Block) (i : Nat) : Bool := !decide (b.Jump = 2) && decide (b.To = (i : Int) + 1)
def fallsN (l : List Block) : Nat → Nat
  | 0 => 0
  | i + 1 => fallsN l i + (if ((l[i]?).map fun b => isFall b i) = some true then 1 else 0)
theorem fallsN_le (l : List Block) : ∀ i, fallsN l i ≤ i
  | 0 => Nat.le_refl _
  | i + 1 => by
    have := fallsN_le l i
    unfold fallsN
    split <;> omega
def falls (g : Graph) : Int := if graphOk g = true then fallsN g.Blocks g.Blocks.length else -1

set_option maxHeartbeats 2000000 in
theorem specFalls (g : Graph) (d : g.Small) : Pure Try.prog 12 [.agg (g.cells true)] (.int .i64 (falls g)) := by
  intro T
  have d2 := d.len
  have G := graphOkSpec g d.fit
  refine enter mixed MG13 Try.func12 rfl (by kernel_rfl) rfl ?_
  repeat' (first
   | with_reducible refine stp ?_
   | with_reducible refine k_blk_o rfl ?_
   | ((try (conv => arg 1; simp [Graph.cells])); with_reducible refine evp ?_)
   | ((with_reducible refine apn ?na ?_); (case na => simp [appNames, ints, intss] <;> first | kernel_rfl | (refine ⟨?_, ?_⟩ <;> kernel_rfl)))
   | fail)
  refine cx_k (Cx.mt.next.box_one (T := T) (i := 0) Cx.mt.off (by simp)) ?_
  intro h1 x1
  have b1 := x1.bxs
  simp only [Bxs] at b1
  cases hk : graphOk g with
  | false =>
    rw [hk] at G
    repeat' (first
     | with_reducible refine stp ?_
     | with_reducible refine k_blk_o rfl ?_
     | with_reducible refine k_seq_n ?_
     | ((try (conv => arg 1; simp [b1])); with_reducible refine evp ?_)
     | ((with_reducible refine apn ?na ?_); (case na => simp [appNames, ints, intss] <;> first | kernel_rfl | (refine ⟨?_, ?_⟩ <;> kernel_rfl)))
     | ((with_reducible refine tcl ?_); first | ((apply tg (G)); (case e => rfl); (case d => (refine dq ?_); (repeat' (first | ((refine Da.mk ?_); first | exact dr_blocks (by simp) _ | assumption) | constructor)))))
     | fail)
    rw [show falls g = -1 by simp [falls, hk]]
    exact .int _ _
  | true =>
    rw [hk] at G
    repeat' (first
     | with_reducible refine stp ?_
     | with_reducible refine k_blk_o rfl ?_
     | with_reducible refine k_seq_n ?_
     | ((try (conv => arg 1; simp [b1])); with_reducible refine evp ?_)
     | ((with_reducible refine apn ?na ?_); (case na => simp [appNames, ints, intss] <;> first | kernel_rfl | (refine ⟨?_, ?_⟩ <;> kernel_rfl)))
     | ((with_reducible refine tcl ?_); first | ((apply tg (G)); (case e => rfl); (case d => (refine dq ?_); (repeat' (first | ((refine Da.mk ?_); first | exact dr_blocks (by simp) _ | assumption) | constructor)))))
     | fail)
    refine st_loop (fun (i : Nat) σ h => i ≤ g.Blocks.length ∧ σ 1 = .ptr (T, 0, 0) 0 0 0 ∧ σ 3 = .int .i64 (fallsN g.Blocks i) ∧ σ 4 = .int .i64 i ∧ Cx h [((T, 0, 0), graphRow g)] []) (fun i => g.Blocks.length - i) 0 ?init ?step
    case init => exact ⟨Nat.zero_le _, by simp, by simp [fallsN], by simp, Cx.to x1⟩
    case step =>
      rintro i σ h ⟨hi, s1, s3, s4, x⟩
      have b2 := x.bxs
      simp only [Bxs, graphRow] at b2
      have hf := fallsN_le g.Blocks i
      by_cases hlt : i < g.Blocks.length
      · have hlt2 : (i : Int) < g.Blocks.length := by omega
        have hx : g.Blocks[i]? = some g.Blocks[i] := by simp
        have hlen := block_len true g.Blocks[i]
        have hw : IntKind.i64.wrap (i + 1) = i + 1 := wrap_id (by omega) (by omega)
        have hw2 : IntKind.i64.wrap ((fallsN g.Blocks i : Int) + 1) = fallsN g.Blocks i + 1 := wrap_id (by omega) (by omega)
        by_cases hj : g.Blocks[i].Jump = 2
        · skip
          repeat' (first
           | with_reducible refine stp ?_
           | with_reducible refine k_blk_o rfl ?_
           | with_reducible refine k_seq_n ?_
           | ((try (conv => arg 1; simp [s1, s3, s4, b2, hlt2, hx, hlen, hj, blocks, Block.cells, hw, ltS, nm_ne])); with_reducible refine evp ?_)
           | ((with_reducible refine apn ?na ?_); (case na => simp [appNames, ints, intss] <;> first | kernel_rfl | (refine ⟨?_, ?_⟩ <;> kernel_rfl)))
           | fail)
          refine k_lp_n (i + 1) (by omega) ⟨by omega, by simp [s1], by simp [s3, fallsN, hx, isFall, hj], by simp, Cx.to x⟩
        · by_cases ht : g.Blocks[i].To = (i : Int) + 1
          · skip
            repeat' (first
             | with_reducible refine stp ?_
             | with_reducible refine k_blk_o rfl ?_
             | with_reducible refine k_seq_n ?_
             | ((try (conv => arg 1; simp [s1, s3, s4, b2, hlt2, hx, hlen, hj, ht, blocks, Block.cells, hw, hw2, ltS, nm_ne])); with_reducible refine evp ?_)
             | ((with_reducible refine apn ?na ?_); (case na => simp [appNames, ints, intss] <;> first | kernel_rfl | (refine ⟨?_, ?_⟩ <;> kernel_rfl)))
             | fail)
            refine k_lp_n (i + 1) (by omega) ⟨by omega, by simp [s1], by simp [fallsN, hx, isFall, hj, ht], by simp, Cx.to x⟩
          · skip
            repeat' (first
             | with_reducible refine stp ?_
             | with_reducible refine k_blk_o rfl ?_
             | with_reducible refine k_seq_n ?_
             | ((try (conv => arg 1; simp [s1, s3, s4, b2, hlt2, hx, hlen, hj, ht, blocks, Block.cells, hw, ltS, nm_ne])); with_reducible refine evp ?_)
             | ((with_reducible refine apn ?na ?_); (case na => simp [appNames, ints, intss] <;> first | kernel_rfl | (refine ⟨?_, ?_⟩ <;> kernel_rfl)))
             | fail)
            refine k_lp_n (i + 1) (by omega) ⟨by omega, by simp [s1], by simp [s3, fallsN, hx, isFall, hj, ht], by simp, Cx.to x⟩
      · have hlt2 : ¬ (i : Int) < g.Blocks.length := by omega
        have hi2 : i = g.Blocks.length := by omega
        rw [hi2] at s3
        repeat' (first
         | with_reducible refine stp ?_
         | with_reducible refine k_blk_o rfl ?_
         | with_reducible refine k_seq_n ?_
         | ((try (conv => arg 1; simp [s1, s3, s4, b2, hlt2, ltS, nm_ne])); with_reducible refine evp ?_)
         | ((with_reducible refine apn ?na ?_); (case na => simp [appNames, ints, intss] <;> first | kernel_rfl | (refine ⟨?_, ?_⟩ <;> kernel_rfl)))
         | fail)
        rw [show falls g = fallsN g.Blocks g.Blocks.length by simp [falls, hk]]
        exact .int _ _

set_option maxHeartbeats 2000000 in
theorem implFalls (g : Graph) (d : g.Small) : Pure Try.prog 14 [.agg (g.cells true)] (.int .i64 (falls g)) := by
  intro T
  have d2 := d.len
  have G := isGraph g d
  refine enter mixed MG13 Try.func14 rfl (by kernel_rfl) rfl ?_
  repeat' (first
   | with_reducible refine stp ?_
   | with_reducible refine k_blk_o rfl ?_
   | ((try (conv => arg 1; simp [Graph.cells])); with_reducible refine evp ?_)
   | ((with_reducible refine apn ?na ?_); (case na => simp [appNames, ints, intss] <;> first | kernel_rfl | (refine ⟨?_, ?_⟩ <;> kernel_rfl)))
   | fail)
  refine cx_k (Cx.mt.next.box_one (T := T) (i := 0) Cx.mt.off (by simp)) ?_
  intro h1 x1
  have b1 := x1.bxs
  simp only [Bxs] at b1
  cases hk : graphOk g with
  | false =>
    rw [hk] at G
    repeat' (first
     | with_reducible refine stp ?_
     | with_reducible refine k_blk_o rfl ?_
     | with_reducible refine k_seq_n ?_
     | ((try (conv => arg 1; simp [b1])); with_reducible refine evp ?_)
     | ((with_reducible refine apn ?na ?_); (case na => simp [appNames, ints, intss] <;> first | kernel_rfl | (refine ⟨?_, ?_⟩ <;> kernel_rfl)))
     | ((with_reducible refine tcl ?_); first | ((apply tg (G)); (case e => rfl); (case d => (refine dq ?_); (repeat' (first | ((refine Da.mk ?_); first | exact dr_blocks (by simp) _ | assumption) | constructor)))))
     | fail)
    rw [show falls g = -1 by simp [falls, hk]]
    exact .int _ _
  | true =>
    rw [hk] at G
    repeat' (first
     | with_reducible refine stp ?_
     | with_reducible refine k_blk_o rfl ?_
     | with_reducible refine k_seq_n ?_
     | ((try (conv => arg 1; simp [b1])); with_reducible refine evp ?_)
     | ((with_reducible refine apn ?na ?_); (case na => simp [appNames, ints, intss] <;> first | kernel_rfl | (refine ⟨?_, ?_⟩ <;> kernel_rfl)))
     | ((with_reducible refine tcl ?_); first | ((apply tg (G)); (case e => rfl); (case d => (refine dq ?_); (repeat' (first | ((refine Da.mk ?_); first | exact dr_blocks (by simp) _ | assumption) | constructor)))))
     | fail)
    refine st_loop (fun (i : Nat) σ h => i ≤ g.Blocks.length ∧ σ 10 = blocks true g.Blocks ∧ σ 11 = .int .i64 g.Blocks.length ∧ σ 3 = .int .i64 (fallsN g.Blocks i) ∧ σ 12 = .int .i64 i) (fun i => g.Blocks.length - i) 0 ?init ?step
    case init => exact ⟨Nat.zero_le _, by simp, by simp, by simp [fallsN], by simp⟩
    case step =>
      rintro i σ h ⟨hi, s10, s11, s3, s12⟩
      have hf := fallsN_le g.Blocks i
      by_cases hlt : i < g.Blocks.length
      · have hlt2 : (i : Int) < g.Blocks.length := by omega
        have hx : g.Blocks[i]? = some g.Blocks[i] := by simp
        have hlen := block_len true g.Blocks[i]
        have hw : IntKind.i64.wrap (i + 1) = i + 1 := wrap_id (by omega) (by omega)
        have hw2 : IntKind.i64.wrap ((fallsN g.Blocks i : Int) + 1) = fallsN g.Blocks i + 1 := wrap_id (by omega) (by omega)
        by_cases hj : g.Blocks[i].Jump = 2
        · skip
          repeat' (first
           | with_reducible refine stp ?_
           | with_reducible refine k_blk_o rfl ?_
           | with_reducible refine k_seq_n ?_
           | ((try (conv => arg 1; simp [s10, s11, s3, s12, hlt2, hx, hlen, hj, blocks, Block.cells, hw, ltS, nm_ne])); with_reducible refine evp ?_)
           | ((with_reducible refine apn ?na ?_); (case na => simp [appNames, ints, intss] <;> first | kernel_rfl | (refine ⟨?_, ?_⟩ <;> kernel_rfl)))
           | fail)
          refine k_lp_n (i + 1) (by omega) ⟨by omega, by simp [s10], by simp [s11], by simp [s3, fallsN, hx, isFall, hj], by simp⟩
        · by_cases ht : g.Blocks[i].To = (i : Int) + 1
          · skip
            repeat' (first
             | with_reducible refine stp ?_
             | with_reducible refine k_blk_o rfl ?_
             | with_reducible refine k_seq_n ?_
             | ((try (conv => arg 1; simp [s10, s11, s3, s12, hlt2, hx, hlen, hj, ht, blocks, Block.cells, hw, hw2, ltS, nm_ne])); with_reducible refine evp ?_)
             | ((with_reducible refine apn ?na ?_); (case na => simp [appNames, ints, intss] <;> first | kernel_rfl | (refine ⟨?_, ?_⟩ <;> kernel_rfl)))
             | fail)
            refine k_lp_n (i + 1) (by omega) ⟨by omega, by simp [s10], by simp [s11], by simp [fallsN, hx, isFall, hj, ht], by simp⟩
          · skip
            repeat' (first
             | with_reducible refine stp ?_
             | with_reducible refine k_blk_o rfl ?_
             | with_reducible refine k_seq_n ?_
             | ((try (conv => arg 1; simp [s10, s11, s3, s12, hlt2, hx, hlen, hj, ht, blocks, Block.cells, hw, ltS, nm_ne])); with_reducible refine evp ?_)
             | ((with_reducible refine apn ?na ?_); (case na => simp [appNames, ints, intss] <;> first | kernel_rfl | (refine ⟨?_, ?_⟩ <;> kernel_rfl)))
             | fail)
            refine k_lp_n (i + 1) (by omega) ⟨by omega, by simp [s10], by simp [s11], by simp [s3, fallsN, hx, isFall, hj, ht], by simp⟩
      · have hlt2 : ¬ (i : Int) < g.Blocks.length := by omega
        have hi2 : i = g.Blocks.length := by omega
        rw [hi2] at s3
        repeat' (first
         | with_reducible refine stp ?_
         | with_reducible refine k_blk_o rfl ?_
         | with_reducible refine k_seq_n ?_
         | ((try (conv => arg 1; simp [s3, s11, s12, hlt2])); with_reducible refine evp ?_)
         | ((with_reducible refine apn ?na ?_); (case na => simp [appNames, ints, intss] <;> first | kernel_rfl | (refine ⟨?_, ?_⟩ <;> kernel_rfl)))
         | fail)
        rw [show falls g = fallsN g.Blocks g.Blocks.length by simp [falls, hk]]
        exact .int _ _
end Go.Proofs.Ytlmlkkkgcbpaoaa.AM

/-
  Graphs as the laws' arguments.
-/
set_option linter.unusedVariables false
set_option linter.unusedSimpArgs false
set_option maxRecDepth 4000
namespace Go.Proofs.Ytlmlkkkgcbpaoaa.AM
open Go.RowKit

theorem drs_graphL {c b : Bool} {rows : Nm → Option Row} (g : Graph) (hb : b = true → c = true) : DRs c rows (g.cells b) (g.cells c) := drs_graph hb g
theorem shp_instr {cells : List AV} (h : Shp Try.prog 156 cells) : ∃ x : Instr, cells = x.cells ∧ x.Text.size ≤ maxLen := by
  have hs : stTys Try.prog 156 = some [3, 3, 3, 3, 3, 3, 9] := by kernel_rfl
  obtain ⟨p0, q0, rfl, s0, p1, q1, rfl, s1, p2, q2, rfl, s2, p3, q3, rfl, s3, p4, q4, rfl, s4, p5, q5, rfl, s5, p6, q6, rfl, s6, rfl⟩ := h.st_inv hs
  obtain ⟨a0, rfl, g0⟩ := s0.int_inv und_3
  obtain ⟨a1, rfl, g1⟩ := s1.int_inv und_3
  obtain ⟨a2, rfl, g2⟩ := s2.int_inv und_3
  obtain ⟨a3, rfl, g3⟩ := s3.int_inv und_3
  obtain ⟨a4, rfl, g4⟩ := s4.int_inv und_3
  obtain ⟨a5, rfl, g5⟩ := s5.int_inv und_3
  obtain ⟨a6, rfl, g6⟩ := s6.str_inv und_9
  exact ⟨⟨a0, a1, a2, a3, a4, a5, a6⟩, rfl, g6⟩
theorem shp_block {cells : List AV} (h : Shp Try.prog 80 cells) : ∃ x : Block, cells = x.cells true ∧ (x.Code.length ≤ maxLen ∧ ∀ y ∈ x.Code, y.Text.size ≤ maxLen) := by
  have hs : stTys Try.prog 80 = some [78, 3, 3, 3, 3] := by kernel_rfl
  obtain ⟨p0, q0, rfl, s0, p1, q1, rfl, s1, p2, q2, rfl, s2, p3, q3, rfl, s3, p4, q4, rfl, s4, rfl⟩ := h.st_inv hs
  obtain ⟨elems, rfl, g0, g0'⟩ := s0.sl_inv und_78
  obtain ⟨a1, rfl, g1⟩ := s1.int_inv und_3
  obtain ⟨a2, rfl, g2⟩ := s2.int_inv und_3
  obtain ⟨a3, rfl, g3⟩ := s3.int_inv und_3
  obtain ⟨a4, rfl, g4⟩ := s4.int_inv und_3
  obtain ⟨ws, rfl, gw⟩ := unmap Instr.cells (fun w => w.Text.size ≤ maxLen) elems fun y hy => shp_instr (g0' y hy)
  exact ⟨⟨ws, a1, a2, a3, a4⟩, rfl, by simpa using g0, gw⟩
theorem shp_graph {cells : List AV} (h : Shp Try.prog 25 cells) : ∃ g : Graph, cells = g.cells true ∧ g.Data := by
  have hs : stTys Try.prog 25 = some [22, 3, 3, 3, 23] := by kernel_rfl
  obtain ⟨p0, q0, rfl, s0, p1, q1, rfl, s1, p2, q2, rfl, s2, p3, q3, rfl, s3, p4, q4, rfl, s4, rfl⟩ := h.st_inv hs
  obtain ⟨a0, rfl, g0, g0'⟩ := s0.ints_inv und_22 und_3
  obtain ⟨a1, rfl, g1⟩ := s1.int_inv und_3
  obtain ⟨a2, rfl, g2⟩ := s2.int_inv und_3
  obtain ⟨a3, rfl, g3⟩ := s3.int_inv und_3
  obtain ⟨elems, rfl, g4, g4'⟩ := s4.sl_inv und_23
  obtain ⟨ws, rfl, gw⟩ := unmap (Block.cells true) (fun x => x.Code.length ≤ maxLen ∧ ∀ y ∈ x.Code, y.Text.size ≤ maxLen) elems fun y hy => shp_block (g4' y hy)
  exact ⟨⟨a0, a1, a2, a3, ws⟩, rfl, ⟨g0, by simpa using g4, gw⟩⟩
theorem agg_graph (cells : List AV) : avOf Try.prog 25 cells = .agg cells := agg_of (by kernel_rfl) cells
theorem av3 (c : AV) : avOf Try.prog 3 [c] = c := av_oneX und_3 rfl c
theorem av22 (c : AV) : avOf Try.prog 22 [c] = c := av_oneX und_22 rfl c
end Go.Proofs.Ytlmlkkkgcbpaoaa.AM

/-
  Falls: what its law needs.
-/

/-
  Texts and steps that are marked.
-/
set_option linter.unusedVariables false
set_option linter.unusedSimpArgs false
set_option maxRecDepth 4000
namespace Go.Proofs.Ytlmlkkkgcbpaoaa.AM
open Go.RowKit

private def MG7 : FuncId → Mode := fun f => .tree

def mb (k : Nat) : Int := IntKind.u8.wrap (IntKind.i64.wrap (48 + ((k : Int).tmod 10)))
def mdig (k : Nat) (out : ByteArray) : ByteArray := if h : k = 0 then out else mdig (k / 10) (bstr [mb k] ++ out)
termination_by k
decreasing_by omega
def mtext (k : Int) : ByteArray := if k ≤ 0 then ⟨#[109, 48]⟩ else ⟨#[109]⟩ ++ mdig k.toNat ⟨#[]⟩
theorem bstr1 (n : Int) : (bstr [n]).size = 1 := rfl
theorem max64 : IntKind.i64.max = 9223372036854775807 := by kernel_rfl
theorem rg1 : List.range 1 = [0] := rfl
theorem sz109 : (ByteArray.mk #[109]).size = 1 := rfl
theorem mdig_zero (out : ByteArray) : mdig 0 out = out := by rw [mdig]; simp
theorem mdig_succ {k : Nat} (h : k ≠ 0) (out : ByteArray) : mdig k out = mdig (k / 10) (bstr [mb k] ++ out) := by
  rw [mdig, dif_neg h]

theorem markText (k : Int) (hk : k ≤ 2 ^ 62) : Pure Try.prog 117 [.int .i64 k] (.str (mtext k)) := by
  intro T
  refine enter mixed MG7 Try.func117 rfl (by kernel_rfl) rfl ?_
  by_cases h0 : k ≤ 0
  · skip
    repeat' (first
     | with_reducible refine stp ?_
     | with_reducible refine k_blk_o rfl ?_
     | with_reducible refine k_seq_n ?_
     | ((try (conv => arg 1; simp [h0])); with_reducible refine evp ?_)
     | ((with_reducible refine apn ?na ?_); (case na => simp [appNames, ints, intss] <;> first | kernel_rfl | (refine ⟨?_, ?_⟩ <;> kernel_rfl)))
     | fail)
    rw [show mtext k = ⟨#[109, 48]⟩ by simp [mtext, h0]]
    exact .str _
  obtain ⟨n, rfl⟩ : ∃ n : Nat, k = (n : Int) := ⟨k.toNat, by omega⟩
  have hn0 : ¬ n = 0 := by omega
  repeat' (first
   | with_reducible refine stp ?_
   | with_reducible refine k_blk_o rfl ?_
   | with_reducible refine k_seq_n ?_
   | ((try (conv => arg 1; simp [h0, hn0])); with_reducible refine evp ?_)
   | ((with_reducible refine apn ?na ?_); (case na => simp [appNames, ints, intss] <;> first | kernel_rfl | (refine ⟨?_, ?_⟩ <;> kernel_rfl)))
   | fail)
  refine st_loop (fun (k : Nat) σ h => σ 0 = .int .i64 k ∧ ∃ out, σ 3 = .str out ∧ out.size + k ≤ n ∧ mdig k out = mdig n ⟨#[]⟩) (fun k => k) n ?init ?step
  case init => exact ⟨by simp, ⟨#[]⟩, by simp, by simp [ByteArray.size], rfl⟩
  case step =>
    rintro k σ h ⟨s0, out, s3, hsz, hd⟩
    by_cases hk0 : k = 0
    · have hk1 : ¬ (0 : Int) < k := by omega
      have hs1 : ¬ (9223372036854775807 : Int) < 1 + out.size := by omega
      repeat' (first
       | with_reducible refine stp ?_
       | with_reducible refine k_blk_o rfl ?_
       | with_reducible refine k_seq_n ?_
       | ((try (conv => arg 1; simp [s0, s3, hk0, hk1, max64, sz109, hs1])); with_reducible refine evp ?_)
       | ((with_reducible refine apn ?na ?_); (case na => simp [appNames, ints, intss] <;> first | kernel_rfl | (refine ⟨?_, ?_⟩ <;> kernel_rfl)))
       | fail)
      rw [hk0, mdig_zero] at hd
      have e : mtext (n : Int) = ⟨#[109]⟩ ++ out := by rw [hd]; simp only [mtext, if_neg h0, Int.toNat_natCast]
      rw [e]
      exact .str _
    · have hk1 : (0 : Int) < k := by omega
      have hs1 : ¬ (9223372036854775807 : Int) < 1 + out.size := by omega
      have hq : IntKind.i64.wrap ((k : Int).tdiv 10) = ((k / 10 : Nat) : Int) := by
        rw [show (k : Int).tdiv 10 = ((k / 10 : Nat) : Int) from rfl, wrap_id (by omega) (by omega)]
      have hq2 : IntKind.i64.wrap ((k : Int) / 10) = (k : Int) / 10 := wrap_id (by omega) (by omega)
      have hmb : IntKind.u8.wrap (IntKind.i64.wrap (48 + ((k : Int).tmod 10))) = mb k := rfl
      have hkp : 0 < k := by omega
      repeat' (first
       | with_reducible refine stp ?_
       | with_reducible refine k_blk_o rfl ?_
       | with_reducible refine k_seq_n ?_
       | ((try (conv => arg 1; simp [s0, s3, hk0, hk1, hkp, max64, bstr1, hs1, hq, hq2, hmb, rg1, convA, bstrA, srcElems, bytesOf])); with_reducible refine evp ?_)
       | ((with_reducible refine apn ?na ?_); (case na => simp [appNames, ints, intss] <;> first | kernel_rfl | (refine ⟨?_, ?_⟩ <;> kernel_rfl)))
       | fail)
      refine k_lp_n (k / 10) (by omega) ⟨by simp [hq2], bstr [mb k] ++ out, by simp, ?_, ?_⟩
      · rw [ByteArray.size_append, bstr1]
        omega
      · rw [← hd, mdig_succ hk0]

def minstrs (k : Int) (n : Nat) : List Instr := (List.range n).map fun (i : Nat) => ⟨k + 7 * i, k + 7 * i + 1, k + 7 * i + 1 + 1, k + 7 * i + 1 + 1 + 1, k + 7 * i + 1 + 1 + 1 + 1, k + 7 * i + 1 + 1 + 1 + 1 + 1, mtext (k + 7 * i + 1 + 1 + 1 + 1 + 1 + 1)⟩
theorem minstrs_length (k : Int) (n : Nat) : (minstrs k n).length = n := by simp [minstrs]
theorem minstrs_get {k : Int} {n i : Nat} (h : i < n) : (minstrs k n)[i]? = some ⟨k + 7 * i, k + 7 * i + 1, k + 7 * i + 1 + 1, k + 7 * i + 1 + 1 + 1, k + 7 * i + 1 + 1 + 1 + 1, k + 7 * i + 1 + 1 + 1 + 1 + 1, mtext (k + 7 * i + 1 + 1 + 1 + 1 + 1 + 1)⟩ := by simp [minstrs, h]
theorem own_empty {rows : Nm → Option Row} {a : AV} {ns : List Nm} (h : Own rows true [a] [.tr true []] ns) : a = .nilsl ∨ ∃ n ver off, a = .sl n ver off 0 := by
  rcases own_row_inv (xs := []) (s := 2) (fun e he => by simp at he) (by omega) h with ⟨_, _, h | ⟨n, ver, off, h, _⟩⟩ | ⟨n, ver, sp, h, _⟩
  · exact .inl h.1
  · exact .inr ⟨n, ver, off, h⟩
  · exact .inr ⟨n, ver, 0, h⟩

set_option maxHeartbeats 4000000 in
theorem markInstrS {h : Hp} {bs : Bx} {os : Ox} {w : AV} {xs : List Instr} {ns : List Nm} (x : Cx h bs ((w, (fun b => instrs b xs), ns) :: os)) (k : Int) (hk : 0 ≤ k) (hl : k + 7 * xs.length ≤ 2 ^ 62) :
    Sound Try.prog 77 [w, .int .i64 k] h fun v h' => v = .int .i64 (k + 7 * xs.length) ∧ Cx h' bs ((w, (fun b => instrs b (minstrs k xs.length)), ns) :: os) := by
  by_cases hne : xs = []
  · subst hne
    have hw := own_empty (own_of (x.o0 true) rfl)
    refine enter mixed MG7 Try.func77 rfl (by kernel_rfl) rfl ?_
    repeat' (first
     | with_reducible refine stp ?_
     | with_reducible refine k_blk_o rfl ?_
     | with_reducible refine k_seq_n ?_
     | ((try (conv => arg 1; simp [hk])); with_reducible refine evp ?_)
     | ((with_reducible refine apn ?na ?_); (case na => simp [appNames, ints, intss] <;> first | kernel_rfl | (refine ⟨?_, ?_⟩ <;> kernel_rfl)))
     | fail)
    refine st_loop (fun (i : Nat) σ h' => σ 0 = w ∧ σ 1 = .int .i64 k ∧ σ 5 = .int .i64 0 ∧ Cx h' bs ((w, (fun b => instrs b []), ns) :: os)) (fun i => 0) 0 ?init ?step
    case init => exact ⟨by simp, by simp, by simp, Cx.to x⟩
    case step =>
      rintro i σ h' ⟨h0, h1, h5, x'⟩
      rcases hw with rfl | ⟨n, ver, off, rfl⟩
      all_goals
        repeat' (first
         | with_reducible refine stp ?_
         | with_reducible refine k_blk_o rfl ?_
         | with_reducible refine k_seq_n ?_
         | ((try (conv => arg 1; simp [h0, h1, h5])); with_reducible refine evp ?_)
         | ((with_reducible refine apn ?na ?_); (case na => simp [appNames, ints, intss] <;> first | kernel_rfl | (refine ⟨?_, ?_⟩ <;> kernel_rfl)))
         | fail)
        exact ⟨by simp [resV], Cx.to x'⟩
  · obtain ⟨kk, ver, sp, rfl, rfl, q1, q2, y⟩ := x.open_flat (s := 7) (l := xs.map Instr.cells) (instrs_flat xs) (by omega) (by simpa using hne)
    rw [List.length_map]
    refine enter mixed MG7 Try.func77 rfl (by kernel_rfl) rfl ?_
    repeat' (first
     | with_reducible refine stp ?_
     | with_reducible refine k_blk_o rfl ?_
     | with_reducible refine k_seq_n ?_
     | ((try (conv => arg 1; simp [hk])); with_reducible refine evp ?_)
     | ((with_reducible refine apn ?na ?_); (case na => simp [appNames, ints, intss] <;> first | kernel_rfl | (refine ⟨?_, ?_⟩ <;> kernel_rfl)))
     | fail)
    refine st_loop (fun (i : Nat) σ h' => i ≤ xs.length ∧ σ 0 = .sl kk ver 0 xs.length ∧ σ 1 = .int .i64 (k + 7 * i) ∧ σ 5 = .int .i64 i ∧ ∃ ys : List Instr, ys.length = xs.length ∧ ys.take i = (minstrs k xs.length).take i ∧
      Cx h' ((kk, ⟨ver, 7, ys.map Instr.cells ++ sp⟩) :: bs) os) (fun i => xs.length - i) 0 ?init ?step
    case init => exact ⟨Nat.zero_le _, by simp, by simp, by simp, xs, rfl, rfl, Cx.to y⟩
    case step =>
      rintro i σ h' ⟨hi, h0, h1, h5, ys, hy, hyi, x'⟩
      have b := x'.bxs
      simp only [Bxs] at b
      have br := b.1
      have bt := b.2.1
      by_cases hlt : i < xs.length
      · have hlt2 : (i : Int) < xs.length := by omega
        have hl4 : i < ys.length := by omega
        have hes2 : ∀ e : Instr, (ys.map Instr.cells ++ sp).set i e.cells = (ys.set i e).map Instr.cells ++ sp := fun e => by
          rw [List.set_append_left _ _ (by simp; omega), List.map_set]
        obtain ⟨y1, y2, y3, y4, y5, y6, y7, hy2⟩ : ∃ (y1 y2 y3 y4 y5 y6 : Int) (y7 : ByteArray), ((ys.map Instr.cells) ++ sp)[i]? = some [.int .i64 y1, .int .i64 y2, .int .i64 y3, .int .i64 y4, .int .i64 y5, .int .i64 y6, .str y7] := by
          rw [List.getElem?_append_left (by simp; omega)]
          exact ⟨ys[i].Op, ys[i].D, ys[i].A, ys[i].B, ys[i].C, ys[i].N, ys[i].Text, by simp [hlt, hy, Instr.cells]⟩
        have hw : IntKind.i64.wrap (i + 1) = i + 1 := wrap_id (by omega) (by omega)
        have w1 : IntKind.i64.wrap (k + 7 * i + 1) = k + 7 * i + 1 := wrap_id (by omega) (by omega)
        have w2 : IntKind.i64.wrap (k + 7 * i + 1 + 1) = k + 7 * i + 1 + 1 := wrap_id (by omega) (by omega)
        have w3 : IntKind.i64.wrap (k + 7 * i + 1 + 1 + 1) = k + 7 * i + 1 + 1 + 1 := wrap_id (by omega) (by omega)
        have w4 : IntKind.i64.wrap (k + 7 * i + 1 + 1 + 1 + 1) = k + 7 * i + 1 + 1 + 1 + 1 := wrap_id (by omega) (by omega)
        have w5 : IntKind.i64.wrap (k + 7 * i + 1 + 1 + 1 + 1 + 1) = k + 7 * i + 1 + 1 + 1 + 1 + 1 := wrap_id (by omega) (by omega)
        have w6 : IntKind.i64.wrap (k + 7 * i + 1 + 1 + 1 + 1 + 1 + 1) = k + 7 * i + 1 + 1 + 1 + 1 + 1 + 1 := wrap_id (by omega) (by omega)
        have w7 : IntKind.i64.wrap (k + 7 * i + 1 + 1 + 1 + 1 + 1 + 1 + 1) = k + 7 * i + 1 + 1 + 1 + 1 + 1 + 1 + 1 := wrap_id (by omega) (by omega)
        have mt := markText (k + 7 * i + 1 + 1 + 1 + 1 + 1 + 1) (by omega)
        have hes2 := hes2 ⟨k + 7 * i, k + 7 * i + 1, k + 7 * i + 1 + 1, k + 7 * i + 1 + 1 + 1, k + 7 * i + 1 + 1 + 1 + 1, k + 7 * i + 1 + 1 + 1 + 1 + 1, mtext (k + 7 * i + 1 + 1 + 1 + 1 + 1 + 1)⟩
        have hlen : i < ((ys.map Instr.cells) ++ sp).length := by simp; omega
        generalize (ys.map Instr.cells) ++ sp = es at x' br hy2 hes2 hlen
        have hset : ∀ e, (es.set i e)[i]? = some e := fun e => List.getElem?_set_self hlen
        clear b
        repeat' (first
         | with_reducible refine stp ?_
         | with_reducible refine k_blk_o rfl ?_
         | with_reducible refine k_seq_n ?_
         | ((try (conv => arg 1; simp [h0, h1, h5, br, bt, hlt, hlt2, hy2, hset, hw, w1, w2, w3, w4, w5, w6, w7, ltS, nm_ne])); with_reducible refine evp ?_)
         | ((with_reducible refine apn ?na ?_); (case na => simp [appNames, ints, intss] <;> first | kernel_rfl | (refine ⟨?_, ?_⟩ <;> kernel_rfl)))
         | ((with_reducible refine tcl ?_); first | ((apply tg (mt)); (case e => rfl); (case d => (refine dq ?_); (repeat' (first | ((refine Da.mk ?_); first | assumption) | constructor)))))
         | fail)
        refine k_lp_n (i + 1) (by omega) ⟨by omega, by simp [h0], by simp; omega, by simp, ys.set i ⟨k + 7 * i, k + 7 * i + 1, k + 7 * i + 1 + 1, k + 7 * i + 1 + 1 + 1, k + 7 * i + 1 + 1 + 1 + 1, k + 7 * i + 1 + 1 + 1 + 1 + 1, mtext (k + 7 * i + 1 + 1 + 1 + 1 + 1 + 1)⟩, by simp [hy], ?_, ?_⟩
        · rw [List.take_add_one, List.take_add_one, minstrs_get hlt]
          simp [hyi, hy, hlt, List.take_set_of_le]
        · rw [← hes2]
          exact Cx.to x'
      · have hge : i = xs.length := by omega
        have hlt2 : ¬ (i : Int) < xs.length := by omega
        have e1 : ys = minstrs k xs.length := by
          subst hge
          rw [List.take_of_length_le (by omega), List.take_of_length_le (by simp [minstrs_length])] at hyi
          exact hyi
        repeat' (first
         | with_reducible refine stp ?_
         | with_reducible refine k_blk_o rfl ?_
         | with_reducible refine k_seq_n ?_
         | ((try (conv => arg 1; simp [h0, h1, h5, hlt2])); with_reducible refine evp ?_)
         | ((with_reducible refine apn ?na ?_); (case na => simp [appNames, ints, intss] <;> first | kernel_rfl | (refine ⟨?_, ?_⟩ <;> kernel_rfl)))
         | fail)
        rw [e1] at x'
        have z := x'.close_flat (instrs_flat _) q1 q2
        rw [List.length_map, minstrs_length] at z
        exact ⟨by simp [resV, hge], Cx.to z⟩
end Go.Proofs.Ytlmlkkkgcbpaoaa.AM

/-
  Blocks and graphs that are marked.
-/
set_option linter.unusedVariables false
set_option linter.unusedSimpArgs false
set_option maxRecDepth 4000
namespace Go.Proofs.Ytlmlkkkgcbpaoaa.AM
open Go.RowKit

private def MG16 : FuncId → Mode := fun f => if f = 77 ∨ f = 44 ∨ f = 21 then .heap else .tree

theorem Cx.block_split {h : Hp} {bs : Bx} {os : Ox} {l : List AV} {n : List Nm} {c : Block} (x : Cx h bs ((.agg l, (fun b => .agg (c.cells b)), n) :: os)) :
    ∃ w, l = [w, .int .i64 c.Jump, .int .i64 c.A, .int .i64 c.To, .int .i64 c.Else] ∧ Cx h bs ((w, (fun b => instrs b c.Code), n) :: os) := by
  obtain ⟨w, e, o⟩ := ownV_block (x.o0 true)
  cases e
  refine ⟨w, rfl, x.box, fun y hy b => ?_, x.nd, x.lt⟩
  simp only [List.mem_cons] at hy
  rcases hy with rfl | hy
  · obtain ⟨w', e', o'⟩ := ownV_block (x.o0 b)
    cases e'
    exact .one o'
  · exact x.own y (by simp [hy]) b
theorem Cx.graph_split {h : Hp} {bs : Bx} {os : Ox} {l : List AV} {n : List Nm} {g : Graph} (x : Cx h bs ((.agg l, (fun b => .agg (g.cells b)), n) :: os)) :
    ∃ w1 w2 n1 n2, l = [w1, .int .i64 g.Params, .int .i64 g.Vars, .int .i64 g.Slots, w2] ∧ n = n1 ++ n2 ∧ Cx h bs ((w1, (fun b => ints b g.Sizes), n1) :: (w2, (fun b => blocks b g.Blocks), n2) :: os) := by
  obtain ⟨w1, w2, n1, n2, e, en, o1, o2⟩ := ownV_graph (x.o0 true)
  cases e
  subst en
  refine ⟨w1, w2, n1, n2, rfl, rfl, x.box, fun y hy b => ?_, ?_, fun m hm => x.lt m ?_⟩
  · simp only [List.mem_cons] at hy
    rcases hy with rfl | rfl | hy
    · obtain ⟨w1', w2', m1, m2, e', _, p1, p2⟩ := ownV_graph (x.o0 b)
      cases e'
      rw [o1.det p1] at p1
      exact .one p1
    · obtain ⟨w1', w2', m1, m2, e', _, p1, p2⟩ := ownV_graph (x.o0 b)
      cases e'
      rw [o2.det p2] at p2
      exact .one p2
    · exact x.own y (by simp [hy]) b
  · have := x.nd
    simpa [nms, List.append_assoc] using this
  · simpa [nms, List.append_assoc] using hm

def bwt (b : Block) : Nat := 7 * b.Code.length + 4
def mblock (k : Int) (b : Block) : Block := ⟨minstrs k b.Code.length, k + 7 * b.Code.length, k + 7 * b.Code.length + 1, k + 7 * b.Code.length + 1 + 1, k + 7 * b.Code.length + 1 + 1 + 1⟩
def mblocks (k : Int) (xs : List Block) : List Block := (List.range xs.length).map fun i => match xs[i]? with | some b => mblock (k + gsum bwt xs i) b | none => ⟨[], 0, 0, 0, 0⟩
theorem mblocks_length (k : Int) (xs : List Block) : (mblocks k xs).length = xs.length := by simp [mblocks]
theorem mblocks_get {k : Int} {xs : List Block} {i : Nat} (h : i < xs.length) : (mblocks k xs)[i]? = some (mblock (k + gsum bwt xs i) xs[i]) := by simp [mblocks, h]
theorem five_flat {b : Bool} (l : List Block) : (l.map (Block.cells b)).flatten.length = l.length * 5 := by
  rw [flatten_len (s := 5) _ (fun e he => by simp at he; obtain ⟨a, _, rfl⟩ := he; rfl), List.length_map]

set_option maxHeartbeats 4000000 in
theorem markBlockS {h : Hp} {bs : Bx} {os : Ox} {w : AV} {xs : List Block} {ns : List Nm} (x : Cx h bs ((w, (fun b => blocks b xs), ns) :: os)) (k : Int) (hk : 0 ≤ k) (hl : k + gsum bwt xs xs.length ≤ 2 ^ 62) (hlx : xs.length ≤ 2 ^ 62) :
    Sound Try.prog 44 [w, .int .i64 k] h fun v h' => v = .int .i64 (k + gsum bwt xs xs.length) ∧ Cx h' bs ((w, (fun b => blocks b (mblocks k xs)), ns) :: os) := by
  by_cases hne : xs = []
  · subst hne
    have hw := own_empty (own_of (x.o0 true) rfl)
    refine enter mixed MG16 Try.func44 rfl (by kernel_rfl) rfl ?_
    repeat' (first
     | with_reducible refine stp ?_
     | with_reducible refine k_blk_o rfl ?_
     | with_reducible refine k_seq_n ?_
     | ((try (conv => arg 1; simp [hk])); with_reducible refine evp ?_)
     | ((with_reducible refine apn ?na ?_); (case na => simp [appNames, ints, intss] <;> first | kernel_rfl | (refine ⟨?_, ?_⟩ <;> kernel_rfl)))
     | fail)
    refine st_loop (fun (i : Nat) σ h' => σ 0 = w ∧ σ 1 = .int .i64 k ∧ σ 5 = .int .i64 0 ∧ Cx h' bs ((w, (fun b => blocks b []), ns) :: os)) (fun i => 0) 0 ?init ?step
    case init => exact ⟨by simp, by simp, by simp, Cx.to x⟩
    case step =>
      rintro i σ h' ⟨h0, h1, h5, x'⟩
      rcases hw with rfl | ⟨n, ver, off, rfl⟩
      all_goals
        repeat' (first
         | with_reducible refine stp ?_
         | with_reducible refine k_blk_o rfl ?_
         | with_reducible refine k_seq_n ?_
         | ((try (conv => arg 1; simp [h0, h1, h5])); with_reducible refine evp ?_)
         | ((with_reducible refine apn ?na ?_); (case na => simp [appNames, ints, intss] <;> first | kernel_rfl | (refine ⟨?_, ?_⟩ <;> kernel_rfl)))
         | fail)
        exact ⟨by simp [resV, gsum], Cx.to x'⟩
  · obtain ⟨kk, ver, es, sp, ns1, rfl, rfl, hel, he5, q1, q2, y⟩ := x.open_row (s := 5) (ts := fun b => xs.map (Block.cells b)) (by omega) (fun b t ht => by simp at ht; obtain ⟨a, _, rfl⟩ := ht; rfl) (by simpa using hne)
    have hel2 : es.length = xs.length := by simpa using hel
    rw [hel2]
    refine enter mixed MG16 Try.func44 rfl (by kernel_rfl) rfl ?_
    repeat' (first
     | with_reducible refine stp ?_
     | with_reducible refine k_blk_o rfl ?_
     | with_reducible refine k_seq_n ?_
     | ((try (conv => arg 1; simp [hk])); with_reducible refine evp ?_)
     | ((with_reducible refine apn ?na ?_); (case na => simp [appNames, ints, intss] <;> first | kernel_rfl | (refine ⟨?_, ?_⟩ <;> kernel_rfl)))
     | fail)
    refine st_loop (fun (i : Nat) σ h' => i ≤ xs.length ∧ σ 0 = .sl kk ver 0 xs.length ∧ σ 1 = .int .i64 (k + gsum bwt xs i) ∧ σ 5 = .int .i64 i ∧ ∃ es : List (List AV), es.length = xs.length ∧ (∀ e ∈ es, e.length = 5) ∧
      Cx h' ((kk, ⟨ver, 5, es ++ sp⟩) :: bs) ((.agg es.flatten, (fun b => .agg (((mblocks k xs).take i ++ xs.drop i).map (Block.cells b)).flatten), ns1) :: os)) (fun i => xs.length - i) 0 ?init ?step
    case init => exact ⟨Nat.zero_le _, by simp, by simp [gsum_zero], by simp, es, hel2, he5, Cx.to y⟩
    case step =>
      rintro i σ h' ⟨hi, h0, h1, h5, es, hle, he5, y⟩
      by_cases hlt : i < xs.length
      · have hlt2 : (i : Int) < xs.length := by omega
        have hg := gsum_succ bwt xs i hlt
        have hg2 := gsum_le bwt xs (i + 1)
        have hb : bwt xs[i] = 7 * xs[i].Code.length + 4 := rfl
        have ees : es = es.take i ++ (es[i] :: es.drop (i + 1)) := by rw [← List.drop_eq_getElem_cons (by omega), List.take_append_drop]
        have exs : xs.drop i = xs[i] :: xs.drop (i + 1) := List.drop_eq_getElem_cons hlt
        have f1 : es.flatten = (es.take i).flatten ++ (es[i] ++ (es.drop (i + 1)).flatten) := by
          have := congrArg List.flatten ees
          rw [List.flatten_append, List.flatten_cons] at this
          exact this
        have f2 : ∀ b, (((mblocks k xs).take i ++ xs.drop i).map (Block.cells b)).flatten = (((mblocks k xs).take i).map (Block.cells b)).flatten ++ (xs[i].cells b ++ ((xs.drop (i + 1)).map (Block.cells b)).flatten) := fun b => by
          rw [exs, List.map_append, List.flatten_append, List.map_cons, List.flatten_cons]
        have y0 := y
        rw [f1] at y0
        simp only [f2] at y0
        have ht5 : (es.take i).flatten.length = i * 5 := by rw [flatten_len (s := 5) _ (fun e he => he5 e (List.mem_of_mem_take he))]; simp; omega
        obtain ⟨m1, m2, en1, y1⟩ := Cx.agg_split (t1 := fun b => (((mblocks k xs).take i).map (Block.cells b)).flatten) (t2 := fun b => xs[i].cells b ++ ((xs.drop (i + 1)).map (Block.cells b)).flatten) (fun b => by rw [five_flat, ht5]; simp [mblocks_length]; omega) y0
        obtain ⟨m3, m4, en2, y2⟩ := Cx.agg_split (t1 := fun b => xs[i].cells b) (t2 := fun b => ((xs.drop (i + 1)).map (Block.cells b)).flatten) (fun b => by rw [block_len, he5 _ (List.getElem_mem _)]) y1
        obtain ⟨w, ew, y3⟩ := Cx.block_split y2.rot1
        have qw := own_one' (own_of (y3.o0 true) rfl)
        have hx : (es ++ sp)[i]? = some [w, .int .i64 xs[i].Jump, .int .i64 xs[i].A, .int .i64 xs[i].To, .int .i64 xs[i].Else] := by
          rw [List.getElem?_append_left (by omega), List.getElem?_eq_getElem (by omega), ew]
        have b := y3.bxs
        simp only [Bxs] at b
        have br := b.1
        have bt := b.2.1
        clear b
        repeat' (first
         | with_reducible refine stp ?_
         | with_reducible refine k_blk_o rfl ?_
         | with_reducible refine k_seq_n ?_
         | ((try (conv => arg 1; simp [h0, h1, h5, br, bt, hlt, hlt2, hx, qw.1, ltS, nm_ne])); with_reducible refine evp ?_)
         | ((with_reducible refine apn ?na ?_); (case na => simp [appNames, ints, intss] <;> first | kernel_rfl | (refine ⟨?_, ?_⟩ <;> kernel_rfl)))
         | fail)
        refine st_heap rfl (markInstrS y3.next.next (k + gsum bwt xs i) (by omega) (by omega)) ?_
        rintro v h2 ⟨rfl, y4⟩
        have b := y4.bxs
        simp only [Bxs] at b
        have br := b.1
        have bt := b.2.1
        clear b
        have hlen : i < (es ++ sp).length := by simp; omega
        have hset : ∀ e, ((es ++ sp).set i e)[i]? = some e := fun e => List.getElem?_set_self hlen
        have hes2 : ∀ e : List AV, (es ++ sp).set i e = es.set i e ++ sp := fun e => List.set_append_left _ _ (by omega)
        have hw : IntKind.i64.wrap (i + 1) = i + 1 := wrap_id (by omega) (by omega)
        generalize hK : (k : Int) + gsum bwt xs i + 7 * xs[i].Code.length = K at *
        have w1 : IntKind.i64.wrap (K + 1) = K + 1 := wrap_id (by omega) (by omega)
        have w2 : IntKind.i64.wrap (K + 1 + 1) = K + 1 + 1 := wrap_id (by omega) (by omega)
        have w3 : IntKind.i64.wrap (K + 1 + 1 + 1) = K + 1 + 1 + 1 := wrap_id (by omega) (by omega)
        have w4 : IntKind.i64.wrap (K + 1 + 1 + 1 + 1) = K + 1 + 1 + 1 + 1 := wrap_id (by omega) (by omega)
        have hes2 := hes2 [w, .int .i64 K, .int .i64 (K + 1), .int .i64 (K + 1 + 1), .int .i64 (K + 1 + 1 + 1)]
        generalize hE : es ++ sp = E at y4 br hx hes2 hlen hset
        repeat' (first
         | with_reducible refine stp ?_
         | with_reducible refine k_blk_o rfl ?_
         | with_reducible refine k_seq_n ?_
         | ((try (conv => arg 1; simp [h0, h1, h5, br, bt, hlt, hlt2, hx, hset, hw, w1, w2, w3, w4, qw.1, ltS, nm_ne])); with_reducible refine evp ?_)
         | ((with_reducible refine apn ?na ?_); (case na => simp [appNames, ints, intss] <;> first | kernel_rfl | (refine ⟨?_, ?_⟩ <;> kernel_rfl)))
         | fail)
        refine k_lp_n (i + 1) (by omega) ⟨by omega, by simp [h0], by simp; omega, by simp, es.set i [w, .int .i64 K, .int .i64 (K + 1), .int .i64 (K + 1 + 1), .int .i64 (K + 1 + 1 + 1)], by simp [hle], fun e he => ?_, ?_⟩
        · rcases List.mem_or_eq_of_mem_set he with he | rfl
          · exact he5 e he
          · rfl
        have eM : mblock (k + gsum bwt xs i) xs[i] = ⟨minstrs (k + gsum bwt xs i) xs[i].Code.length, K, K + 1, K + 1 + 1, K + 1 + 1 + 1⟩ := by simp only [mblock, hK]
        have y5 := (y4.block_join (c := mblock (k + gsum bwt xs i) xs[i])).perm (List.Perm.swap _ _ _)
        have y6 := (Cx.agg_app y5).agg_app
        have f3 : (es.set i [w, .int .i64 K, .int .i64 (K + 1), .int .i64 (K + 1 + 1), .int .i64 (K + 1 + 1 + 1)]).flatten = (es.take i).flatten ++ ([w, .int .i64 K, .int .i64 (K + 1), .int .i64 (K + 1 + 1), .int .i64 (K + 1 + 1 + 1)] ++ (es.drop (i + 1)).flatten) := by
          rw [List.set_eq_take_append_cons_drop, if_pos (by omega)]
          simp
        have f4 : ∀ b, (((mblocks k xs).take (i + 1) ++ xs.drop (i + 1)).map (Block.cells b)).flatten = (((mblocks k xs).take i).map (Block.cells b)).flatten ++ ((mblock (k + gsum bwt xs i) xs[i]).cells b ++ ((xs.drop (i + 1)).map (Block.cells b)).flatten) := fun b => by
          rw [List.take_add_one, mblocks_get hlt]; simp
        rw [f3, en1, en2, ← hes2]
        simp only [f4]
        rw [eM] at y6 ⊢
        exact Cx.to y6
      · have hge : i = xs.length := by omega
        have hlt2 : ¬ (i : Int) < xs.length := by omega
        repeat' (first
         | with_reducible refine stp ?_
         | with_reducible refine k_blk_o rfl ?_
         | with_reducible refine k_seq_n ?_
         | ((try (conv => arg 1; simp [h0, h1, h5, hlt2])); with_reducible refine evp ?_)
         | ((with_reducible refine apn ?na ?_); (case na => simp [appNames, ints, intss] <;> first | kernel_rfl | (refine ⟨?_, ?_⟩ <;> kernel_rfl)))
         | fail)
        rw [hge, List.take_of_length_le (by rw [mblocks_length]; omega), List.drop_of_length_le (Nat.le_refl _), List.append_nil] at y
        have z := y.close_row (ts := fun b => (mblocks k xs).map (Block.cells b)) he5 (fun b => by simp [mblocks_length, hle]) (fun b t ht => by simp at ht; obtain ⟨a, _, rfl⟩ := ht; rfl) q1 q2
        rw [hle] at z
        exact ⟨by simp [resV, hge], Cx.to z⟩

def Graph.tot (g : Graph) : Nat := g.Sizes.length + gsum bwt g.Blocks g.Blocks.length
def mgraph (k : Int) (g : Graph) : Graph := { g with Sizes := marks k g.Sizes.length, Blocks := mblocks (k + g.Sizes.length) g.Blocks }
theorem bwt_sum (xs : List Block) (i : Nat) (hi : i ≤ xs.length) : gsum bwt xs i ≤ 7 * gsum wtB xs i + 4 * i := by
  induction i with
  | zero => simp [gsum_zero]
  | succ i ih =>
    have h1 := gsum_succ bwt xs i (by omega)
    have h2 := gsum_succ wtB xs i (by omega)
    have h3 : xs[i].Code.length ≤ wtB xs[i] := wtIS_len
    have h4 : bwt xs[i] = 7 * xs[i].Code.length + 4 := rfl
    have := ih (by omega)
    omega
theorem Graph.Small.tot {g : Graph} (h : g.Small) : g.tot ≤ 2 ^ 24 := by
  have h1 := h.sizes
  have h2 := h.blocks
  have h3 := bwt_sum g.Blocks g.Blocks.length (Nat.le_refl _)
  unfold wtBS at h2
  unfold Graph.tot
  omega

set_option maxHeartbeats 1000000 in
theorem markGraph {h : Hp} {bs : Bx} {os : Ox} {l : List AV} {ns : List Nm} {g : Graph} (x : Cx h bs ((.agg l, (fun b => .agg (g.cells b)), ns) :: os)) (hs : g.Small) (k : Int) (hk : 0 ≤ k) (hk2 : k ≤ 2 ^ 40) :
    Sound Try.prog 20 [.agg l, .int .i64 k] h fun v h' => v = .int .i64 (k + g.tot) ∧ Cx h' bs ((.agg l, (fun b => .agg ((mgraph k g).cells b)), ns) :: os) := by
  have ht := hs.tot
  have hsz := hs.sizes
  have hln := hs.len
  have ht2 : g.tot = g.Sizes.length + gsum bwt g.Blocks g.Blocks.length := rfl
  obtain ⟨w1, w2, n1, n2, rfl, rfl, y⟩ := x.graph_split
  have q1 := own_one (own_of (y.o0 true) rfl)
  have q2 := own_one' (own_of (y.o1 true) rfl)
  refine enter mixed MG16 Try.func20 rfl (by kernel_rfl) rfl ?_
  repeat' (first
   | with_reducible refine stp ?_
   | with_reducible refine k_blk_o rfl ?_
   | ((try (conv => arg 1; simp [q1.1, q2.1])); with_reducible refine evp ?_)
   | ((with_reducible refine apn ?na ?_); (case na => simp [appNames, ints, intss] <;> first | kernel_rfl | (refine ⟨?_, ?_⟩ <;> kernel_rfl)))
   | fail)
  refine cx_k (y.next.box_one (i := 0) y.off (by simp)) ?_
  intro h1 x1
  have b1 := x1.bxs
  simp only [Bxs] at b1
  repeat' (first
   | with_reducible refine stp ?_
   | with_reducible refine k_blk_o rfl ?_
   | with_reducible refine k_seq_n ?_
   | ((try (conv => arg 1; simp [b1, ltS, nm_ne, q1.1, q2.1])); with_reducible refine evp ?_)
   | ((with_reducible refine apn ?na ?_); (case na => simp [appNames, ints, intss] <;> first | kernel_rfl | (refine ⟨?_, ?_⟩ <;> kernel_rfl)))
   | fail)
  have o1 := own_of (x1.next.o0 true) rfl
  refine st_heap rfl (markIntS o1 x1.next.lts k hk (by omega)) ?_
  rintro v h2 ⟨rfl, p1, p2, p3⟩
  have x2 := x1.next.mark (h' := h2) (t' := fun b => ints b (marks k g.Sizes.length)) (fun b => .one (p1 b)) (fun n a _ => p2 n a) p3
  have b2 := x2.bxs
  simp only [Bxs] at b2
  repeat' (first
   | with_reducible refine stp ?_
   | with_reducible refine k_blk_o rfl ?_
   | with_reducible refine k_seq_n ?_
   | ((try (conv => arg 1; simp [b2, ltS, nm_ne, q1.1, q2.1])); with_reducible refine evp ?_)
   | ((with_reducible refine apn ?na ?_); (case na => simp [appNames, ints, intss] <;> first | kernel_rfl | (refine ⟨?_, ?_⟩ <;> kernel_rfl)))
   | fail)
  refine st_heap rfl (markBlockS (x2.next.perm (List.Perm.swap _ _ _)) (k + g.Sizes.length) (by omega) (by omega) (by omega)) ?_
  rintro v h3 ⟨rfl, x3⟩
  repeat' (first
   | with_reducible refine stp ?_
   | with_reducible refine k_blk_o rfl ?_
   | with_reducible refine k_seq_n ?_
   | ((try (conv => arg 1; simp [hk])); with_reducible refine evp ?_)
   | ((with_reducible refine apn ?na ?_); (case na => simp [appNames, ints, intss] <;> first | kernel_rfl | (refine ⟨?_, ?_⟩ <;> kernel_rfl)))
   | fail)
  refine ⟨?_, ?_⟩
  · simp only [resV, ht2]
    congr 1
    push_cast
    omega
  · exact (Cx.graph_join (g := mgraph k g) (Cx.to (x3.box_drop.perm (List.Perm.swap _ _ _))))
end Go.Proofs.Ytlmlkkkgcbpaoaa.AM

/-
  A chain of blocks: the plain law.
-/
set_option linter.unusedVariables false
set_option linter.unusedSimpArgs false
set_option maxRecDepth 4000
namespace Go.Proofs.Ytlmlkkkgcbpaoaa.AM
open Go.RowKit

def rdI (l : List Int) (i : Int) : Int := l.getD i.toNat 0
theorem rdI_at {l : List Int} {i : Nat} (h : i < l.length) : rdI l (i : Int) = l[i] := by simp [rdI, h]
def nextL (b : Block) : List Int := if b.Jump = 0 then [b.To] else if b.Jump = 1 then [b.To, b.Else] else []
/-- The better one of those that one comes to and that are not there. -/
def bst (l : List Int) (th : List Bool) : List Int → Int → Int
  | [], b => b
  | t :: ts, b => bst l th ts (if (!(th.getD t.toNat true)) && (decide (b < 0) || decide (rdI l b < rdI l t)) then t else b)
def chNext (g : Graph) (l : List Int) (th : List Bool) (at_ : Int) : Int :=
  let b := bst l th (nextL (g.Blocks.getD at_.toNat ⟨[], 0, 0, 0, 0⟩)) (-1)
  if b < 0 then idxOf (fun x => !x) th else b
def ch (g : Graph) (l : List Int) : Nat → List Int × List Bool
  | 0 => ([], List.replicate g.Blocks.length false)
  | k + 1 =>
    let at_ := if k = 0 then 0 else chNext g l (ch g l k).2 ((ch g l k).1.getLastD 0)
    ((ch g l k).1 ++ [at_], (ch g l k).2.set at_.toNat true)
def chAt (g : Graph) (l : List Int) (k : Nat) : Int := if k = 0 then 0 else chNext g l (ch g l k).2 ((ch g l k).1.getLastD 0)
theorem ch_succ (g : Graph) (l : List Int) (k : Nat) : ch g l (k + 1) = ((ch g l k).1 ++ [chAt g l k], (ch g l k).2.set (chAt g l k).toNat true) := rfl
def hasI (xs : List Int) (v : Int) : Bool := xs.any fun x => decide (v = x)

/-- A block that is there, and not yet. -/
def Free (n : Nat) (th : List Bool) (t : Int) : Prop := 0 ≤ t ∧ t < n ∧ th.getD t.toNat true = false
theorem bst_free {n : Nat} {l : List Int} {th : List Bool} : ∀ (ts : List Int) (b : Int), (∀ t ∈ ts, 0 ≤ t ∧ t < n) → (b = -1 ∨ Free n th b) → (bst l th ts b = -1 ∨ Free n th (bst l th ts b))
  | [], b, _, hb => hb
  | t :: ts, b, ht, hb => by
    unfold bst
    refine bst_free ts _ (fun t' ht' => ht t' (by simp [ht'])) ?_
    split
    · rename_i h
      simp only [Bool.and_eq_true, Bool.not_eq_true'] at h
      exact .inr ⟨(ht t (by simp)).1, (ht t (by simp)).2, h.1⟩
    · exact hb
theorem idx_free {th : List Bool} : (idxOf (fun x => !x) th = -1 ∧ ∀ x ∈ th, x = true) ∨ Free th.length th (idxOf (fun x => !x) th) := by
  cases h : th.any fun x => !x with
  | false =>
    left
    refine ⟨by simp [idxOf, h], fun x hx => ?_⟩
    rw [List.any_eq_false] at h
    have := h x hx
    simpa using this
  | true =>
    right
    have e : idxOf (fun x => !x) th = (th.findIdx fun x => !x : Nat) := by simp [idxOf, h]
    have hlt : (th.findIdx fun x => !x) < th.length := List.findIdx_lt_length.2 (List.any_eq_true.1 h)
    rw [e]
    refine ⟨by omega, by omega, ?_⟩
    have := List.findIdx_getElem (w := hlt)
    simp [hlt] at this ⊢
    exact this

/-- What is known behind so many blocks. -/
structure ChOk (g : Graph) (l : List Int) (k : Nat) : Prop where
  len : (ch g l k).1.length = k
  tlen : (ch g l k).2.length = g.Blocks.length
  cnt : (ch g l k).2.count true = k
  rel : ∀ i, i < g.Blocks.length → (ch g l k).2.getD i true = hasI (ch g l k).1 i
  mem : ∀ x ∈ (ch g l k).1, 0 ≤ x ∧ x < g.Blocks.length
theorem next_ok {g : Graph} (hg : graphOk g = true) {i : Nat} (hi : i < g.Blocks.length) : ∀ t ∈ nextL g.Blocks[i], 0 ≤ t ∧ t < g.Blocks.length := by
  simp only [graphOk, Bool.and_eq_true, List.all_eq_true] at hg
  have hb := hg.2 _ (List.getElem_mem hi)
  unfold blockOk at hb
  simp only [Bool.and_eq_true] at hb
  have hb := hb.2
  intro t ht
  unfold nextL at ht
  split at ht
  · rename_i h
    simp at ht
    subst ht
    rw [if_pos h] at hb
    simp only [inB, Bool.and_eq_true, decide_eq_true_eq] at hb
    omega
  · rename_i h
    split at ht
    · rename_i h'
      rw [if_neg h, if_pos h'] at hb
      simp only [inB, Bool.and_eq_true, decide_eq_true_eq] at hb
      simp at ht
      rcases ht with rfl | rfl <;> omega
    · simp at ht
theorem hasI_append (xs : List Int) (a v : Int) : hasI (xs ++ [a]) v = (hasI xs v || decide (v = a)) := by simp [hasI]
theorem ch_ok {g : Graph} (hg : graphOk g = true) (l : List Int) : ∀ k, k ≤ g.Blocks.length → ChOk g l k ∧ (k < g.Blocks.length → Free g.Blocks.length (ch g l k).2 (chAt g l k)) ∧ (0 < k → k = g.Blocks.length → chAt g l k = -1) := by
  have hnb : 1 ≤ g.Blocks.length := by
    simp only [graphOk, Bool.and_eq_true] at hg
    exact (headOk_head hg.1.1).blocks.1
  have step : ∀ k, k ≤ g.Blocks.length → ChOk g l k → (k < g.Blocks.length → Free g.Blocks.length (ch g l k).2 (chAt g l k)) ∧ (0 < k → k = g.Blocks.length → chAt g l k = -1) := by
    intro k hk C
    by_cases h0 : k = 0
    · subst h0
      refine ⟨fun _ => ⟨by simp [chAt], by simp [chAt]; omega, ?_⟩, fun h => by omega⟩
      have hp : 0 < g.Blocks.length := by omega
      simp [chAt, ch, hp]
    · have hne : (ch g l k).1 ≠ [] := fun e => by have := C.len; rw [e] at this; simp at this; omega
      have hlast : (ch g l k).1.getLastD 0 ∈ (ch g l k).1 := by
        rw [List.getLastD_eq_getLast?, List.getLast?_eq_some_getLast hne]
        exact List.getLast_mem hne
      have hm := C.mem _ hlast
      obtain ⟨a, ha⟩ : ∃ a : Nat, (ch g l k).1.getLastD 0 = (a : Int) := ⟨((ch g l k).1.getLastD 0).toNat, by omega⟩
      have hal : a < g.Blocks.length := by omega
      have hblk : g.Blocks.getD a ⟨[], 0, 0, 0, 0⟩ = g.Blocks[a] := by simp [hal]
      have hb := bst_free (l := l) (th := (ch g l k).2) (nextL g.Blocks[a]) (-1) (next_ok hg hal) (.inl rfl)
      have hs : chAt g l k = if bst l (ch g l k).2 (nextL g.Blocks[a]) (-1) < 0 then idxOf (fun x => !x) (ch g l k).2 else bst l (ch g l k).2 (nextL g.Blocks[a]) (-1) := by
        unfold chAt chNext
        rw [if_neg h0, ha, Int.toNat_natCast, hblk]
      have hi := idx_free (th := (ch g l k).2)
      rw [C.tlen] at hi
      refine ⟨fun hlt => ?_, fun _ hkn => ?_⟩
      · rw [hs]
        rcases hb with hb | hb
        · rw [hb, if_pos (by omega)]
          rcases hi with ⟨_, hi⟩ | hi
          · exfalso
            have : (ch g l k).2.count true = (ch g l k).2.length := List.count_eq_length.2 fun b hb => (hi b hb).symm
            rw [C.cnt, C.tlen] at this
            omega
          · exact hi
        · rw [if_neg (by have := hb.1; omega)]
          exact hb
      · have hall : ∀ b ∈ (ch g l k).2, true = b := List.count_eq_length.1 (by rw [C.cnt, C.tlen]; exact hkn)
        have nofree : ∀ t, ¬ Free g.Blocks.length (ch g l k).2 t := fun t ⟨f1, f2, f3⟩ => by
          have hlt : t.toNat < (ch g l k).2.length := by rw [C.tlen]; omega
          have := hall _ (List.getElem_mem hlt)
          simp [hlt] at f3
          rw [f3] at this
          cases this
        rw [hs]
        rcases hb with hb | hb
        · rw [hb, if_pos (by omega)]
          rcases hi with ⟨hi, _⟩ | hi
          · exact hi
          · exact absurd hi (nofree _)
        · exact absurd hb (nofree _)
  intro k
  induction k with
  | zero =>
    intro hk
    have C : ChOk g l 0 := ⟨rfl, by simp [ch], by simp [ch, List.count_replicate], fun i hi => by simp [ch, hasI, hi], fun x hx => by simp [ch] at hx⟩
    exact ⟨C, step 0 hk C⟩
  | succ k ih =>
    intro hk
    obtain ⟨C, F, _⟩ := ih (by omega)
    obtain ⟨f1, f2, f3⟩ := F (by omega)
    obtain ⟨a, ha⟩ : ∃ a : Nat, chAt g l k = (a : Int) := ⟨(chAt g l k).toNat, by omega⟩
    rw [ha, Int.toNat_natCast] at f3
    have hal : a < (ch g l k).2.length := by rw [C.tlen]; omega
    have hfa : (ch g l k).2[a] = false := by simpa [hal] using f3
    have C' : ChOk g l (k + 1) := by
      refine ⟨by rw [ch_succ]; simp [C.len], by rw [ch_succ]; simp [C.tlen], ?_, fun i hi => ?_, fun x hx => ?_⟩
      · rw [ch_succ, ha]
        simp only [Int.toNat_natCast]
        rw [List.count_set hal]
        simp [hfa, C.cnt]
      · rw [ch_succ, ha]
        simp only [Int.toNat_natCast]
        rw [hasI_append, ← C.rel i hi]
        have hil : i < (ch g l k).2.length := by rw [C.tlen]; exact hi
        by_cases e : i = a
        · subst e
          simp [hil]
        · have e2 : ¬ (i : Int) = (a : Int) := by omega
          have e3 : ¬ a = i := fun h => e h.symm
          simp [hil, e2, List.getElem_set, e3]
      · rw [ch_succ] at hx
        simp only [List.mem_append, List.mem_singleton] at hx
        rcases hx with hx | rfl
        · exact C.mem x hx
        · exact ⟨f1, f2⟩
    exact ⟨C', step (k + 1) hk C'⟩
def chainR (g : Graph) (l : List Int) : List Int := if graphOk g = true ∧ l.length = g.Blocks.length then (ch g l g.Blocks.length).1 else []
end Go.Proofs.Ytlmlkkkgcbpaoaa.AM

/-
  A chain of blocks: what both sides call.
-/
set_option linter.unusedVariables false
set_option linter.unusedSimpArgs false
set_option maxRecDepth 4000
namespace Go.Proofs.Ytlmlkkkgcbpaoaa.AM
open Go.RowKit

private def MG18 : FuncId → Mode := fun f => .tree

def bools (b : Bool) (l : List Bool) : AV := .tr b (l.map fun x => [.bool x])
@[simp] theorem one_bools (b : Bool) (xs : List Bool) : (bools b xs).one = true := rfl
@[simp] theorem stored_bools (b : Bool) (xs : List Bool) : (bools b xs).stored = true := rfl
@[simp] theorem cells_bools (b : Bool) (xs : List Bool) : (bools b xs).cells = [bools b xs] := rfl
theorem lenA_bools {P : Program} {t : TypeId} (b : Bool) (xs : List Bool) (h : (telem P t).isSome = true) : lenA P t (bools b xs) = some (.int .i64 xs.length) := by
  unfold bools
  rw [lenA_tr b _ h]
  simp
attribute [simp] lenA_bools
theorem dr_row1 {c : Bool} {rows : Nm → Option Row} {n : Nm} {ver : Nat} {l : List (List AV)} (h : rows n = some ⟨ver, 1, l⟩) (hf : ∀ e ∈ l, ∀ x ∈ e, flatc x = true) : DR c rows (.sl n ver 0 l.length) (.tr c l) := by
  refine .sl n ver 0 l.length _ _ h rfl (by simp) rfl (fun i e t he ht => ?_) (fun i e t j x y he ht hx hy => ?_)
  · simp only [Nat.zero_add] at he
    rw [he] at ht; cases ht; rfl
  · simp only [Nat.zero_add] at he
    rw [he] at ht; cases ht
    rw [hx] at hy; cases hy
    exact dr_flatc (hf e (List.mem_of_getElem? he) x (List.mem_of_getElem? hx))
theorem dr_bools_sl {c : Bool} {rows : Nm → Option Row} {n : Nm} {ver : Nat} {l : List Bool} (h : rows n = some ⟨ver, 1, l.map fun x => [.bool x]⟩) : DR c rows (.sl n ver 0 l.length) (bools c l) := by
  have := dr_row1 (c := c) h (fun e he x hx => by obtain ⟨a, _, rfl⟩ := List.mem_map.1 he; simp at hx; subst hx; rfl)
  rw [List.length_map] at this
  exact this
theorem dr_ints_sl {c : Bool} {rows : Nm → Option Row} {n : Nm} {ver : Nat} {l : List Int} (h : rows n = some ⟨ver, 1, cl1 l⟩) : DR c rows (.sl n ver 0 l.length) (ints c l) := by
  have := dr_row1 (c := c) h (fun e he x hx => by simp [cl1] at he; obtain ⟨a, _, rfl⟩ := he; simp at hx; subst hx; rfl)
  unfold cl1 at this
  rw [List.length_map] at this
  exact this

theorem indexI (l : List Int) (v : Int) (hl : l.length ≤ 2 ^ 62) : Pure Try.prog 78 [ints true l, .int .i64 v] (.int .i64 (idxOf (fun x => decide (v = x)) l)) := by
  intro T
  refine enter mixed MG18 Try.func78 rfl (by kernel_rfl) rfl ?_
  repeat' (first
   | with_reducible refine stp ?_
   | with_reducible refine k_blk_o rfl ?_
   | with_reducible refine k_seq_n ?_
   | ((try (conv => arg 1; simp)); with_reducible refine evp ?_)
   | ((with_reducible refine apn ?na ?_); (case na => simp [appNames, ints, intss] <;> first | kernel_rfl | (refine ⟨?_, ?_⟩ <;> kernel_rfl)))
   | fail)
  refine st_loop (fun (i : Nat) σ h => i ≤ l.length ∧ σ 0 = ints true l ∧ σ 1 = .int .i64 v ∧ σ 7 = .int .i64 l.length ∧ σ 8 = .int .i64 i ∧ ∀ j (hj : j < l.length), j < i → decide (v = l[j]) = false) (fun i => l.length - i) 0 ?init ?step
  case init =>
    refine ⟨Nat.zero_le _, by simp, by simp, by simp, by simp, fun j hj h => by omega⟩
  case step =>
    rintro i σ h ⟨hi, h0, h1, h7, h8, hb4⟩
    by_cases hlt : i < l.length
    · have hlt2 : (i : Int) < l.length := by omega
      have hx : l[i]? = some l[i] := by simp
      have hw : IntKind.i64.wrap (i + 1) = i + 1 := wrap_id (by omega) (by omega)
      by_cases he : v = l[i]
      · skip
        repeat' (first
         | with_reducible refine stp ?_
         | with_reducible refine k_blk_o rfl ?_
         | with_reducible refine k_seq_n ?_
         | ((try (conv => arg 1; simp [ints, h0, h1, h7, h8, hlt2, hx, ← he])); with_reducible refine evp ?_)
         | ((with_reducible refine apn ?na ?_); (case na => simp [appNames, ints, intss] <;> first | kernel_rfl | (refine ⟨?_, ?_⟩ <;> kernel_rfl)))
         | fail)
        exact dr_int (idxOf_hit (p := fun x => decide (v = x)) hlt hb4 (by simpa using he)).symm
      · skip
        repeat' (first
         | with_reducible refine stp ?_
         | with_reducible refine k_blk_o rfl ?_
         | with_reducible refine k_seq_n ?_
         | ((try (conv => arg 1; simp [ints, h0, h1, h7, h8, hlt2, hx, he, hw])); with_reducible refine evp ?_)
         | ((with_reducible refine apn ?na ?_); (case na => simp [appNames, ints, intss] <;> first | kernel_rfl | (refine ⟨?_, ?_⟩ <;> kernel_rfl)))
         | fail)
        refine k_lp_n (i + 1) (by omega) ⟨by omega, by simp [h0], by simp [h1], by simp [h7], by simp, fun j hj hji => ?_⟩
        by_cases e : j = i
        · subst e; simpa using he
        · exact hb4 j hj (by omega)
    · have hlt2 : ¬ (i : Int) < l.length := by omega
      repeat' (first
       | with_reducible refine stp ?_
       | with_reducible refine k_blk_o rfl ?_
       | with_reducible refine k_seq_n ?_
       | ((try (conv => arg 1; simp [h7, h8, hlt2])); with_reducible refine evp ?_)
       | ((with_reducible refine apn ?na ?_); (case na => simp [appNames, ints, intss] <;> first | kernel_rfl | (refine ⟨?_, ?_⟩ <;> kernel_rfl)))
       | fail)
      exact dr_int (idxOf_miss (p := fun x => decide (v = x)) fun j hj => hb4 j hj (by omega)).symm
theorem containsI (l : List Int) (v : Int) (hl : l.length ≤ 2 ^ 62) : Pure Try.prog 49 [ints true l, .int .i64 v] (.bool (hasI l v)) := by
  intro T
  have I := indexI l v hl
  refine enter mixed MG18 Try.func49 rfl (by kernel_rfl) rfl ?_
  repeat' (first
   | with_reducible refine stp ?_
   | with_reducible refine k_blk_o rfl ?_
   | with_reducible refine k_seq_n ?_
   | ((try (conv => arg 1; simp)); with_reducible refine evp ?_)
   | ((with_reducible refine apn ?na ?_); (case na => simp [appNames, ints, intss] <;> first | kernel_rfl | (refine ⟨?_, ?_⟩ <;> kernel_rfl)))
   | ((with_reducible refine tcl ?_); first | ((apply tg (I)); (case e => rfl); (case d => (refine dq ?_); (repeat' (first | ((refine Da.mk ?_); first | assumption) | constructor)))))
   | fail)
  exact dr_bool (idxOf_any _ _)

theorem rgo : List.range 1 = [0] := rfl
theorem rg2 : List.range 2 = [0, 1] := rfl
theorem dr_new {c : Bool} {rows : Nm → Option Row} {n : Nm} {l : List Int} (h : rows n = some ⟨0, 1, l.map fun x => [.int .i64 x]⟩) : DR c rows (.sl n 0 0 l.length) (ints c l) := dr_ints_sl h
theorem nextOf (b : Block) : Pure Try.prog 76 [.agg (b.cells true)] (ints false (nextL b)) := by
  intro T
  refine enter mixed MG18 Try.func76 rfl (by kernel_rfl) rfl ?_
  by_cases h0 : b.Jump = 0
  · rw [show nextL b = [b.To] by simp [nextL, h0]]
    repeat' (first
     | with_reducible refine stp ?_
     | with_reducible refine k_blk_o rfl ?_
     | with_reducible refine k_seq_n ?_
     | ((try (conv => arg 1; simp [Block.cells, h0, rgo])); with_reducible refine evp ?_)
     | ((with_reducible refine apn ?na ?_); (case na => simp [appNames, ints, intss] <;> first | kernel_rfl | (refine ⟨?_, ?_⟩ <;> kernel_rfl)))
     | fail)
    exact dr_new (l := [b.To]) (by simp)
  · by_cases h1 : b.Jump = 1
    · rw [show nextL b = [b.To, b.Else] by simp [nextL, h1]]
      repeat' (first
       | with_reducible refine stp ?_
       | with_reducible refine k_blk_o rfl ?_
       | with_reducible refine k_seq_n ?_
       | ((try (conv => arg 1; simp [Block.cells, h0, h1, rg2])); with_reducible refine evp ?_)
       | ((with_reducible refine apn ?na ?_); (case na => simp [appNames, ints, intss] <;> first | kernel_rfl | (refine ⟨?_, ?_⟩ <;> kernel_rfl)))
       | fail)
      exact dr_new (l := [b.To, b.Else]) (by simp)
    · rw [show nextL b = [] by simp [nextL, h0, h1]]
      repeat' (first
       | with_reducible refine stp ?_
       | with_reducible refine k_blk_o rfl ?_
       | with_reducible refine k_seq_n ?_
       | ((try (conv => arg 1; simp [Block.cells, h0, h1])); with_reducible refine evp ?_)
       | ((with_reducible refine apn ?na ?_); (case na => simp [appNames, ints, intss] <;> first | kernel_rfl | (refine ⟨?_, ?_⟩ <;> kernel_rfl)))
       | fail)
      exact .nilsl
theorem l05Next (b : Block) : Pure Try.prog 75 [.agg (b.cells true)] (ints false (nextL b)) := by
  intro T
  refine enter mixed MG18 Try.func75 rfl (by kernel_rfl) rfl ?_
  by_cases h0 : b.Jump = 0
  · rw [show nextL b = [b.To] by simp [nextL, h0]]
    repeat' (first
     | with_reducible refine stp ?_
     | with_reducible refine k_blk_o rfl ?_
     | with_reducible refine k_seq_n ?_
     | ((try (conv => arg 1; simp [Block.cells, h0, rgo])); with_reducible refine evp ?_)
     | ((with_reducible refine apn ?na ?_); (case na => simp [appNames, ints, intss] <;> first | kernel_rfl | (refine ⟨?_, ?_⟩ <;> kernel_rfl)))
     | fail)
    exact dr_new (l := [b.To]) (by simp)
  · by_cases h1 : b.Jump = 1
    · rw [show nextL b = [b.To, b.Else] by simp [nextL, h1]]
      repeat' (first
       | with_reducible refine stp ?_
       | with_reducible refine k_blk_o rfl ?_
       | with_reducible refine k_seq_n ?_
       | ((try (conv => arg 1; simp [Block.cells, h0, h1, rg2])); with_reducible refine evp ?_)
       | ((with_reducible refine apn ?na ?_); (case na => simp [appNames, ints, intss] <;> first | kernel_rfl | (refine ⟨?_, ?_⟩ <;> kernel_rfl)))
       | fail)
      exact dr_new (l := [b.To, b.Else]) (by simp)
    · rw [show nextL b = [] by simp [nextL, h0, h1]]
      repeat' (first
       | with_reducible refine stp ?_
       | with_reducible refine k_blk_o rfl ?_
       | with_reducible refine k_seq_n ?_
       | ((try (conv => arg 1; simp [Block.cells, h0, h1])); with_reducible refine evp ?_)
       | ((with_reducible refine apn ?na ?_); (case na => simp [appNames, ints, intss] <;> first | kernel_rfl | (refine ⟨?_, ?_⟩ <;> kernel_rfl)))
       | fail)
      exact dr_new (l := []) (by simp)

theorem bst_drop {l : List Int} {th : List Bool} {ts : List Int} {i : Nat} {b : Int} (hi : i < ts.length) : bst l th (ts.drop i) b = bst l th (ts.drop (i + 1)) (if (!(th.getD ts[i].toNat true)) && (decide (b < 0) || decide (rdI l b < rdI l ts[i])) then ts[i] else b) := by
  rw [List.drop_eq_getElem_cons hi]
  rfl

set_option maxHeartbeats 4000000 in
theorem l16Best (g : Graph) (hg : graphOk g = true) (d : g.Small) (l : List Int) (hl : l.length = g.Blocks.length) (th : List Bool) (ht : th.length = g.Blocks.length) (a : Nat) (ha : a < g.Blocks.length) :
    Pure Try.prog 42 [.agg (g.cells true), .int .i64 a, ints true l, bools true th] (.int .i64 (chNext g l th a)) := by
  intro T
  have hln := d.len
  have hx := next_ok hg ha
  have hblk : g.Blocks[a]? = some g.Blocks[a] := by simp
  have hlen := block_len true g.Blocks[a]
  have N := l05Next g.Blocks[a]
  have hcn : chNext g l th a = if bst l th (nextL g.Blocks[a]) (-1) < 0 then idxOf (fun x => !x) th else bst l th (nextL g.Blocks[a]) (-1) := by
    unfold chNext
    rw [Int.toNat_natCast, show g.Blocks.getD a ⟨[], 0, 0, 0, 0⟩ = g.Blocks[a] by simp [ha]]
  have hn2 : (nextL g.Blocks[a]).length ≤ 2 := by
    unfold nextL
    split
    · simp
    · split <;> simp
  refine enter mixed MG18 Try.func42 rfl (by kernel_rfl) rfl ?_
  repeat' (first
   | with_reducible refine stp ?_
   | with_reducible refine k_blk_o rfl ?_
   | ((try (conv => arg 1; simp [Graph.cells])); with_reducible refine evp ?_)
   | ((with_reducible refine apn ?na ?_); (case na => simp [appNames, ints, intss] <;> first | kernel_rfl | (refine ⟨?_, ?_⟩ <;> kernel_rfl)))
   | fail)
  refine cx_k (Cx.mt.next.box_one (T := T) (i := 0) Cx.mt.off (by simp)) ?_
  intro h1 x1
  have b1 := x1.bxs
  simp only [Bxs] at b1
  repeat' (first
   | with_reducible refine stp ?_
   | with_reducible refine k_blk_o rfl ?_
   | with_reducible refine k_seq_n ?_
   | ((try (conv => arg 1; simp [b1, blocks, hblk, hlen, Block.cells, ltS, nm_ne])); with_reducible refine evp ?_)
   | ((with_reducible refine apn ?na ?_); (case na => simp [appNames, ints, intss] <;> first | kernel_rfl | (refine ⟨?_, ?_⟩ <;> kernel_rfl)))
   | ((with_reducible refine tcl ?_); first | ((apply tg (N)); (case e => rfl); (case d => (refine dq ?_); (repeat' (first | ((refine Da.mk ?_); first | exact dr_instrs (by simp) _ | assumption) | constructor)))))
   | fail)
  generalize hN : nextL g.Blocks[a] = ts at *
  refine st_loop (fun (i : Nat) σ h => i ≤ ts.length ∧ σ 2 = ints true l ∧ σ 3 = bools true th ∧ σ 10 = ints false ts ∧ σ 11 = .int .i64 i ∧ ∃ b, σ 9 = .int .i64 b ∧ (b = -1 ∨ Free g.Blocks.length th b) ∧ bst l th (ts.drop i) b = bst l th ts (-1)) (fun i => ts.length - i) 0 ?init ?step
  case init => exact ⟨Nat.zero_le _, by simp, by simp, by simp, by simp, -1, by simp, .inl rfl, rfl⟩
  case step =>
    rintro i σ h ⟨hi, s2, s3, s10, s11, b, s9, hb, hd⟩
    by_cases hlt : i < ts.length
    · have hlt2 : (i : Int) < ts.length := by omega
      have hti : ts[i]? = some ts[i] := by simp
      have hw : IntKind.i64.wrap (i + 1) = i + 1 := wrap_id (by omega) (by omega)
      obtain ⟨t, et⟩ : ∃ t : Nat, ts[i] = (t : Int) := ⟨ts[i].toNat, by have := hx _ (List.getElem_mem hlt); omega⟩
      have htl : t < g.Blocks.length := by have := hx _ (List.getElem_mem hlt); omega
      have htt : th[t]? = some th[t] := by simp [ht, htl]
      have hlt' : l[t]? = some l[t] := by simp [hl, htl]
      rw [bst_drop hlt, et, Int.toNat_natCast] at hd
      rw [show th.getD t true = th[t]'(by omega) by simp [ht, htl]] at hd
      rw [et] at hti
      have hbe : ∀ b', bst l th (ts.drop (i + 1)) b' = bst l th ts (-1) → (b' = -1 ∨ Free g.Blocks.length th b') → True := fun _ _ _ => trivial
      cases hv : th[t]'(by omega) with
      | true =>
        rw [hv] at hd htt
        repeat' (first
         | with_reducible refine stp ?_
         | with_reducible refine k_blk_o rfl ?_
         | with_reducible refine k_seq_n ?_
         | ((try (conv => arg 1; simp [s2, s3, s10, s11, hlt2])); with_reducible refine evp ?_)
         | ((with_reducible refine apn ?na ?_); (case na => simp [appNames, ints, intss] <;> first | kernel_rfl | (refine ⟨?_, ?_⟩ <;> kernel_rfl)))
         | fail)
        repeat (with_reducible first | refine stp ?_ | refine k_seq_n ?_)
        refine st_draw 26 (fun _ => false) (by kernel_rfl) ?_
        simp only [List.take_succ_cons, List.take_zero, List.drop_succ_cons, List.drop_zero, List.take_nil, List.drop_nil]
        repeat' (first
         | with_reducible refine stp ?_
         | with_reducible refine k_blk_o rfl ?_
         | with_reducible refine k_seq_n ?_
         | ((try (conv => arg 1; simp [s2, s3, s9, s10, s11, ints, bools, hti, htt, hw])); with_reducible refine evp ?_)
         | ((with_reducible refine apn ?na ?_); (case na => simp [appNames, ints, intss] <;> first | kernel_rfl | (refine ⟨?_, ?_⟩ <;> kernel_rfl)))
         | fail)
        refine k_lp_n (i + 1) (by omega) ⟨by omega, by simp [s2], by simp [s3], by simp [s10], by simp, b, by simp [s9], hb, by simpa using hd⟩
      | false =>
        rw [hv] at hd htt
        have hfr : Free g.Blocks.length th (t : Int) := ⟨by omega, by omega, by simp [ht, htl, hv]⟩
        rcases hb with rfl | hb
        · skip
          repeat' (first
           | with_reducible refine stp ?_
           | with_reducible refine k_blk_o rfl ?_
           | with_reducible refine k_seq_n ?_
           | ((try (conv => arg 1; simp [s2, s3, s10, s11, hlt2])); with_reducible refine evp ?_)
           | ((with_reducible refine apn ?na ?_); (case na => simp [appNames, ints, intss] <;> first | kernel_rfl | (refine ⟨?_, ?_⟩ <;> kernel_rfl)))
           | fail)
          repeat (with_reducible first | refine stp ?_ | refine k_seq_n ?_)
          refine st_draw 26 (fun _ => false) (by kernel_rfl) ?_
          simp only [List.take_succ_cons, List.take_zero, List.drop_succ_cons, List.drop_zero, List.take_nil, List.drop_nil]
          repeat' (first
           | with_reducible refine stp ?_
           | with_reducible refine k_blk_o rfl ?_
           | with_reducible refine k_seq_n ?_
           | ((try (conv => arg 1; simp [s2, s3, s9, s10, s11, ints, bools, hti, htt, hw])); with_reducible refine evp ?_)
           | ((with_reducible refine apn ?na ?_); (case na => simp [appNames, ints, intss] <;> first | kernel_rfl | (refine ⟨?_, ?_⟩ <;> kernel_rfl)))
           | fail)
          refine k_lp_n (i + 1) (by omega) ⟨by omega, by simp [s2], by simp [s3], by simp [s10], by simp, t, by simp, .inr hfr, by simpa using hd⟩
        · obtain ⟨c, rfl⟩ : ∃ c : Nat, b = (c : Int) := ⟨b.toNat, by have := hb.1; omega⟩
          have hcl : c < g.Blocks.length := by have := hb.2.1; omega
          have hlc : l[c]? = some (l[c]'(by omega)) := by simp [hl, hcl]
          have hc0 : ¬ (c : Int) < 0 := by omega
          rw [rdI_at (l := l) (i := c) (by omega), rdI_at (l := l) (i := t) (by omega)] at hd
          by_cases hcmp : l[c]'(by omega) < l[t]'(by omega)
          · skip
            repeat' (first
             | with_reducible refine stp ?_
             | with_reducible refine k_blk_o rfl ?_
             | with_reducible refine k_seq_n ?_
             | ((try (conv => arg 1; simp [s2, s3, s10, s11, hlt2])); with_reducible refine evp ?_)
             | ((with_reducible refine apn ?na ?_); (case na => simp [appNames, ints, intss] <;> first | kernel_rfl | (refine ⟨?_, ?_⟩ <;> kernel_rfl)))
             | fail)
            repeat (with_reducible first | refine stp ?_ | refine k_seq_n ?_)
            refine st_draw 26 (fun _ => false) (by kernel_rfl) ?_
            simp only [List.take_succ_cons, List.take_zero, List.drop_succ_cons, List.drop_zero, List.take_nil, List.drop_nil]
            repeat' (first
             | with_reducible refine stp ?_
             | with_reducible refine k_blk_o rfl ?_
             | with_reducible refine k_seq_n ?_
             | ((try (conv => arg 1; simp [s2, s3, s9, s10, s11, ints, bools, hti, htt, hlt', hlc, hc0, hcmp, hw])); with_reducible refine evp ?_)
             | ((with_reducible refine apn ?na ?_); (case na => simp [appNames, ints, intss] <;> first | kernel_rfl | (refine ⟨?_, ?_⟩ <;> kernel_rfl)))
             | fail)
            refine k_lp_n (i + 1) (by omega) ⟨by omega, by simp [s2], by simp [s3], by simp [s10], by simp, t, by simp, .inr hfr, by simpa [hcmp] using hd⟩
          · skip
            repeat' (first
             | with_reducible refine stp ?_
             | with_reducible refine k_blk_o rfl ?_
             | with_reducible refine k_seq_n ?_
             | ((try (conv => arg 1; simp [s2, s3, s10, s11, hlt2])); with_reducible refine evp ?_)
             | ((with_reducible refine apn ?na ?_); (case na => simp [appNames, ints, intss] <;> first | kernel_rfl | (refine ⟨?_, ?_⟩ <;> kernel_rfl)))
             | fail)
            repeat (with_reducible first | refine stp ?_ | refine k_seq_n ?_)
            refine st_draw 26 (fun _ => false) (by kernel_rfl) ?_
            simp only [List.take_succ_cons, List.take_zero, List.drop_succ_cons, List.drop_zero, List.take_nil, List.drop_nil]
            repeat' (first
             | with_reducible refine stp ?_
             | with_reducible refine k_blk_o rfl ?_
             | with_reducible refine k_seq_n ?_
             | ((try (conv => arg 1; simp [s2, s3, s9, s10, s11, ints, bools, hti, htt, hlt', hlc, hc0, hcmp, hw])); with_reducible refine evp ?_)
             | ((with_reducible refine apn ?na ?_); (case na => simp [appNames, ints, intss] <;> first | kernel_rfl | (refine ⟨?_, ?_⟩ <;> kernel_rfl)))
             | fail)
            refine k_lp_n (i + 1) (by omega) ⟨by omega, by simp [s2], by simp [s3], by simp [s10], by simp, c, by simp [s9], .inr hb, by simpa [hcmp, hc0] using hd⟩
    · have hlt2 : ¬ (i : Int) < ts.length := by omega
      rw [List.drop_of_length_le (by omega)] at hd
      have hd : b = bst l th ts (-1) := hd
      rw [← hd] at hcn
      by_cases hb0 : b < 0
      · have hb1 : ¬ (0 : Int) ≤ b := by omega
        rw [if_pos hb0] at hcn
        rw [hcn]
        repeat' (first
         | with_reducible refine stp ?_
         | with_reducible refine k_blk_o rfl ?_
         | with_reducible refine k_seq_n ?_
         | ((try (conv => arg 1; simp [s3, s9, s10, s11, hlt2, hb1])); with_reducible refine evp ?_)
         | ((with_reducible refine apn ?na ?_); (case na => simp [appNames, ints, intss] <;> first | kernel_rfl | (refine ⟨?_, ?_⟩ <;> kernel_rfl)))
         | fail)
        refine st_loop (fun (i : Nat) σ h => i ≤ th.length ∧ σ 3 = bools true th ∧ σ 12 = .int .i64 i ∧ ∀ j (hj : j < th.length), j < i → (!th[j]) = false) (fun i => th.length - i) 0 ?init ?step
        case init => exact ⟨Nat.zero_le _, by simp [s3], by simp, fun j hj h => by omega⟩
        case step =>
          rintro i σ h ⟨hi, s3, s12, hf⟩
          by_cases hlt : i < th.length
          · have hlt2 : (i : Int) < th.length := by omega
            have hx : th[i]? = some th[i] := by simp
            have hw : IntKind.i64.wrap (i + 1) = i + 1 := wrap_id (by omega) (by omega)
            cases hv : th[i] with
            | false =>
              rw [hv] at hx
              repeat' (first
               | with_reducible refine stp ?_
               | with_reducible refine k_blk_o rfl ?_
               | with_reducible refine k_seq_n ?_
               | ((try (conv => arg 1; simp [s3, s12, hlt2, hx, bools])); with_reducible refine evp ?_)
               | ((with_reducible refine apn ?na ?_); (case na => simp [appNames, ints, intss] <;> first | kernel_rfl | (refine ⟨?_, ?_⟩ <;> kernel_rfl)))
               | fail)
              exact dr_int (idxOf_hit (p := fun x => !x) hlt hf (by simp [hv])).symm
            | true =>
              rw [hv] at hx
              repeat' (first
               | with_reducible refine stp ?_
               | with_reducible refine k_blk_o rfl ?_
               | with_reducible refine k_seq_n ?_
               | ((try (conv => arg 1; simp [s3, s12, hlt2, hx, hw, bools])); with_reducible refine evp ?_)
               | ((with_reducible refine apn ?na ?_); (case na => simp [appNames, ints, intss] <;> first | kernel_rfl | (refine ⟨?_, ?_⟩ <;> kernel_rfl)))
               | fail)
              refine k_lp_n (i + 1) (by omega) ⟨by omega, by simp [s3], by simp, fun j hj hji => ?_⟩
              by_cases e : j = i
              · subst e; simp [hv]
              · exact hf j hj (by omega)
          · have hlt2 : ¬ (i : Int) < th.length := by omega
            repeat' (first
             | with_reducible refine stp ?_
             | with_reducible refine k_blk_o rfl ?_
             | with_reducible refine k_seq_n ?_
             | ((try (conv => arg 1; simp [s3, s12, hlt2])); with_reducible refine evp ?_)
             | ((with_reducible refine apn ?na ?_); (case na => simp [appNames, ints, intss] <;> first | kernel_rfl | (refine ⟨?_, ?_⟩ <;> kernel_rfl)))
             | fail)
            exact dr_int (idxOf_miss (p := fun x => !x) fun j hj => hf j hj (by omega)).symm
      · have hb1 : (0 : Int) ≤ b := by omega
        rw [if_neg hb0] at hcn
        rw [hcn]
        repeat' (first
         | with_reducible refine stp ?_
         | with_reducible refine k_blk_o rfl ?_
         | with_reducible refine k_seq_n ?_
         | ((try (conv => arg 1; simp [s3, s9, s10, s11, hlt2, hb1])); with_reducible refine evp ?_)
         | ((with_reducible refine apn ?na ?_); (case na => simp [appNames, ints, intss] <;> first | kernel_rfl | (refine ⟨?_, ?_⟩ <;> kernel_rfl)))
         | fail)
        exact .int _ _
end Go.Proofs.Ytlmlkkkgcbpaoaa.AM

/-
  A chain of blocks: the reference's.
-/
set_option linter.unusedVariables false
set_option linter.unusedSimpArgs false
set_option maxRecDepth 4000
namespace Go.Proofs.Ytlmlkkkgcbpaoaa.AM
open Go.RowKit

private def MG19 : FuncId → Mode := fun f => .tree

theorem dr_bools_sl' {c : Bool} {rows : Nm → Option Row} {n : Nm} {ver len : Nat} {l : List Bool} (hl : l.length = len) (h : rows n = some ⟨ver, 1, l.map fun x => [.bool x]⟩) : DR c rows (.sl n ver 0 len) (bools c l) := by
  subst hl
  exact dr_bools_sl h
theorem chAt_succ {g : Graph} {l : List Int} {k : Nat} : chAt g l (k + 1) = chNext g l (ch g l (k + 1)).2 (chAt g l k) := by
  unfold chAt
  rw [if_neg (by omega)]
  congr 1
  rw [ch_succ]
  simp [chAt]
theorem Cx.close_own {h : Hp} {bs : Bx} {os : Ox} {k : Nm} {ver : Nat} {xs : List Int} (x : Cx h ((k, ⟨ver, 1, cl1 xs⟩) :: bs) os) : Cx h bs ((.sl k ver 0 xs.length, (fun b => ints b xs), [k]) :: os) := by
  exact Cx.close_ints (pre := []) (sp := []) (by simpa [ir] using x) ⟨by simp, by simp, fun i e j x he => by simp at he, fun i e j x he => by simp at he⟩

set_option maxHeartbeats 4000000 in
theorem specChain (g : Graph) (d : g.Small) (l : List Int) (hl : l.length ≤ 2 ^ 20) : FreshW Try.prog 16 [.agg (g.cells true), ints true l] (fun b => ints b (chainR g l)) := by
  intro T
  have hln := d.len
  have G := graphOkSpec g d.fit
  refine enter mixed MG19 Try.func16 rfl (by kernel_rfl) rfl ?_
  repeat' (first
   | with_reducible refine stp ?_
   | with_reducible refine k_blk_o rfl ?_
   | ((try (conv => arg 1; simp [Graph.cells])); with_reducible refine evp ?_)
   | ((with_reducible refine apn ?na ?_); (case na => simp [appNames, ints, intss] <;> first | kernel_rfl | (refine ⟨?_, ?_⟩ <;> kernel_rfl)))
   | fail)
  refine cx_k (Cx.mt.next.box_one (T := T) (i := 0) Cx.mt.off (by simp)) ?_
  intro h1 x1
  have b1 := x1.bxs
  simp only [Bxs] at b1
  repeat' (first
   | with_reducible refine stp ?_
   | with_reducible refine k_blk_o rfl ?_
   | ((try (conv => arg 1; simp [b1])); with_reducible refine evp ?_)
   | ((with_reducible refine apn ?na ?_); (case na => simp [appNames, ints, intss] <;> first | kernel_rfl | (refine ⟨?_, ?_⟩ <;> kernel_rfl)))
   | fail)
  refine cx_k (x1.next.box_one (T := h1.tick) (i := 0) (r := ⟨0, 1, []⟩) x1.off (by simp)) ?_
  intro h2 x2
  have b2 := x2.bxs
  simp only [Bxs] at b2
  have x2' := x2
  by_cases hc : graphOk g = true ∧ l.length = g.Blocks.length
  · obtain ⟨hk, hlb⟩ := hc
    have hlb2 : (l.length : Int) = g.Blocks.length := by omega
    have hsm : (g.Blocks.length : Int) ≤ 4294967296 := by omega
    have hr : chainR g l = (ch g l g.Blocks.length).1 := by simp [chainR, hk, hlb]
    rw [hr]
    rw [hk] at G
    repeat' (first
     | with_reducible refine stp ?_
     | with_reducible refine k_blk_o rfl ?_
     | with_reducible refine k_seq_n ?_
     | ((try (conv => arg 1; simp [b2, hlb, hlb2, hsm, ltS, nm_ne])); with_reducible refine evp ?_)
     | ((with_reducible refine apn ?na ?_); (case na => simp [appNames, ints, intss] <;> first | kernel_rfl | (refine ⟨?_, ?_⟩ <;> kernel_rfl)))
     | ((with_reducible refine tcl ?_); first | ((apply tg (G)); (case e => rfl); (case d => (refine dq ?_); (repeat' (first | ((refine Da.mk ?_); first | exact dr_blocks (by simp) _ | assumption) | constructor)))))
     | fail)
    refine st_loop (fun (k : Nat) σ h => k ≤ g.Blocks.length ∧ σ 1 = ints true l ∧ σ 2 = .ptr (T, 0, 0) 0 0 0 ∧ σ 5 = .sl (h1.tick, 0, 0) k 0 k ∧ σ 6 = .sl (h2.tick + 1, 2, 0) 0 0 g.Blocks.length ∧ σ 7 = .int .i64 (chAt g l k) ∧
      Cx h [((h2.tick + 1, 2, 0), ⟨0, 1, (ch g l k).2.map fun x => [.bool x]⟩), ((h1.tick, 0, 0), ⟨k, 1, cl1 (ch g l k).1⟩), ((T, 0, 0), graphRow g)] []) (fun k => g.Blocks.length + 1 - k) 0 ?init ?step
    case init =>
      have x3 := x2.next.next.box_one (T := h2.tick + 1) (i := 2) (r := ⟨0, 1, List.replicate g.Blocks.length [.bool false]⟩) x2.next.off (by simp)
      have e0 : (ch g l 0).2.map (fun x => [AV.bool x]) = List.replicate g.Blocks.length [.bool false] := by simp [ch]
      refine ⟨Nat.zero_le _, by simp, by simp, by simp, by simp, by simp [chAt], ?_⟩
      rw [e0]
      exact Cx.to x3
    case step =>
      rintro k σ h ⟨hkn, s1, s2, s5, s6, s7, x⟩
      have b := x.bxs
      simp only [Bxs, graphRow] at b
      obtain ⟨C, F, E⟩ := ch_ok hk l k hkn
      have hw : IntKind.i64.wrap (k + 1) = k + 1 := wrap_id (by omega) (by omega)
      by_cases hlt : k < g.Blocks.length
      · obtain ⟨f1, f2, f3⟩ := F hlt
        obtain ⟨C', F', E'⟩ := ch_ok hk l (k + 1) (by omega)
        have hs := chAt_succ (g := g) (l := l) (k := k)
        have hcs := ch_succ g l k
        obtain ⟨a, ha⟩ : ∃ a : Nat, chAt g l k = (a : Int) := ⟨(chAt g l k).toNat, by omega⟩
        rw [ha] at s7 hs hcs f2
        have hal : a < g.Blocks.length := by omega
        have htl := C.tlen
        have hel : ((ch g l k).2.map fun x => [AV.bool x])[a]? = some [.bool ((ch g l k).2[a]'(by omega))] := by simp [htl, hal]
        have B := l16Best g hk d l hlb (ch g l (k + 1)).2 C'.tlen a hal
        have hlen := C.len
        have hT : ¬ h1.tick = h2.tick + 1 := by omega
        have e1 : ((ch g l k).2.map fun x => [AV.bool x]).set a [.bool true] = (ch g l (k + 1)).2.map fun x => [.bool x] := by rw [hcs]; simp [List.map_set]
        have e2 : cl1 (ch g l k).1 ++ [[AV.int .i64 a]] = cl1 (ch g l (k + 1)).1 := by rw [hcs]; simp [cl1]
        repeat' (first
         | with_reducible refine stp ?_
         | with_reducible refine k_blk_o rfl ?_
         | with_reducible refine k_seq_n ?_
         | ((try (conv => arg 1; simp [s1, s2, s5, s6, s7, b, hal, hel, htl, e1, hT, ltS, nm_ne])); with_reducible refine evp ?_)
         | ((with_reducible refine apn ?na ?_); (case na => simp [appNames, ints, intss] <;> first | kernel_rfl | (refine ⟨?_, ?_⟩ <;> kernel_rfl)))
         | fail)
        conv => arg 1; simp [s5]
        rw [appendA_snoc (s := 1) (l := cl1 (ch g l k).1) (e := [.int .i64 a]) (by kernel_rfl) ?hr (by simp [cl1, hlen]) ?hk rfl (by omega) ?hm]
        case hr => simp [b, hT]
        case hk => simp
        case hm => simp; omega
        refine ev2_some ?_
        rw [e2]
        have hT2 : ¬ T = h2.tick + 1 := by omega
        have hT3 : ¬ T = h1.tick := by omega
        have hT4 : ¬ h2.tick + 1 = h1.tick := by omega
        have hT5 : ¬ h2.tick = h.tick + 1 := by omega
        rw [← hs] at B
        repeat' (first
         | with_reducible refine stp ?_
         | with_reducible refine k_blk_o rfl ?_
         | with_reducible refine k_seq_n ?_
         | ((try (conv => arg 1; simp [s1, s2, s5, s6, s7, b, hT, hT2, hT3, hT4, ltS, nm_ne])); with_reducible refine evp ?_)
         | ((with_reducible refine apn ?na ?_); (case na => simp [appNames, ints, intss] <;> first | kernel_rfl | (refine ⟨?_, ?_⟩ <;> kernel_rfl)))
         | ((with_reducible refine tcl ?_); first | ((apply tg (B)); (case e => rfl); (case d => (refine dq ?_); (repeat' (first | ((refine Da.mk ?_); first | exact dr_blocks (by simp) _ | exact dr_bools_sl' C'.tlen (by simp [hT, hT4, hT5]) | assumption) | constructor)))))
         | fail)
        refine k_lp_n (k + 1) (by omega) ⟨by omega, by simp [s1], by simp [s2], by simp, by simp [s6], by simp, Cx.to x⟩
      · have hke : k = g.Blocks.length := by omega
        have hat := E (by have := (headOk_head (by simp only [graphOk, Bool.and_eq_true] at hk; exact hk.1.1)).blocks.1; omega) hke
        rw [hat] at s7
        repeat' (first
         | with_reducible refine stp ?_
         | with_reducible refine k_blk_o rfl ?_
         | with_reducible refine k_seq_n ?_
         | ((try (conv => arg 1; simp [s5, s7])); with_reducible refine evp ?_)
         | ((with_reducible refine apn ?na ?_); (case na => simp [appNames, ints, intss] <;> first | kernel_rfl | (refine ⟨?_, ?_⟩ <;> kernel_rfl)))
         | fail)
        have hr2 : (ch g l g.Blocks.length).1 = (ch g l k).1 := by rw [hke]
        rw [hr2]
        have z := Cx.close_own (x.bperm (List.Perm.swap _ _ _))
        rw [C.len] at z
        exact fin_own z.next.next
  · have hr : chainR g l = [] := by simp [chainR]; intro h1 h2; exact absurd ⟨h1, h2⟩ hc
    rw [hr]
    cases hk : graphOk g with
    | false =>
      rw [hk] at G
      repeat' (first
       | with_reducible refine stp ?_
       | with_reducible refine k_blk_o rfl ?_
       | with_reducible refine k_seq_n ?_
       | ((try (conv => arg 1; simp [b2, ltS, nm_ne])); with_reducible refine evp ?_)
       | ((with_reducible refine apn ?na ?_); (case na => simp [appNames, ints, intss] <;> first | kernel_rfl | (refine ⟨?_, ?_⟩ <;> kernel_rfl)))
       | ((with_reducible refine tcl ?_); first | ((apply tg (G)); (case e => rfl); (case d => (refine dq ?_); (repeat' (first | ((refine Da.mk ?_); first | exact dr_blocks (by simp) _ | assumption) | constructor)))))
       | fail)
      exact fin_own (Cx.close_own (xs := []) x2.next.next)
    | true =>
      have hlb : ¬ (l.length : Int) = g.Blocks.length := fun e => hc ⟨hk, by omega⟩
      have hlb2 : ¬ l.length = g.Blocks.length := fun e => hc ⟨hk, e⟩
      rw [hk] at G
      repeat' (first
       | with_reducible refine stp ?_
       | with_reducible refine k_blk_o rfl ?_
       | with_reducible refine k_seq_n ?_
       | ((try (conv => arg 1; simp [b2, hlb, hlb2, ltS, nm_ne])); with_reducible refine evp ?_)
       | ((with_reducible refine apn ?na ?_); (case na => simp [appNames, ints, intss] <;> first | kernel_rfl | (refine ⟨?_, ?_⟩ <;> kernel_rfl)))
       | ((with_reducible refine tcl ?_); first | ((apply tg (G)); (case e => rfl); (case d => (refine dq ?_); (repeat' (first | ((refine Da.mk ?_); first | exact dr_blocks (by simp) _ | assumption) | constructor)))))
       | fail)
      exact fin_own (Cx.close_own (xs := []) x2.next.next)
end Go.Proofs.Ytlmlkkkgcbpaoaa.AM

/-
  A chain of blocks: the program's.
-/
set_option linter.unusedVariables false
set_option linter.unusedSimpArgs false
set_option maxRecDepth 4000
namespace Go.Proofs.Ytlmlkkkgcbpaoaa.AM
open Go.RowKit

private def MG20 : FuncId → Mode := fun f => .tree

theorem dr_ints_sl' {c : Bool} {rows : Nm → Option Row} {n : Nm} {ver len : Nat} {l : List Int} (hl : l.length = len) (h : rows n = some ⟨ver, 1, cl1 l⟩) : DR c rows (.sl n ver 0 len) (ints c l) := by
  subst hl
  exact dr_ints_sl h
theorem nextL_len (b : Block) : (nextL b).length ≤ 2 := by
  unfold nextL
  split
  · simp
  · split <;> simp

theorem first_free {th : List Bool} {t : Int} {n : Nat} (hn : th.length = n) (hf : Free n th t) : ∃ q : Nat, idxOf (fun x => !x) th = (q : Int) ∧ ∃ hq : q < th.length, th[q] = false ∧ ∀ j (hj : j < th.length), j < q → th[j] = true := by
  obtain ⟨f1, f2, f3⟩ := hf
  have hlt : t.toNat < th.length := by omega
  have hff : th[t.toNat] = false := by simpa [hlt] using f3
  have ha : th.any (fun x => !x) = true := List.any_eq_true.2 ⟨_, List.getElem_mem hlt, by simp [hff]⟩
  have hq : (th.findIdx fun x => !x) < th.length := List.findIdx_lt_length.2 (List.any_eq_true.1 ha)
  refine ⟨th.findIdx fun x => !x, by simp [idxOf, ha], hq, ?_, fun j hj hlt => ?_⟩
  · have := List.findIdx_getElem (w := hq)
    simpa using this
  · have := List.not_of_lt_findIdx hlt
    simpa using this

set_option maxHeartbeats 8000000 in
theorem implchain (g : Graph) (d : g.Small) (hk : graphOk g = true) (l : List Int) (hlb : l.length = g.Blocks.length) : FreshW Try.prog 43 [.agg (g.cells true), ints true l] (fun b => ints b (ch g l g.Blocks.length).1) := by
  intro T
  have hln := d.len
  have hnb : 1 ≤ g.Blocks.length := (headOk_head (by simp only [graphOk, Bool.and_eq_true] at hk; exact hk.1.1)).blocks.1
  refine enter mixed MG20 Try.func43 rfl (by kernel_rfl) rfl ?_
  repeat' (first
   | with_reducible refine stp ?_
   | with_reducible refine k_blk_o rfl ?_
   | ((try (conv => arg 1; simp [Graph.cells])); with_reducible refine evp ?_)
   | ((with_reducible refine apn ?na ?_); (case na => simp [appNames, ints, intss] <;> first | kernel_rfl | (refine ⟨?_, ?_⟩ <;> kernel_rfl)))
   | fail)
  refine cx_k (Cx.mt.next.box_one (T := T) (i := 0) Cx.mt.off (by simp)) ?_
  intro h1 x1
  have b1 := x1.bxs
  simp only [Bxs] at b1
  repeat' (first
   | with_reducible refine stp ?_
   | with_reducible refine k_blk_o rfl ?_
   | ((try (conv => arg 1; simp [b1, rgo])); with_reducible refine evp ?_)
   | ((with_reducible refine apn ?na ?_); (case na => simp [appNames, ints, intss] <;> first | kernel_rfl | (refine ⟨?_, ?_⟩ <;> kernel_rfl)))
   | fail)
  refine cx_k (x1.next.box_one (T := h1.tick) (i := 0) (r := ⟨0, 1, [[.int .i64 0]]⟩) x1.off (by simp)) ?_
  intro h2 x2
  have b2 := x2.bxs
  simp only [Bxs] at b2
  repeat' (first
   | with_reducible refine stp ?_
   | with_reducible refine k_blk_o rfl ?_
   | with_reducible refine k_seq_n ?_
   | ((try (conv => arg 1; simp [b2, ltS, nm_ne])); with_reducible refine evp ?_)
   | ((with_reducible refine apn ?na ?_); (case na => simp [appNames, ints, intss] <;> first | kernel_rfl | (refine ⟨?_, ?_⟩ <;> kernel_rfl)))
   | fail)
  refine st_loop (fun (k : Nat) σ h => 1 ≤ k ∧ k ≤ g.Blocks.length ∧ σ 1 = ints true l ∧ σ 2 = .ptr (T, 0, 0) 0 0 0 ∧ σ 5 = .sl (h1.tick, 0, 0) (k - 1) 0 k ∧
    Cx h [((h1.tick, 0, 0), ⟨k - 1, 1, cl1 (ch g l k).1⟩), ((T, 0, 0), graphRow g)] []) (fun k => g.Blocks.length - k) 1 ?init ?step
  case init =>
    have e0 : cl1 (ch g l 1).1 = [[AV.int .i64 0]] := by simp [ch, cl1]
    refine ⟨Nat.le_refl _, hnb, by simp, by simp, by simp, ?_⟩
    rw [e0]
    exact Cx.to x2
  case step =>
    rintro k σ h ⟨hk1, hkn, s1, s2, s5, x⟩
    have b := x.bxs
    simp only [Bxs, graphRow] at b
    obtain ⟨C, F, E⟩ := ch_ok hk l k hkn
    have hw : IntKind.i64.wrap (k - 1) = ((k - 1 : Nat) : Int) := by rw [wrap_id (by omega) (by omega)]; omega
    have hk0 : 0 < k := hk1
    have hkk : k - 1 < k := by omega
    have hT1 : ¬ T = h.tick + 1 + 1 := by have := b.2.2.2.1; omega
    have hT2 : ¬ h1.tick = h.tick + 1 + 1 := by have := b.2.1; omega
    by_cases hlt : k < g.Blocks.length
    · obtain ⟨f1, f2, f3⟩ := F hlt
      obtain ⟨a, ha⟩ : ∃ a : Nat, (ch g l k).1.getLastD 0 = (a : Int) ∧ a < g.Blocks.length := by
        have hne : (ch g l k).1 ≠ [] := fun e => by have := C.len; rw [e] at this; simp at this; omega
        have hm := C.mem _ (show (ch g l k).1.getLastD 0 ∈ (ch g l k).1 by
          rw [List.getLastD_eq_getLast?, List.getLast?_eq_some_getLast hne]
          exact List.getLast_mem hne)
        exact ⟨((ch g l k).1.getLastD 0).toNat, by omega, by omega⟩
      obtain ⟨ha, hal⟩ := ha
      have hlen := C.len
      have hal2 : (cl1 (ch g l k).1)[k - 1]? = some [.int .i64 a] := by
        rw [← ha]
        simp only [cl1, List.getElem?_map]
        rw [List.getLastD_eq_getLast?, List.getLast?_eq_getElem?, hlen]
        have : k - 1 < (ch g l k).1.length := by omega
        simp [this]
      have hblk : g.Blocks[a]? = some g.Blocks[a] := by simp
      have hblen := block_len true g.Blocks[a]
      have N := nextOf g.Blocks[a]
      have hx := next_ok hk hal
      have hn2 := nextL_len g.Blocks[a]
      have hat : chAt g l k = if bst l (ch g l k).2 (nextL g.Blocks[a]) (-1) < 0 then idxOf (fun x => !x) (ch g l k).2 else bst l (ch g l k).2 (nextL g.Blocks[a]) (-1) := by
        unfold chAt chNext
        rw [if_neg (by omega), ha, Int.toNat_natCast, show g.Blocks.getD a ⟨[], 0, 0, 0, 0⟩ = g.Blocks[a] by simp [hal]]
      repeat' (first
       | with_reducible refine stp ?_
       | with_reducible refine k_blk_o rfl ?_
       | with_reducible refine k_seq_n ?_
       | ((try (conv => arg 1; simp [s1, s2, s5, b, hlt])); with_reducible refine evp ?_)
       | ((with_reducible refine apn ?na ?_); (case na => simp [appNames, ints, intss] <;> first | kernel_rfl | (refine ⟨?_, ?_⟩ <;> kernel_rfl)))
       | fail)
      repeat (with_reducible first | refine stp ?_ | refine k_seq_n ?_)
      refine st_draw 13 (fun _ => false) (by kernel_rfl) ?_
      simp only [List.take_succ_cons, List.take_zero, List.drop_succ_cons, List.drop_zero, List.take_nil, List.drop_nil]
      repeat' (first
       | with_reducible refine stp ?_
       | with_reducible refine k_blk_o rfl ?_
       | with_reducible refine k_seq_n ?_
       | ((try (conv => arg 1; simp [s1, s2, s5, b, maskR, hT1, hT2, hk0, hkk, hlt, hw, hal2, blocks, hblk, hblen, Block.cells, ltS, nm_ne])); with_reducible refine evp ?_)
       | ((with_reducible refine apn ?na ?_); (case na => simp [appNames, ints, intss] <;> first | kernel_rfl | (refine ⟨?_, ?_⟩ <;> kernel_rfl)))
       | ((with_reducible refine tcl ?_); first | ((apply tg (N)); (case e => rfl); (case d => (refine dq ?_); (repeat' (first | ((refine Da.mk ?_); first | exact dr_instrs (by simp) _ | assumption) | constructor)))))
       | fail)
      have hlt0 := hlt
      have f4 : Free g.Blocks.length (ch g l k).2 (chAt g l k) := ⟨f1, f2, f3⟩
      obtain ⟨q, hiq, hq, hqf, hqt⟩ := first_free C.tlen f4
      have tlen := C.tlen
      have K : ∀ j : Nat, (hj : j < g.Blocks.length) → Pure Try.prog 49 [ints true (ch g l k).1, .int .i64 j] (.bool ((ch g l k).2[j]'(by omega))) := fun j hj => by
        have := containsI (ch g l k).1 j (by omega)
        rw [← C.rel j hj, show (ch g l k).2.getD j true = (ch g l k).2[j]'(by omega) by simp [tlen, hj]] at this
        exact this
      generalize hN : nextL g.Blocks[a] = ts at *
      refine st_loop (fun (i : Nat) σ h => i ≤ ts.length ∧ σ 1 = ints true l ∧ σ 2 = .ptr (T, 0, 0) 0 0 0 ∧ σ 5 = .sl (h1.tick, 0, 0) (k - 1) 0 k ∧ σ 27 = ints false ts ∧ σ 28 = .int .i64 ts.length ∧ σ 29 = .int .i64 i ∧
        Cx h [((h1.tick, 0, 0), ⟨k - 1, 1, cl1 (ch g l k).1⟩), ((T, 0, 0), graphRow g)] [] ∧ ∃ b, σ 6 = .int .i64 b ∧ (b = -1 ∨ Free g.Blocks.length (ch g l k).2 b) ∧ bst l (ch g l k).2 (ts.drop i) b = bst l (ch g l k).2 ts (-1)) (fun i => ts.length - i) 0 ?init ?step
      case init => exact ⟨Nat.zero_le _, by simp [s1], by simp [s2], by simp [s5], by simp, by simp, by simp, Cx.to x, -1, by simp, .inl rfl, rfl⟩
      case step =>
        rintro i σ h ⟨hi, s1, s2, s5, s27, s28, s29, x, bb, s6, hbb, hd⟩
        have b := x.bxs
        simp only [Bxs, graphRow] at b
        have hT2 : ¬ h1.tick = h.tick + 1 + 1 := by have := b.2.1; omega
        by_cases hlt : i < ts.length
        · have hlt2 : (i : Int) < ts.length := by omega
          have hti : ts[i]? = some ts[i] := by simp
          have hw : IntKind.i64.wrap (i + 1) = i + 1 := wrap_id (by omega) (by omega)
          obtain ⟨t, et⟩ : ∃ t : Nat, ts[i] = (t : Int) := ⟨ts[i].toNat, by have := hx _ (List.getElem_mem hlt); omega⟩
          have htl : t < g.Blocks.length := by have := hx _ (List.getElem_mem hlt); omega
          have hlt' : l[t]? = some l[t] := by simp [hlb, htl]
          rw [bst_drop hlt, et, Int.toNat_natCast] at hd
          rw [show (ch g l k).2.getD t true = (ch g l k).2[t]'(by omega) by simp [tlen, htl]] at hd
          rw [et] at hti
          have Kt := K t htl
          cases hv : (ch g l k).2[t]'(by omega) with
          | true =>
            rw [hv] at hd Kt
            repeat' (first
             | with_reducible refine stp ?_
             | with_reducible refine k_blk_o rfl ?_
             | with_reducible refine k_seq_n ?_
             | ((try (conv => arg 1; simp [s1, s2, s5, s27, s28, s29, ints, hti, hlt2])); with_reducible refine evp ?_)
             | ((with_reducible refine apn ?na ?_); (case na => simp [appNames, ints, intss] <;> first | kernel_rfl | (refine ⟨?_, ?_⟩ <;> kernel_rfl)))
             | fail)
            repeat (with_reducible first | refine stp ?_ | refine k_seq_n ?_)
            refine st_draw 19 (fun _ => false) (by kernel_rfl) ?_
            simp only [List.take_succ_cons, List.take_zero, List.drop_succ_cons, List.drop_zero, List.take_nil, List.drop_nil]
            repeat' (first
             | with_reducible refine stp ?_
             | with_reducible refine k_blk_o rfl ?_
             | with_reducible refine k_seq_n ?_
             | ((try (conv => arg 1; simp [s1, s2, s5, s6, s27, s29, ints, hti, hw])); with_reducible refine evp ?_)
             | ((with_reducible refine apn ?na ?_); (case na => simp [appNames, ints, intss] <;> first | kernel_rfl | (refine ⟨?_, ?_⟩ <;> kernel_rfl)))
             | ((with_reducible refine tcl ?_); first | ((apply tg (Kt)); (case e => rfl); (case d => (refine dq ?_); (repeat' (first | ((refine Da.mk ?_); first | exact dr_ints_sl' C.len (by simp [maskR, b, hT2]) | assumption) | constructor)))))
             | fail)
            refine k_lp_n (i + 1) (by omega) ⟨by omega, by simp [s1], by simp [s2], by simp [s5], by simp [s27], by simp [s28], by simp, Cx.to x, bb, by simp [s6], hbb, by simpa using hd⟩
          | false =>
            rw [hv] at hd Kt
            have hfr : Free g.Blocks.length (ch g l k).2 (t : Int) := ⟨by omega, by omega, by simp [tlen, htl, hv]⟩
            rcases hbb with rfl | hbb
            · skip
              repeat' (first
               | with_reducible refine stp ?_
               | with_reducible refine k_blk_o rfl ?_
               | with_reducible refine k_seq_n ?_
               | ((try (conv => arg 1; simp [s1, s2, s5, s27, s28, s29, ints, hti, hlt2])); with_reducible refine evp ?_)
               | ((with_reducible refine apn ?na ?_); (case na => simp [appNames, ints, intss] <;> first | kernel_rfl | (refine ⟨?_, ?_⟩ <;> kernel_rfl)))
               | fail)
              repeat (with_reducible first | refine stp ?_ | refine k_seq_n ?_)
              refine st_draw 19 (fun _ => false) (by kernel_rfl) ?_
              simp only [List.take_succ_cons, List.take_zero, List.drop_succ_cons, List.drop_zero, List.take_nil, List.drop_nil]
              repeat' (first
               | with_reducible refine stp ?_
               | with_reducible refine k_blk_o rfl ?_
               | with_reducible refine k_seq_n ?_
               | ((try (conv => arg 1; simp [s1, s2, s5, s6, s27, s29, ints, hti, hw])); with_reducible refine evp ?_)
               | ((with_reducible refine apn ?na ?_); (case na => simp [appNames, ints, intss] <;> first | kernel_rfl | (refine ⟨?_, ?_⟩ <;> kernel_rfl)))
               | ((with_reducible refine tcl ?_); first | ((apply tg (Kt)); (case e => rfl); (case d => (refine dq ?_); (repeat' (first | ((refine Da.mk ?_); first | exact dr_ints_sl' C.len (by simp [maskR, b, hT2]) | assumption) | constructor)))))
               | fail)
              refine k_lp_n (i + 1) (by omega) ⟨by omega, by simp [s1], by simp [s2], by simp [s5], by simp [s27], by simp [s28], by simp, Cx.to x, t, by simp, .inr hfr, by simpa using hd⟩
            · obtain ⟨c, rfl⟩ : ∃ c : Nat, bb = (c : Int) := ⟨bb.toNat, by have := hbb.1; omega⟩
              have hcl : c < g.Blocks.length := by have := hbb.2.1; omega
              have hlc : l[c]? = some (l[c]'(by omega)) := by simp [hlb, hcl]
              have hc0 : ¬ (c : Int) < 0 := by omega
              rw [rdI_at (l := l) (i := c) (by omega), rdI_at (l := l) (i := t) (by omega)] at hd
              by_cases hcmp : l[c]'(by omega) < l[t]'(by omega)
              · skip
                repeat' (first
                 | with_reducible refine stp ?_
                 | with_reducible refine k_blk_o rfl ?_
                 | with_reducible refine k_seq_n ?_
                 | ((try (conv => arg 1; simp [s1, s2, s5, s27, s28, s29, ints, hti, hlt2])); with_reducible refine evp ?_)
                 | ((with_reducible refine apn ?na ?_); (case na => simp [appNames, ints, intss] <;> first | kernel_rfl | (refine ⟨?_, ?_⟩ <;> kernel_rfl)))
                 | fail)
                repeat (with_reducible first | refine stp ?_ | refine k_seq_n ?_)
                refine st_draw 19 (fun _ => false) (by kernel_rfl) ?_
                simp only [List.take_succ_cons, List.take_zero, List.drop_succ_cons, List.drop_zero, List.take_nil, List.drop_nil]
                repeat' (first
                 | with_reducible refine stp ?_
                 | with_reducible refine k_blk_o rfl ?_
                 | with_reducible refine k_seq_n ?_
                 | ((try (conv => arg 1; simp [s1, s2, s5, s6, s27, s29, ints, hti, hw, hlt', hlc, hc0, hcmp])); with_reducible refine evp ?_)
                 | ((with_reducible refine apn ?na ?_); (case na => simp [appNames, ints, intss] <;> first | kernel_rfl | (refine ⟨?_, ?_⟩ <;> kernel_rfl)))
                 | ((with_reducible refine tcl ?_); first | ((apply tg (Kt)); (case e => rfl); (case d => (refine dq ?_); (repeat' (first | ((refine Da.mk ?_); first | exact dr_ints_sl' C.len (by simp [maskR, b, hT2]) | assumption) | constructor)))))
                 | fail)
                refine k_lp_n (i + 1) (by omega) ⟨by omega, by simp [s1], by simp [s2], by simp [s5], by simp [s27], by simp [s28], by simp, Cx.to x, t, by simp, .inr hfr, by simpa [hcmp] using hd⟩
              · skip
                repeat' (first
                 | with_reducible refine stp ?_
                 | with_reducible refine k_blk_o rfl ?_
                 | with_reducible refine k_seq_n ?_
                 | ((try (conv => arg 1; simp [s1, s2, s5, s27, s28, s29, ints, hti, hlt2])); with_reducible refine evp ?_)
                 | ((with_reducible refine apn ?na ?_); (case na => simp [appNames, ints, intss] <;> first | kernel_rfl | (refine ⟨?_, ?_⟩ <;> kernel_rfl)))
                 | fail)
                repeat (with_reducible first | refine stp ?_ | refine k_seq_n ?_)
                refine st_draw 19 (fun _ => false) (by kernel_rfl) ?_
                simp only [List.take_succ_cons, List.take_zero, List.drop_succ_cons, List.drop_zero, List.take_nil, List.drop_nil]
                repeat' (first
                 | with_reducible refine stp ?_
                 | with_reducible refine k_blk_o rfl ?_
                 | with_reducible refine k_seq_n ?_
                 | ((try (conv => arg 1; simp [s1, s2, s5, s6, s27, s29, ints, hti, hw, hlt', hlc, hc0, hcmp])); with_reducible refine evp ?_)
                 | ((with_reducible refine apn ?na ?_); (case na => simp [appNames, ints, intss] <;> first | kernel_rfl | (refine ⟨?_, ?_⟩ <;> kernel_rfl)))
                 | ((with_reducible refine tcl ?_); first | ((apply tg (Kt)); (case e => rfl); (case d => (refine dq ?_); (repeat' (first | ((refine Da.mk ?_); first | exact dr_ints_sl' C.len (by simp [maskR, b, hT2]) | assumption) | constructor)))))
                 | fail)
                refine k_lp_n (i + 1) (by omega) ⟨by omega, by simp [s1], by simp [s2], by simp [s5], by simp [s27], by simp [s28], by simp, Cx.to x, c, by simp [s6], .inr hbb, by simpa [hcmp, hc0] using hd⟩
        · have hlt2 : ¬ (i : Int) < ts.length := by omega
          rw [List.drop_of_length_le (by omega)] at hd
          have hd : bb = bst l (ch g l k).2 ts (-1) := hd
          rw [← hd] at hat
          repeat' (first
           | with_reducible refine stp ?_
           | with_reducible refine k_blk_o rfl ?_
           | with_reducible refine k_seq_n ?_
           | ((try (conv => arg 1; simp [s28, s29, hlt2])); with_reducible refine evp ?_)
           | ((with_reducible refine apn ?na ?_); (case na => simp [appNames, ints, intss] <;> first | kernel_rfl | (refine ⟨?_, ?_⟩ <;> kernel_rfl)))
           | fail)
          refine st_loop (fun (i : Nat) σ h => σ 1 = ints true l ∧ σ 2 = .ptr (T, 0, 0) 0 0 0 ∧ σ 5 = .sl (h1.tick, 0, 0) (k - 1) 0 k ∧ σ 9 = .int .i64 i ∧
            Cx h [((h1.tick, 0, 0), ⟨k - 1, 1, cl1 (ch g l k).1⟩), ((T, 0, 0), graphRow g)] [] ∧ ∃ c, σ 6 = .int .i64 c ∧ ((c = -1 ∧ bb = -1 ∧ i ≤ q) ∨ c = chAt g l k)) (fun i => q + 1 - i) 0 ?init ?step
          case init => 
            refine ⟨by simp [s1], by simp [s2], by simp [s5], by simp, Cx.to x, bb, by simp [s6], ?_⟩
            rcases hbb with h | h
            · exact .inl ⟨h, h, Nat.zero_le _⟩
            · right
              rw [if_neg (by have := h.1; omega)] at hat
              exact hat.symm
          case step =>
            rintro i σ h ⟨s1, s2, s5, s9, x, c, s6, hc⟩
            have b := x.bxs
            simp only [Bxs, graphRow] at b
            rcases hc with ⟨rfl, hb1, hiq2⟩ | rfl
            · have hil : i < g.Blocks.length := by omega
              have Ki := K i hil
              have hw : IntKind.i64.wrap (i + 1) = i + 1 := wrap_id (by omega) (by omega)
              by_cases e : i = q
              · subst e
                rw [hqf] at Ki
                rw [if_pos (by omega), hiq] at hat
                repeat' (first
                 | with_reducible refine stp ?_
                 | with_reducible refine k_blk_o rfl ?_
                 | with_reducible refine k_seq_n ?_
                 | ((try (conv => arg 1; simp [s5, s6, s9, hw])); with_reducible refine evp ?_)
                 | ((with_reducible refine apn ?na ?_); (case na => simp [appNames, ints, intss] <;> first | kernel_rfl | (refine ⟨?_, ?_⟩ <;> kernel_rfl)))
                 | ((with_reducible refine tcl ?_); first | ((apply tg (Ki)); (case e => rfl); (case d => (refine dq ?_); (repeat' (first | ((refine Da.mk ?_); first | exact dr_ints_sl' C.len (by simp [b]) | assumption) | constructor)))))
                 | fail)
                refine k_lp_n (i + 1) (by omega) ⟨by simp [s1], by simp [s2], by simp [s5], by simp, Cx.to x, i, by simp, .inr hat.symm⟩
              · rw [hqt i (by omega) (by omega)] at Ki
                repeat' (first
                 | with_reducible refine stp ?_
                 | with_reducible refine k_blk_o rfl ?_
                 | with_reducible refine k_seq_n ?_
                 | ((try (conv => arg 1; simp [s5, s6, s9, hw])); with_reducible refine evp ?_)
                 | ((with_reducible refine apn ?na ?_); (case na => simp [appNames, ints, intss] <;> first | kernel_rfl | (refine ⟨?_, ?_⟩ <;> kernel_rfl)))
                 | ((with_reducible refine tcl ?_); first | ((apply tg (Ki)); (case e => rfl); (case d => (refine dq ?_); (repeat' (first | ((refine Da.mk ?_); first | exact dr_ints_sl' C.len (by simp [b]) | assumption) | constructor)))))
                 | fail)
                refine k_lp_n (i + 1) (by omega) ⟨by simp [s1], by simp [s2], by simp [s5], by simp, Cx.to x, -1, by simp [s6], .inl ⟨rfl, hb1, by omega⟩⟩
            · obtain ⟨z, hz⟩ : ∃ z : Nat, chAt g l k = (z : Int) := ⟨(chAt g l k).toNat, by omega⟩
              rw [hz] at s6
              have hcs := ch_succ g l k
              rw [hz] at hcs
              have e2 : cl1 (ch g l k).1 ++ [[AV.int .i64 z]] = cl1 (ch g l (k + 1)).1 := by rw [hcs]; simp [cl1]
              have hz0 : ¬ (z : Int) < 0 := by omega
              have hlen := C.len
              have hT : ¬ h1.tick = h.tick + 1 := by have := b.2.1; omega
              repeat' (first
               | with_reducible refine stp ?_
               | with_reducible refine k_blk_o rfl ?_
               | with_reducible refine k_seq_n ?_
               | ((try (conv => arg 1; simp [s5, s6, b, hz0, rgo, hT, ltS, nm_ne])); with_reducible refine evp ?_)
               | ((with_reducible refine apn ?na ?_); (case na => simp [appNames, ints, intss] <;> first | kernel_rfl | (refine ⟨?_, ?_⟩ <;> kernel_rfl)))
               | fail)
              conv => arg 1; simp [s5]
              rw [appendA_snoc (s := 1) (l := cl1 (ch g l k).1) (e := [.int .i64 z]) (by kernel_rfl) ?hr (by simp [cl1, hlen]) ?hk rfl (by omega) ?hm]
              case hr => simp [b, hT]
              case hk => simp
              case hm => simp; omega
              refine ev2_some ?_
              rw [e2]
              have hkk1 : k - 1 + 1 = k := by omega
              repeat' (first
               | with_reducible refine stp ?_
               | with_reducible refine k_blk_o rfl ?_
               | with_reducible refine k_seq_n ?_
               | ((try (conv => arg 1; simp [s5, s6, hkk1])); with_reducible refine evp ?_)
               | ((with_reducible refine apn ?na ?_); (case na => simp [appNames, ints, intss] <;> first | kernel_rfl | (refine ⟨?_, ?_⟩ <;> kernel_rfl)))
               | fail)
              refine k_lp_n (k + 1) (by omega) ⟨by omega, by omega, by simp [s1], by simp [s2], by simp, by rw [show k + 1 - 1 = k - 1 + 1 by omega]; exact Cx.to x⟩
    · have hke : k = g.Blocks.length := by omega
      have hr2 : (ch g l g.Blocks.length).1 = (ch g l k).1 := by rw [hke]
      rw [hr2]
      repeat' (first
       | with_reducible refine stp ?_
       | with_reducible refine k_blk_o rfl ?_
       | with_reducible refine k_seq_n ?_
       | ((try (conv => arg 1; simp [s1, s2, s5, b, hlt])); with_reducible refine evp ?_)
       | ((with_reducible refine apn ?na ?_); (case na => simp [appNames, ints, intss] <;> first | kernel_rfl | (refine ⟨?_, ?_⟩ <;> kernel_rfl)))
       | fail)
      have z := Cx.close_own x
      rw [C.len] at z
      exact fin_own z.next.next
end Go.Proofs.Ytlmlkkkgcbpaoaa.AM

/-
  A chain of blocks: the program's, from the door.
-/
set_option linter.unusedVariables false
set_option linter.unusedSimpArgs false
set_option maxRecDepth 4000
namespace Go.Proofs.Ytlmlkkkgcbpaoaa.AM
open Go.RowKit

private def MG21 : FuncId → Mode := fun f => if f = 43 then .fresh else .tree

theorem implChain (g : Graph) (d : g.Small) (l : List Int) (hl : l.length ≤ 2 ^ 20) : FreshW Try.prog 18 [.agg (g.cells true), ints true l] (fun b => ints b (chainR g l)) := by
  intro T
  have hln := d.len
  have G := isGraph g d
  refine enter mixed MG21 Try.func18 rfl (by kernel_rfl) rfl ?_
  repeat' (first
   | with_reducible refine stp ?_
   | with_reducible refine k_blk_o rfl ?_
   | ((try (conv => arg 1; simp [Graph.cells])); with_reducible refine evp ?_)
   | ((with_reducible refine apn ?na ?_); (case na => simp [appNames, ints, intss] <;> first | kernel_rfl | (refine ⟨?_, ?_⟩ <;> kernel_rfl)))
   | fail)
  refine cx_k (Cx.mt.next.box_one (T := T) (i := 0) Cx.mt.off (by simp)) ?_
  intro h1 x1
  have b1 := x1.bxs
  simp only [Bxs] at b1
  by_cases hc : graphOk g = true ∧ l.length = g.Blocks.length
  · obtain ⟨hk, hlb⟩ := hc
    have hlb2 : (l.length : Int) = g.Blocks.length := by omega
    have hr : chainR g l = (ch g l g.Blocks.length).1 := by simp [chainR, hk, hlb]
    rw [hr]
    rw [hk] at G
    have I := implchain g d hk l hlb
    repeat' (first
     | with_reducible refine stp ?_
     | with_reducible refine k_blk_o rfl ?_
     | with_reducible refine k_seq_n ?_
     | ((try (conv => arg 1; simp [b1, hlb, hlb2, ltS, nm_ne])); with_reducible refine evp ?_)
     | ((with_reducible refine apn ?na ?_); (case na => simp [appNames, ints, intss] <;> first | kernel_rfl | (refine ⟨?_, ?_⟩ <;> kernel_rfl)))
     | ((with_reducible refine tcl ?_); first | ((apply tg (G)); (case e => rfl); (case d => (refine dq ?_); (repeat' (first | ((refine Da.mk ?_); first | exact dr_blocks (by simp) _ | assumption) | constructor)))))
     | fail)
    refine st_freshw rfl I (.cons (dr_agg (drs_graphL g fun h => h)) (.cons (dr_ints (fun h => h) _) .nil)) ?_
    intro v h3 n o d f p t
    have q := own_one (ownV_ints (o true))
    repeat' (first
     | with_reducible refine stp ?_
     | with_reducible refine k_blk_o rfl ?_
     | with_reducible refine k_seq_n ?_
     | ((try (conv => arg 1; simp [q.1, q.2.1, q.2.2])); with_reducible refine evp ?_)
     | ((with_reducible refine apn ?na ?_); (case na => simp [appNames, ints, intss] <;> first | kernel_rfl | (refine ⟨?_, ?_⟩ <;> kernel_rfl)))
     | fail)
    have x3 := x1.next.next.fresh o d f p t
    exact fin_own x3
  · have hr : chainR g l = [] := by simp [chainR]; intro h1 h2; exact absurd ⟨h1, h2⟩ hc
    rw [hr]
    cases hk : graphOk g with
    | false =>
      rw [hk] at G
      repeat' (first
       | with_reducible refine stp ?_
       | with_reducible refine k_blk_o rfl ?_
       | with_reducible refine k_seq_n ?_
       | ((try (conv => arg 1; simp [b1, ltS, nm_ne])); with_reducible refine evp ?_)
       | ((with_reducible refine apn ?na ?_); (case na => simp [appNames, ints, intss] <;> first | kernel_rfl | (refine ⟨?_, ?_⟩ <;> kernel_rfl)))
       | ((with_reducible refine tcl ?_); first | ((apply tg (G)); (case e => rfl); (case d => (refine dq ?_); (repeat' (first | ((refine Da.mk ?_); first | exact dr_blocks (by simp) _ | assumption) | constructor)))))
       | fail)
      exact ⟨[], fun c => OwnV.one (.nilsl .nil), .nil, fun n hn => by cases hn⟩
    | true =>
      have hlb : ¬ (l.length : Int) = g.Blocks.length := fun e => hc ⟨hk, by omega⟩
      have hlb2 : ¬ l.length = g.Blocks.length := fun e => hc ⟨hk, e⟩
      rw [hk] at G
      repeat' (first
       | with_reducible refine stp ?_
       | with_reducible refine k_blk_o rfl ?_
       | with_reducible refine k_seq_n ?_
       | ((try (conv => arg 1; simp [b1, hlb, hlb2, ltS, nm_ne])); with_reducible refine evp ?_)
       | ((with_reducible refine apn ?na ?_); (case na => simp [appNames, ints, intss] <;> first | kernel_rfl | (refine ⟨?_, ?_⟩ <;> kernel_rfl)))
       | ((with_reducible refine tcl ?_); first | ((apply tg (G)); (case e => rfl); (case d => (refine dq ?_); (repeat' (first | ((refine Da.mk ?_); first | exact dr_blocks (by simp) _ | assumption) | constructor)))))
       | fail)
      exact ⟨[], fun c => OwnV.one (.nilsl .nil), .nil, fun n hn => by cases hn⟩
end Go.Proofs.Ytlmlkkkgcbpaoaa.AM

/-
  A chain of blocks: both sides, and its size.
-/
set_option linter.unusedVariables false
set_option maxRecDepth 4000
namespace Go.Proofs.Ytlmlkkkgcbpaoaa.AM
theorem chainR_len (g : Graph) (d : g.Small) (l : List Int) : (chainR g l).length ≤ 2 ^ 20 := by
  have hln := d.len
  unfold chainR
  split
  · rename_i h
    rw [(ch_ok h.1 l _ (Nat.le_refl _)).1.len]
    omega
  · simp
end Go.Proofs.Ytlmlkkkgcbpaoaa.AM

/-
  The law of Chain.
-/
set_option linter.unusedVariables false
set_option linter.unusedSimpArgs false
set_option maxRecDepth 4000
namespace Go.Proofs.Ytlmlkkkgcbpaoaa.AM
open Go.RowKit

private def MLChain : FuncId → Mode := fun f => if f = 13 ∨ f = 17 ∨ f = 18 then .fresh else if f = 20 ∨ f = 21 then .heap else .tree

set_option maxHeartbeats 2000000 in
theorem lawChain (g : Graph) (aa : List Int) (d_g : g.Data) (d_aa : aa.length ≤ maxLen) : Sound Try.prog 4 [.agg (g.cells true), ints true aa] (.mt 0) fun v _ => v = .bool true := by
  have hnil : True := trivial
  refine enter mixed MLChain Try.func4 rfl (by kernel_rfl) rfl ?_
  repeat' (first
   | with_reducible refine stp ?_
   | with_reducible refine k_blk_o rfl ?_
   | ((try (conv => arg 1; simp [Graph.cells])); with_reducible refine evp ?_)
   | ((with_reducible refine apn ?na ?_); (case na => simp [appNames, ints, intss] <;> first | kernel_rfl | (refine ⟨?_, ?_⟩ <;> kernel_rfl)))
   | fail)
  refine cx_k Cx.mt_box ?_
  intro h1 x1
  repeat' (first
   | with_reducible refine stp ?_
   | with_reducible refine k_blk_o rfl ?_
   | ((try (conv => arg 1; simp [hnil])); with_reducible refine evp ?_)
   | ((with_reducible refine apn ?na ?_); (case na => simp [appNames, ints, intss] <;> first | kernel_rfl | (refine ⟨?_, ?_⟩ <;> kernel_rfl)))
   | fail)
  refine cx_k x1.next ?_
  intro h2 x2
  by_cases hl_aa : (1048576 : Int) < (aa.length : Int)
  · skip
    repeat' (first
     | with_reducible refine stp ?_
     | with_reducible refine k_blk_o rfl ?_
     | with_reducible refine k_seq_n ?_
     | ((try (conv => arg 1; simp [hl_aa])); with_reducible refine evp ?_)
     | ((with_reducible refine apn ?na ?_); (case na => simp [appNames, ints, intss] <;> first | kernel_rfl | (refine ⟨?_, ?_⟩ <;> kernel_rfl)))
     | fail)
    rfl
  have hq_aa := hl_aa
  repeat' (first
   | with_reducible refine stp ?_
   | with_reducible refine k_blk_o rfl ?_
   | ((try (conv => arg 1; simp [hl_aa])); with_reducible refine evp ?_)
   | ((with_reducible refine apn ?na ?_); (case na => simp [appNames, ints, intss] <;> first | kernel_rfl | (refine ⟨?_, ?_⟩ <;> kernel_rfl)))
   | fail)
  refine k_seq_n ?_
  replace hl_aa : aa.length ≤ 2 ^ 20 := by omega
  repeat' (first
   | with_reducible refine stp ?_
   | with_reducible refine k_blk_o rfl ?_
   | ((try (conv => arg 1; simp [hnil])); with_reducible refine evp ?_)
   | ((with_reducible refine apn ?na ?_); (case na => simp [appNames, ints, intss] <;> first | kernel_rfl | (refine ⟨?_, ?_⟩ <;> kernel_rfl)))
   | fail)
  refine cx_k x2.next ?_
  intro h3 x3
  obtain ⟨r1, hr_g, hs_g⟩ := szGraph g 1048576 (by omega) (by omega) d_g
  repeat' (first
   | with_reducible refine stp ?_
   | with_reducible refine k_blk_o rfl ?_
   | ((try (conv => arg 1; simp [x3.b0])); with_reducible refine evp ?_)
   | ((with_reducible refine apn ?na ?_); (case na => simp [appNames, ints, intss] <;> first | kernel_rfl | (refine ⟨?_, ?_⟩ <;> kernel_rfl)))
   | fail)
  refine st_tree rfl (hr_g) (.cons (dr_agg (drs_graphL g fun h => h)) (.cons (.int _ _) .nil)) ?_
  repeat' (first
   | with_reducible refine stp ?_
   | with_reducible refine k_blk_o rfl ?_
   | ((try (conv => arg 1; simp [x3.b0])); with_reducible refine evp ?_)
   | ((with_reducible refine apn ?na ?_); (case na => simp [appNames, ints, intss] <;> first | kernel_rfl | (refine ⟨?_, ?_⟩ <;> kernel_rfl)))
   | fail)
  refine cx_k x3.next ?_
  intro h4 x4
  repeat' (first
   | with_reducible refine stp ?_
   | with_reducible refine k_blk_o rfl ?_
   | ((try (conv => arg 1; simp [hnil])); with_reducible refine evp ?_)
   | ((with_reducible refine apn ?na ?_); (case na => simp [appNames, ints, intss] <;> first | kernel_rfl | (refine ⟨?_, ?_⟩ <;> kernel_rfl)))
   | fail)
  refine cx_k x4.next ?_
  intro h5 x5
  by_cases hneg : r1 < 0
  · skip
    repeat' (first
     | with_reducible refine stp ?_
     | with_reducible refine k_blk_o rfl ?_
     | with_reducible refine k_seq_n ?_
     | ((try (conv => arg 1; simp [hneg])); with_reducible refine evp ?_)
     | ((with_reducible refine apn ?na ?_); (case na => simp [appNames, ints, intss] <;> first | kernel_rfl | (refine ⟨?_, ?_⟩ <;> kernel_rfl)))
     | fail)
    rfl
  repeat' (first
   | with_reducible refine stp ?_
   | with_reducible refine k_blk_o rfl ?_
   | ((try (conv => arg 1; simp [hneg])); with_reducible refine evp ?_)
   | ((with_reducible refine apn ?na ?_); (case na => simp [appNames, ints, intss] <;> first | kernel_rfl | (refine ⟨?_, ?_⟩ <;> kernel_rfl)))
   | fail)
  refine k_seq_n ?_
  replace hs_g := hs_g.resolve_left hneg
  obtain ⟨hs_g, hg1_g, hg2_g⟩ := hs_g
  have S := (specChain g hs_g aa (by omega)).pure
  have I := implChain g hs_g aa (by omega)
  have hr := chainR_len g hs_g aa
  have ht_g := hs_g.tot
  generalize chainR g aa = R at S I hr
  repeat' (first
   | with_reducible refine stp ?_
   | with_reducible refine k_blk_o rfl ?_
   | ((try (conv => arg 1; simp [x5.b0])); with_reducible refine evp ?_)
   | ((with_reducible refine apn ?na ?_); (case na => simp [appNames, ints, intss] <;> first | kernel_rfl | (refine ⟨?_, ?_⟩ <;> kernel_rfl)))
   | fail)
  refine st_freshw rfl (toGraph g hs_g) (.cons (dr_agg (drs_graphL g fun h => h)) .nil) ?_
  intro v1 h6 n1 o1 e1 f1 p1 t1
  have x6 := x5.next.fresh o1 e1 f1 p1 t1
  have z6 : h5.tick < h6.tick := by simp only [hp_next_tick] at t1; omega
  obtain ⟨wa1, wb1, _, _, rfl, _, qa1, qb1⟩ := ownV_graph (o1 true)
  have qa1 := own_one qa1
  have qb1 := own_one' qb1
  repeat' (first
   | with_reducible refine stp ?_
   | with_reducible refine k_blk_o rfl ?_
   | ((try (conv => arg 1; simp [x6.b0, z6, qa1.1, qb1.1])); with_reducible refine evp ?_)
   | ((with_reducible refine apn ?na ?_); (case na => simp [appNames, ints, intss] <;> first | kernel_rfl | (refine ⟨?_, ?_⟩ <;> kernel_rfl)))
   | fail)
  refine st_fresh rfl (toIntS aa hl_aa) (.cons (dr_ints (fun h => h) _) .nil) ?_
  intro v2 h7 n2 o2 e2 f2 p2 t2
  have x7 := x6.fresh o2 e2 f2 p2 t2
  have z7 : h5.tick < h7.tick := by omega
  repeat' (first
   | with_reducible refine stp ?_
   | with_reducible refine k_blk_o rfl ?_
   | ((try (conv => arg 1; simp [x7.b0, z7])); with_reducible refine evp ?_)
   | ((with_reducible refine apn ?na ?_); (case na => simp [appNames, ints, intss] <;> first | kernel_rfl | (refine ⟨?_, ?_⟩ <;> kernel_rfl)))
   | fail)
  refine st_tree rfl (S) (.cons ((x7.o1 true).dr) (.cons ((x7.o0 true).dr) .nil)) ?_
  repeat' (first
   | with_reducible refine stp ?_
   | with_reducible refine k_blk_o rfl ?_
   | ((try (conv => arg 1; simp [x7.b0, z7])); with_reducible refine evp ?_)
   | ((with_reducible refine apn ?na ?_); (case na => simp [appNames, ints, intss] <;> first | kernel_rfl | (refine ⟨?_, ?_⟩ <;> kernel_rfl)))
   | fail)
  refine cx_k x7 ?_
  intro h8 x8
  repeat' (first
   | with_reducible refine stp ?_
   | with_reducible refine k_blk_o rfl ?_
   | ((try (conv => arg 1; simp [x8.b0])); with_reducible refine evp ?_)
   | ((with_reducible refine apn ?na ?_); (case na => simp [appNames, ints, intss] <;> first | kernel_rfl | (refine ⟨?_, ?_⟩ <;> kernel_rfl)))
   | fail)
  refine st_freshw rfl (toGraph g hs_g) (.cons (dr_agg (drs_graphL g fun h => h)) .nil) ?_
  intro v3 h9 n3 o3 e3 f3 p3 t3
  have x9 := x8.next.fresh o3 e3 f3 p3 t3
  have z9 : h8.tick < h9.tick := by simp only [hp_next_tick] at t3; omega
  obtain ⟨wa3, wb3, _, _, rfl, _, qa3, qb3⟩ := ownV_graph (o3 true)
  have qa3 := own_one qa3
  have qb3 := own_one' qb3
  repeat' (first
   | with_reducible refine stp ?_
   | with_reducible refine k_blk_o rfl ?_
   | ((try (conv => arg 1; simp [x9.b0, z9, qa3.1, qb3.1])); with_reducible refine evp ?_)
   | ((with_reducible refine apn ?na ?_); (case na => simp [appNames, ints, intss] <;> first | kernel_rfl | (refine ⟨?_, ?_⟩ <;> kernel_rfl)))
   | fail)
  refine cx_k (x9.box_new (x8.off.fresh f3 (by simp [hp_next_tick])) z9) ?_
  intro h10 x10
  repeat' (first
   | with_reducible refine stp ?_
   | with_reducible refine k_blk_o rfl ?_
   | ((try (conv => arg 1; simp [hnil])); with_reducible refine evp ?_)
   | ((with_reducible refine apn ?na ?_); (case na => simp [appNames, ints, intss] <;> first | kernel_rfl | (refine ⟨?_, ?_⟩ <;> kernel_rfl)))
   | fail)
  refine st_fresh rfl (toIntS aa hl_aa) (.cons (dr_ints (fun h => h) _) .nil) ?_
  intro v4 h11 n4 o4 e4 f4 p4 t4
  have x11 := x10.next.fresh o4 e4 f4 p4 t4
  have z11 : h10.tick < h11.tick := by simp only [hp_next_tick] at t4; omega
  repeat' (first
   | with_reducible refine stp ?_
   | with_reducible refine k_blk_o rfl ?_
   | ((try (conv => arg 1; simp [z11])); with_reducible refine evp ?_)
   | ((with_reducible refine apn ?na ?_); (case na => simp [appNames, ints, intss] <;> first | kernel_rfl | (refine ⟨?_, ?_⟩ <;> kernel_rfl)))
   | fail)
  refine cx_k x11 ?_
  intro h12 x12
  repeat' (first
   | with_reducible refine stp ?_
   | with_reducible refine k_blk_o rfl ?_
   | ((try (conv => arg 1; simp [x12.b0, qa3.1, qb3.1])); with_reducible refine evp ?_)
   | ((with_reducible refine apn ?na ?_); (case na => simp [appNames, ints, intss] <;> first | kernel_rfl | (refine ⟨?_, ?_⟩ <;> kernel_rfl)))
   | fail)
  refine st_freshw rfl I (.cons ((x12.next.o1 true).dr) (.cons ((x12.next.o0 true).dr) .nil)) ?_
  intro v5 h13 n5 o5 e5 f5 p5 t5
  have x13 := x12.next.fresh o5 e5 f5 p5 t5
  have z13 : h12.tick < h13.tick := by simp only [hp_next_tick] at t5; omega
  repeat' (first
   | with_reducible refine stp ?_
   | with_reducible refine k_blk_o rfl ?_
   | ((try (conv => arg 1; simp [x13.b0, qa3.1, qb3.1, z13])); with_reducible refine evp ?_)
   | ((with_reducible refine apn ?na ?_); (case na => simp [appNames, ints, intss] <;> first | kernel_rfl | (refine ⟨?_, ?_⟩ <;> kernel_rfl)))
   | fail)
  refine cx_k x13 ?_
  intro h14 x14
  repeat' (first
   | with_reducible refine stp ?_
   | with_reducible refine k_blk_o rfl ?_
   | ((try (conv => arg 1; simp [hnil])); with_reducible refine evp ?_)
   | ((with_reducible refine apn ?na ?_); (case na => simp [appNames, ints, intss] <;> first | kernel_rfl | (refine ⟨?_, ?_⟩ <;> kernel_rfl)))
   | fail)
  refine st_tree rfl (eqIntS R (by omega)) (.cons ((x14.next.o0 true).dr) (.cons (dr_ints (by simp) _) .nil)) ?_
  repeat' (first
   | with_reducible refine stp ?_
   | with_reducible refine k_blk_o rfl ?_
   | ((try (conv => arg 1; simp [hnil])); with_reducible refine evp ?_)
   | ((with_reducible refine apn ?na ?_); (case na => simp [appNames, ints, intss] <;> first | kernel_rfl | (refine ⟨?_, ?_⟩ <;> kernel_rfl)))
   | fail)
  refine cx_k x14.next ?_
  intro h15 x15
  repeat' (first
   | with_reducible refine stp ?_
   | with_reducible refine k_blk_o rfl ?_
   | ((try (conv => arg 1; simp [hnil])); with_reducible refine evp ?_)
   | ((with_reducible refine apn ?na ?_); (case na => simp [appNames, ints, intss] <;> first | kernel_rfl | (refine ⟨?_, ?_⟩ <;> kernel_rfl)))
   | fail)
  refine k_seq_n ?_
  repeat' (first
   | with_reducible refine stp ?_
   | with_reducible refine k_blk_o rfl ?_
   | ((try (conv => arg 1; simp [hnil])); with_reducible refine evp ?_)
   | ((with_reducible refine apn ?na ?_); (case na => simp [appNames, ints, intss] <;> first | kernel_rfl | (refine ⟨?_, ?_⟩ <;> kernel_rfl)))
   | fail)
  repeat (with_reducible first | refine stp ?_ | refine k_seq_n ?_)
  refine st_draw 5 (fun _ => false) (by kernel_rfl) ?_
  simp only [List.take_succ_cons, List.take_zero, List.drop_succ_cons, List.drop_zero, List.take_nil, List.drop_nil]
  repeat' (first
   | with_reducible refine stp ?_
   | with_reducible refine k_blk_o rfl ?_
   | ((try (conv => arg 1; simp [x15.b0, x15.b1, x15.l0, x15.l1, qa3.1, qb3.1])); with_reducible refine evp ?_)
   | ((with_reducible refine apn ?na ?_); (case na => simp [appNames, ints, intss] <;> first | kernel_rfl | (refine ⟨?_, ?_⟩ <;> kernel_rfl)))
   | fail)
  refine treeW_pure (toGraph g hs_g).pure (.cons (dr_agg (drs_graphL g fun h => h)) .nil) ?_
  repeat' (first
   | with_reducible refine stp ?_
   | with_reducible refine k_blk_o rfl ?_
   | ((try (conv => arg 1; simp [x15.b0, x15.b1, x15.l0, x15.l1, qa3.1, qb3.1])); with_reducible refine evp ?_)
   | ((with_reducible refine apn ?na ?_); (case na => simp [appNames, ints, intss] <;> first | kernel_rfl | (refine ⟨?_, ?_⟩ <;> kernel_rfl)))
   | fail)
  refine treeW_pure (eqGraph g hs_g) (.cons ((x15.m2 true).dr) (.cons (dr_agg (drs_graphL g (by simp))) .nil)) ?_
  repeat' (first
   | with_reducible refine stp ?_
   | with_reducible refine k_blk_o rfl ?_
   | ((try (conv => arg 1; simp [x15.b0, x15.b1, x15.l0, x15.l1, qa3.1, qb3.1])); with_reducible refine evp ?_)
   | ((with_reducible refine apn ?na ?_); (case na => simp [appNames, ints, intss] <;> first | kernel_rfl | (refine ⟨?_, ?_⟩ <;> kernel_rfl)))
   | fail)
  refine cx_k x15.next ?_
  intro h16 x16
  repeat' (first
   | with_reducible refine stp ?_
   | with_reducible refine k_blk_o rfl ?_
   | ((try (conv => arg 1; simp [hnil])); with_reducible refine evp ?_)
   | ((with_reducible refine apn ?na ?_); (case na => simp [appNames, ints, intss] <;> first | kernel_rfl | (refine ⟨?_, ?_⟩ <;> kernel_rfl)))
   | fail)
  refine k_seq_n ?_
  repeat' (first
   | with_reducible refine stp ?_
   | with_reducible refine k_blk_o rfl ?_
   | ((try (conv => arg 1; simp [hnil])); with_reducible refine evp ?_)
   | ((with_reducible refine apn ?na ?_); (case na => simp [appNames, ints, intss] <;> first | kernel_rfl | (refine ⟨?_, ?_⟩ <;> kernel_rfl)))
   | fail)
  refine st_fresh rfl (toIntS aa hl_aa) (.cons (dr_ints (fun h => h) _) .nil) ?_
  intro v6 h17 n6 o6 e6 f6 p6 t6
  have x17 := x16.next.fresh o6 e6 f6 p6 t6
  have z17 : h16.tick < h17.tick := by simp only [hp_next_tick] at t6; omega
  repeat' (first
   | with_reducible refine stp ?_
   | with_reducible refine k_blk_o rfl ?_
   | ((try (conv => arg 1; simp [z17])); with_reducible refine evp ?_)
   | ((with_reducible refine apn ?na ?_); (case na => simp [appNames, ints, intss] <;> first | kernel_rfl | (refine ⟨?_, ?_⟩ <;> kernel_rfl)))
   | fail)
  refine st_tree rfl (eqIntS aa (by omega)) (.cons ((x17.o2 true).dr) (.cons ((x17.o0 true).dr) .nil)) ?_
  repeat' (first
   | with_reducible refine stp ?_
   | with_reducible refine k_blk_o rfl ?_
   | ((try (conv => arg 1; simp [z17])); with_reducible refine evp ?_)
   | ((with_reducible refine apn ?na ?_); (case na => simp [appNames, ints, intss] <;> first | kernel_rfl | (refine ⟨?_, ?_⟩ <;> kernel_rfl)))
   | fail)
  refine cx_k x17 ?_
  intro h18 x18
  repeat' (first
   | with_reducible refine stp ?_
   | with_reducible refine k_blk_o rfl ?_
   | ((try (conv => arg 1; simp [hnil])); with_reducible refine evp ?_)
   | ((with_reducible refine apn ?na ?_); (case na => simp [appNames, ints, intss] <;> first | kernel_rfl | (refine ⟨?_, ?_⟩ <;> kernel_rfl)))
   | fail)
  refine k_seq_n ?_
  repeat' (first
   | with_reducible refine stp ?_
   | with_reducible refine k_blk_o rfl ?_
   | ((try (conv => arg 1; simp [hnil])); with_reducible refine evp ?_)
   | ((with_reducible refine apn ?na ?_); (case na => simp [appNames, ints, intss] <;> first | kernel_rfl | (refine ⟨?_, ?_⟩ <;> kernel_rfl)))
   | fail)
  refine cx_k x18.next ?_
  intro h19 x19
  repeat' (first
   | with_reducible refine stp ?_
   | with_reducible refine k_blk_o rfl ?_
   | ((try (conv => arg 1; simp [x19.b0, qa3.1, qb3.1])); with_reducible refine evp ?_)
   | ((with_reducible refine apn ?na ?_); (case na => simp [appNames, ints, intss] <;> first | kernel_rfl | (refine ⟨?_, ?_⟩ <;> kernel_rfl)))
   | fail)
  have y1 := x19.next.rot3
  refine st_heap rfl (markGraph y1 hs_g (1) (by omega) (by omega)) ?_
  rintro r h20 ⟨rfl, yy1⟩
  have x20 := yy1.drop
  repeat' (first
   | with_reducible refine stp ?_
   | with_reducible refine k_blk_o rfl ?_
   | ((try (conv => arg 1; simp [x20.b0, qa3.1, qb3.1])); with_reducible refine evp ?_)
   | ((with_reducible refine apn ?na ?_); (case na => simp [appNames, ints, intss] <;> first | kernel_rfl | (refine ⟨?_, ?_⟩ <;> kernel_rfl)))
   | fail)
  refine cx_k x20 ?_
  intro h21 x21
  repeat' (first
   | with_reducible refine stp ?_
   | with_reducible refine k_blk_o rfl ?_
   | ((try (conv => arg 1; simp [hnil])); with_reducible refine evp ?_)
   | ((with_reducible refine apn ?na ?_); (case na => simp [appNames, ints, intss] <;> first | kernel_rfl | (refine ⟨?_, ?_⟩ <;> kernel_rfl)))
   | fail)
  have y2 := x21.next.rot2
  refine st_heap rfl (markIntS (own_of (y2.o0 true) rfl) y2.lts (1 + (g.tot : Int)) (by omega) (by omega)) ?_
  rintro r h22 ⟨rfl, _, pk2, tk2⟩
  have x22 := y2.forget (fun n a _ => pk2 n a) tk2
  repeat' (first
   | with_reducible refine stp ?_
   | with_reducible refine k_blk_o rfl ?_
   | ((try (conv => arg 1; simp [hnil])); with_reducible refine evp ?_)
   | ((with_reducible refine apn ?na ?_); (case na => simp [appNames, ints, intss] <;> first | kernel_rfl | (refine ⟨?_, ?_⟩ <;> kernel_rfl)))
   | fail)
  refine cx_k x22 ?_
  intro h23 x23
  have hkneg : ¬ 1 + (g.tot : Int) + (aa.length : Int) < 0 := by omega
  repeat' (first
   | with_reducible refine stp ?_
   | with_reducible refine k_blk_o rfl ?_
   | ((try (conv => arg 1; simp [hkneg])); with_reducible refine evp ?_)
   | ((with_reducible refine apn ?na ?_); (case na => simp [appNames, ints, intss] <;> first | kernel_rfl | (refine ⟨?_, ?_⟩ <;> kernel_rfl)))
   | fail)
  refine st_tree rfl (eqIntS R (by omega)) (.cons ((x23.next.o1 true).dr) (.cons (dr_ints (by simp) _) .nil)) ?_
  repeat' (first
   | with_reducible refine stp ?_
   | with_reducible refine k_blk_o rfl ?_
   | ((try (conv => arg 1; simp [hkneg])); with_reducible refine evp ?_)
   | ((with_reducible refine apn ?na ?_); (case na => simp [appNames, ints, intss] <;> first | kernel_rfl | (refine ⟨?_, ?_⟩ <;> kernel_rfl)))
   | fail)
  refine cx_k x23.next ?_
  intro h24 x24
  repeat' (first
   | with_reducible refine stp ?_
   | with_reducible refine k_blk_o rfl ?_
   | ((try (conv => arg 1; simp [hkneg])); with_reducible refine evp ?_)
   | ((with_reducible refine apn ?na ?_); (case na => simp [appNames, ints, intss] <;> first | kernel_rfl | (refine ⟨?_, ?_⟩ <;> kernel_rfl)))
   | fail)
  refine k_seq_n ?_
  repeat' (first
   | with_reducible refine stp ?_
   | with_reducible refine k_blk_o rfl ?_
   | ((try (conv => arg 1; simp [hkneg])); with_reducible refine evp ?_)
   | ((with_reducible refine apn ?na ?_); (case na => simp [appNames, ints, intss] <;> first | kernel_rfl | (refine ⟨?_, ?_⟩ <;> kernel_rfl)))
   | fail)
  refine cx_k x24.next ?_
  intro h25 x25
  repeat' (first
   | with_reducible refine stp ?_
   | with_reducible refine k_blk_o rfl ?_
   | ((try (conv => arg 1; simp [hkneg])); with_reducible refine evp ?_)
   | ((with_reducible refine apn ?na ?_); (case na => simp [appNames, ints, intss] <;> first | kernel_rfl | (refine ⟨?_, ?_⟩ <;> kernel_rfl)))
   | fail)
  have y3 := x25.next.rot1
  refine st_heap rfl (markIntS (own_of (y3.o0 true) rfl) y3.lts 1 (by omega) (by omega)) ?_
  rintro r h26 ⟨rfl, og', pg', tg⟩
  have og := fun b => OwnV.one (og' b)
  have pg := fun n a (_ : n.1 < n.1 + 1) => pg' n a
  have x26 := y3.mark og (fun n a b => pg n a (by omega)) tg
  have hgneg : ¬ 1 + (R.length : Int) < 0 := by omega
  repeat' (first
   | with_reducible refine stp ?_
   | with_reducible refine k_blk_o rfl ?_
   | ((try (conv => arg 1; simp [hkneg, hgneg])); with_reducible refine evp ?_)
   | ((with_reducible refine apn ?na ?_); (case na => simp [appNames, ints, intss] <;> first | kernel_rfl | (refine ⟨?_, ?_⟩ <;> kernel_rfl)))
   | fail)
  refine cx_k x26 ?_
  intro h27 x27
  repeat' (first
   | with_reducible refine stp ?_
   | with_reducible refine k_blk_o rfl ?_
   | ((try (conv => arg 1; simp [hkneg, hgneg])); with_reducible refine evp ?_)
   | ((with_reducible refine apn ?na ?_); (case na => simp [appNames, ints, intss] <;> first | kernel_rfl | (refine ⟨?_, ?_⟩ <;> kernel_rfl)))
   | fail)
  refine cx_k x27.next ?_
  intro h28 x28
  repeat' (first
   | with_reducible refine stp ?_
   | with_reducible refine k_blk_o rfl ?_
   | ((try (conv => arg 1; simp [hkneg, hgneg])); with_reducible refine evp ?_)
   | ((with_reducible refine apn ?na ?_); (case na => simp [appNames, ints, intss] <;> first | kernel_rfl | (refine ⟨?_, ?_⟩ <;> kernel_rfl)))
   | fail)
  refine st_tree rfl (heldIntS R.length 1 (by omega) (by omega)) (.cons ((x28.next.o0 true).dr) (.cons (.int _ _) .nil)) ?_
  repeat' (first
   | with_reducible refine stp ?_
   | with_reducible refine k_blk_o rfl ?_
   | ((try (conv => arg 1; simp [hkneg, hgneg])); with_reducible refine evp ?_)
   | ((with_reducible refine apn ?na ?_); (case na => simp [appNames, ints, intss] <;> first | kernel_rfl | (refine ⟨?_, ?_⟩ <;> kernel_rfl)))
   | fail)
  refine cx_k x28.next ?_
  intro h29 x29
  repeat' (first
   | with_reducible refine stp ?_
   | with_reducible refine k_blk_o rfl ?_
   | ((try (conv => arg 1; simp [hkneg, hgneg])); with_reducible refine evp ?_)
   | ((with_reducible refine apn ?na ?_); (case na => simp [appNames, ints, intss] <;> first | kernel_rfl | (refine ⟨?_, ?_⟩ <;> kernel_rfl)))
   | fail)
  refine cx_k x29.next ?_
  intro h30 x30
  repeat' (first
   | with_reducible refine stp ?_
   | with_reducible refine k_blk_o rfl ?_
   | ((try (conv => arg 1; simp [hkneg, hgneg])); with_reducible refine evp ?_)
   | ((with_reducible refine apn ?na ?_); (case na => simp [appNames, ints, intss] <;> first | kernel_rfl | (refine ⟨?_, ?_⟩ <;> kernel_rfl)))
   | fail)
  refine k_seq_n ?_
  repeat' (first
   | with_reducible refine stp ?_
   | with_reducible refine k_blk_o rfl ?_
   | ((try (conv => arg 1; simp [hkneg, hgneg])); with_reducible refine evp ?_)
   | ((with_reducible refine apn ?na ?_); (case na => simp [appNames, ints, intss] <;> first | kernel_rfl | (refine ⟨?_, ?_⟩ <;> kernel_rfl)))
   | fail)
  refine cx_k x30.next ?_
  intro h31 x31
  repeat' (first
   | with_reducible refine stp ?_
   | with_reducible refine k_blk_o rfl ?_
   | ((try (conv => arg 1; simp [hkneg, hgneg])); with_reducible refine evp ?_)
   | ((with_reducible refine apn ?na ?_); (case na => simp [appNames, ints, intss] <;> first | kernel_rfl | (refine ⟨?_, ?_⟩ <;> kernel_rfl)))
   | fail)
  refine k_seq_n ?_
  repeat' (first
   | with_reducible refine stp ?_
   | with_reducible refine k_blk_o rfl ?_
   | ((try (conv => arg 1; simp [x31.b1, hkneg, hgneg])); with_reducible refine evp ?_)
   | ((with_reducible refine apn ?na ?_); (case na => simp [appNames, ints, intss] <;> first | kernel_rfl | (refine ⟨?_, ?_⟩ <;> kernel_rfl)))
   | fail)
  refine st_freshw rfl (toGraph g hs_g) (.cons (dr_agg (drs_graphL g fun h => h)) .nil) ?_
  intro v7 h32 n7 o7 e7 f7 p7 t7
  have x32 := x31.next.fresh o7 e7 f7 p7 t7
  have z32 : h31.tick < h32.tick := by simp only [hp_next_tick] at t7; omega
  obtain ⟨wa7, wb7, _, _, rfl, _, qa7, qb7⟩ := ownV_graph (o7 true)
  have qa7 := own_one qa7
  have qb7 := own_one' qb7
  repeat' (first
   | with_reducible refine stp ?_
   | with_reducible refine k_blk_o rfl ?_
   | ((try (conv => arg 1; simp [x32.b1, z32, qa7.1, qb7.1, hkneg, hgneg])); with_reducible refine evp ?_)
   | ((with_reducible refine apn ?na ?_); (case na => simp [appNames, ints, intss] <;> first | kernel_rfl | (refine ⟨?_, ?_⟩ <;> kernel_rfl)))
   | fail)
  refine st_fresh rfl (toIntS aa hl_aa) (.cons (dr_ints (fun h => h) _) .nil) ?_
  intro v8 h33 n8 o8 e8 f8 p8 t8
  have x33 := x32.fresh o8 e8 f8 p8 t8
  have z33 : h31.tick < h33.tick := by omega
  repeat' (first
   | with_reducible refine stp ?_
   | with_reducible refine k_blk_o rfl ?_
   | ((try (conv => arg 1; simp [x33.b1, z33, hkneg, hgneg])); with_reducible refine evp ?_)
   | ((with_reducible refine apn ?na ?_); (case na => simp [appNames, ints, intss] <;> first | kernel_rfl | (refine ⟨?_, ?_⟩ <;> kernel_rfl)))
   | fail)
  refine st_freshw rfl I (.cons ((x33.o1 true).dr) (.cons ((x33.o0 true).dr) .nil)) ?_
  intro v9 h34 n9 o9 e9 f9 p9 t9
  have x34 := x33.fresh o9 e9 f9 p9 t9
  have z34 : h31.tick < h34.tick := by omega
  repeat' (first
   | with_reducible refine stp ?_
   | with_reducible refine k_blk_o rfl ?_
   | ((try (conv => arg 1; simp [x34.b1, z34, hkneg, hgneg])); with_reducible refine evp ?_)
   | ((with_reducible refine apn ?na ?_); (case na => simp [appNames, ints, intss] <;> first | kernel_rfl | (refine ⟨?_, ?_⟩ <;> kernel_rfl)))
   | fail)
  refine cx_k x34 ?_
  intro h35 x35
  repeat' (first
   | with_reducible refine stp ?_
   | with_reducible refine k_blk_o rfl ?_
   | ((try (conv => arg 1; simp [hkneg, hgneg])); with_reducible refine evp ?_)
   | ((with_reducible refine apn ?na ?_); (case na => simp [appNames, ints, intss] <;> first | kernel_rfl | (refine ⟨?_, ?_⟩ <;> kernel_rfl)))
   | fail)
  refine st_tree rfl (eqIntS R (by omega)) (.cons ((x35.next.o0 true).dr) (.cons (dr_ints (by simp) _) .nil)) ?_
  repeat' (first
   | with_reducible refine stp ?_
   | with_reducible refine k_blk_o rfl ?_
   | ((try (conv => arg 1; simp [hkneg, hgneg])); with_reducible refine evp ?_)
   | ((with_reducible refine apn ?na ?_); (case na => simp [appNames, ints, intss] <;> first | kernel_rfl | (refine ⟨?_, ?_⟩ <;> kernel_rfl)))
   | fail)
  refine cx_k x35.next ?_
  intro h36 x36
  repeat' (first
   | with_reducible refine stp ?_
   | with_reducible refine k_blk_o rfl ?_
   | ((try (conv => arg 1; simp [hkneg, hgneg])); with_reducible refine evp ?_)
   | ((with_reducible refine apn ?na ?_); (case na => simp [appNames, ints, intss] <;> first | kernel_rfl | (refine ⟨?_, ?_⟩ <;> kernel_rfl)))
   | fail)
  refine k_seq_n ?_
  repeat' (first
   | with_reducible refine stp ?_
   | with_reducible refine k_blk_o rfl ?_
   | ((try (conv => arg 1; simp [hkneg, hgneg])); with_reducible refine evp ?_)
   | ((with_reducible refine apn ?na ?_); (case na => simp [appNames, ints, intss] <;> first | kernel_rfl | (refine ⟨?_, ?_⟩ <;> kernel_rfl)))
   | fail)
  refine cx_k x36.next ?_
  intro h37 x37
  repeat' (first
   | with_reducible refine stp ?_
   | with_reducible refine k_blk_o rfl ?_
   | ((try (conv => arg 1; simp [hkneg, hgneg])); with_reducible refine evp ?_)
   | ((with_reducible refine apn ?na ?_); (case na => simp [appNames, ints, intss] <;> first | kernel_rfl | (refine ⟨?_, ?_⟩ <;> kernel_rfl)))
   | fail)
  refine st_tree rfl (heldIntS R.length 1 (by omega) (by omega)) (.cons ((x37.next.o3 true).dr) (.cons (.int _ _) .nil)) ?_
  repeat' (first
   | with_reducible refine stp ?_
   | with_reducible refine k_blk_o rfl ?_
   | ((try (conv => arg 1; simp [hkneg, hgneg])); with_reducible refine evp ?_)
   | ((with_reducible refine apn ?na ?_); (case na => simp [appNames, ints, intss] <;> first | kernel_rfl | (refine ⟨?_, ?_⟩ <;> kernel_rfl)))
   | fail)
  refine cx_k x37.next ?_
  intro h38 x38
  repeat' (first
   | with_reducible refine stp ?_
   | with_reducible refine k_blk_o rfl ?_
   | ((try (conv => arg 1; simp [hkneg, hgneg])); with_reducible refine evp ?_)
   | ((with_reducible refine apn ?na ?_); (case na => simp [appNames, ints, intss] <;> first | kernel_rfl | (refine ⟨?_, ?_⟩ <;> kernel_rfl)))
   | fail)
  refine cx_k x38.next ?_
  intro h39 x39
  repeat' (first
   | with_reducible refine stp ?_
   | with_reducible refine k_blk_o rfl ?_
   | ((try (conv => arg 1; simp [hkneg, hgneg])); with_reducible refine evp ?_)
   | ((with_reducible refine apn ?na ?_); (case na => simp [appNames, ints, intss] <;> first | kernel_rfl | (refine ⟨?_, ?_⟩ <;> kernel_rfl)))
   | fail)
  refine k_seq_n ?_
  repeat' (first
   | with_reducible refine stp ?_
   | with_reducible refine k_blk_o rfl ?_
   | ((try (conv => arg 1; simp [hkneg, hgneg])); with_reducible refine evp ?_)
   | ((with_reducible refine apn ?na ?_); (case na => simp [appNames, ints, intss] <;> first | kernel_rfl | (refine ⟨?_, ?_⟩ <;> kernel_rfl)))
   | fail)
  refine cx_k x39.next ?_
  intro h40 x40
  repeat' (first
   | with_reducible refine stp ?_
   | with_reducible refine k_blk_o rfl ?_
   | ((try (conv => arg 1; simp [hkneg, hgneg])); with_reducible refine evp ?_)
   | ((with_reducible refine apn ?na ?_); (case na => simp [appNames, ints, intss] <;> first | kernel_rfl | (refine ⟨?_, ?_⟩ <;> kernel_rfl)))
   | fail)
  refine k_seq_n ?_
  repeat' (first
   | with_reducible refine stp ?_
   | with_reducible refine k_blk_o rfl ?_
   | with_reducible refine k_seq_n ?_
   | ((try (conv => arg 1; simp [hkneg, hgneg])); with_reducible refine evp ?_)
   | ((with_reducible refine apn ?na ?_); (case na => simp [appNames, ints, intss] <;> first | kernel_rfl | (refine ⟨?_, ?_⟩ <;> kernel_rfl)))
   | fail)
  rfl
end Go.Proofs.Ytlmlkkkgcbpaoaa.AM


namespace Go.Proofs.Ytlmlkkkgcbpaoaa.fnExactChain
open Go.ChangeShapes Go.WideShapes Go.ChangeAt Go.RowKit
set_option linter.unusedVariables false
theorem own : ownKnob Try.prog.godebug = none := by kernel_rfl

theorem sound (l : List AM.AV) (h : AM.ShpAll Try.prog [25, 22] l) : AM.Sound Try.prog 4 l (.mt 0) fun v _ => v = .bool true := by
  obtain ⟨cells0, l0, g0, e0, k0⟩ := AM.shpAll_cons h
  obtain ⟨cells1, l1, g1, e1, k1⟩ := AM.shpAll_cons k0
  have e' := AM.shpAll_nil k1
  subst e' e1 e0
  obtain ⟨a0, rfl, d0⟩ := AM.shp_graph g0
  obtain ⟨a1, rfl, d1, _⟩ := g1.ints_inv AM.und_22 AM.und_3
  rw [AM.agg_graph, AM.av22]
  exact AM.lawChain a0 a1 d0 d1

set_option maxRecDepth 100000 in
theorem lifted (os : Os) (started : os.Started) (H : Type) (enc : TypeId × Value → H) :
    ReturnsInHanded {} Try.checked os 4 .any (Rows.fnExactChainSpec.pre6 enc Try.prog Try.f4 Rows.fnExactChainRow.domain false) (Rows.fnExactChainSpec.post enc Try.prog Try.f4 false true false false) := by
  refine returnsInHanded_of_change_sized (C := Try.checked) own started (by kernel_rfl) Try.func4
    (ChangeSpec.witness6 (enc := enc) (C := Try.checked) false ⟨#[], #[.agg #[.slice none 0 0, .int .i64 0, .int .i64 0, .int .i64 0, .slice none 0 0], .slice none 0 0], []⟩ 8 (by kernel_rfl) (by kernel_rfl) (by kernel_rfl) (by kernel_rfl)) ?_
  intro W base args ds gs before hval0 hW hcnd hsz0 _
  have hval : ∀ (j : Nat) t v, Try.f4.params[j]? = some t → args[j]? = some v → Value.okWide Try.prog W .any base t v := hval0
  have hW' := hW
  obtain ⟨p, q, hA0, hV, rfl, hfz, hnd⟩ := hW
  have hA : DataW.TrodAll enc Try.prog W 0 (fun _ => true) true Try.f4.params.toList args.toList ds p := hA0
  rw [Try.params4] at hA hval
  obtain ⟨v0, vs0, d0, ds0, p0, q0, hargs, rfl, rfl, h0, r0⟩ := trodAll_cons hA
  obtain ⟨v1, vs1, d1, ds1, p1, q1, rfl, rfl, rfl, h1, r1⟩ := trodAll_cons r0
  obtain ⟨rfl, rfl, rfl⟩ := trodAll_nil r1
  obtain rfl : args = #[v0, v1] := by cases args; simp_all
  obtain ⟨rfl, rfl⟩ := trodVars_none hV
  clear hA0 hval0 hsz0
  refine (AM.law_calls (params := [25, 22]) (ts := [25, 3, 22, 23, 80, 78, 156, 9]) sound (by kernel_rfl) (by simp) (args := #[v0, v1]) (fun j t v a b => hval j t v (by simpa using a) b) hA).mono fun e W' ⟨he, bel⟩ => ?_
  subst he
  exact ⟨_, rfl, _, _, _, [], _, [], hW', trodAll_mk1 (shut_bool Try.underlying4 _), AM.back_all AM.laid bel _ _ _ _ (by kernel_rfl) hA, rfl, bel.frame _, fun h => by cases h⟩
theorem over : Rows.fnExactChainRow.holds Try.pinned (OpenSpec.ofChange Rows.fnExactChainSpec) :=
  OpenClaim.holds_of_wide 4 Try.f4 rfl rfl rfl rfl rfl rfl rfl ⟨rfl, rfl, rfl, rfl, rfl⟩ rfl rfl rfl rfl rfl (by kernel_rfl) Try.func4 (by kernel_rfl)
    (of_decide_eq_true (by kernel_rfl)) (by unfold Func.isWrapper; first | (rw [if_pos (by decide +kernel)]; kernel_rfl) | (rw [if_neg (by decide +kernel)]; exact ⟨rfl, rfl⟩))
    (fun os started H enc _ => lifted os started H enc)
theorem proved : Rows.FnExactChainSaid := over
end Go.Proofs.Ytlmlkkkgcbpaoaa.fnExactChain
namespace Go.Proofs.Ytlmlkkkgcbpaoaa
theorem fnExactChain_holds : Rows.FnExactChainSaid := fnExactChain.proved
end Go.Proofs.Ytlmlkkkgcbpaoaa
