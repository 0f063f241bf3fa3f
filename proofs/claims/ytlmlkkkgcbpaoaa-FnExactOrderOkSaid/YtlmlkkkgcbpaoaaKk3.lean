/- Lemmas: an abstract machine over named rows, and what single functions compute (parts G8, G9, G4, G12, G13, G14, G15, G7, G16, G17, G18, G19, G20, G21, G22, G23, G24, G25, G26, G27, G31). -/
import Derived.Test.YtlmlkkkgcbpaoaaKk2
/-
  A block, a graph that is right: the reference's.
-/
set_option linter.unusedVariables false
set_option linter.unusedSimpArgs false
set_option maxRecDepth 4000
namespace Go.Proofs.Ytlmlkkkgcbpaoaa.AM
open Go.RowKit

private def MG8 : FuncId → Mode := fun f => .tree

theorem all_take {α : Type} {l : List α} {p : α → Bool} {i : Nat} (hi : i < l.length) : (l.take (i + 1)).all p = ((l.take i).all p && p l[i]) := by
  have hx : l[i]? = some l[i] := by simp
  rw [List.take_add_one, hx, List.all_append, Option.toList_some, List.all_cons, List.all_nil, Bool.and_true]
theorem all_false {α : Type} {l : List α} {p : α → Bool} {i : Nat} (hi : i < l.length) (h : p l[i] = false) : l.all p = false := by
  cases ha : l.all p with
  | false => rfl
  | true => rw [List.all_eq_true] at ha; rw [ha _ (List.getElem_mem hi)] at h; cases h

set_option maxHeartbeats 4000000 in
theorem l04BlockOk (g : Graph) (b : Block) (hs : 0 ≤ g.Slots ∧ g.Slots ≤ 1000) (hr : g.Sizes.length ≤ 2 ^ 20) (hb : g.Blocks.length ≤ 2 ^ 20) (hc : b.Code.length ≤ 2 ^ 20) : Pure Try.prog 69 [.agg (g.cells true), .agg (b.cells true)] (.bool (blockOk g b)) := by
  intro T
  have w1 : IntKind.i64.wrap (g.Slots - 1) = g.Slots - 1 := wrap_id (by omega) (by omega)
  have w2 : IntKind.i64.wrap ((g.Blocks.length : Int) - 1) = (g.Blocks.length : Int) - 1 := wrap_id (by omega) (by omega)
  refine enter mixed MG8 Try.func69 rfl (by kernel_rfl) rfl ?_
  repeat' (first
   | with_reducible refine stp ?_
   | with_reducible refine k_blk_o rfl ?_
   | ((try (conv => arg 1; simp [Graph.cells, Block.cells])); with_reducible refine evp ?_)
   | ((with_reducible refine apn ?na ?_); (case na => simp [appNames, ints, intss] <;> first | kernel_rfl | (refine ⟨?_, ?_⟩ <;> kernel_rfl)))
   | fail)
  refine cx_k ((Cx.mt.next.box_one (T := T) (i := 0) Cx.mt.off (by simp)).box_add (n := (T, 1, 0)) (by simp [nms]) (by simp)) ?_
  intro h1 x1
  have b1 := x1.bxs
  simp only [Bxs] at b1
  repeat' (first
   | with_reducible refine stp ?_
   | with_reducible refine k_blk_o rfl ?_
   | with_reducible refine k_seq_n ?_
   | ((try (conv => arg 1; simp [b1])); with_reducible refine evp ?_)
   | ((with_reducible refine apn ?na ?_); (case na => simp [appNames, ints, intss] <;> first | kernel_rfl | (refine ⟨?_, ?_⟩ <;> kernel_rfl)))
   | fail)
  refine st_loop (fun (i : Nat) σ h => i ≤ b.Code.length ∧ σ 2 = .ptr (T, 0, 0) 0 0 0 ∧ σ 3 = .ptr (T, 1, 0) 0 0 0 ∧ σ 5 = .int .i64 i ∧ (b.Code.take i).all (instrOk g.Slots g.Sizes.length) = true ∧
    Cx h [((T, 1, 0), ⟨0, 5, [[instrs true b.Code, .int .i64 b.Jump, .int .i64 b.A, .int .i64 b.To, .int .i64 b.Else]]⟩), ((T, 0, 0), ⟨0, 5, [[ints true g.Sizes, .int .i64 g.Params, .int .i64 g.Vars, .int .i64 g.Slots, blocks true g.Blocks]]⟩)] []) (fun i => b.Code.length - i) 0 ?init ?step
  case init => exact ⟨Nat.zero_le _, by simp, by simp, by simp, rfl, Cx.to x1⟩
  case step =>
    rintro i σ h ⟨hi, s2, s3, s5, ha, x⟩
    have b2 := x.bxs
    simp only [Bxs] at b2
    by_cases hlt : i < b.Code.length
    · have hlt2 : (i : Int) < b.Code.length := by omega
      have hx : b.Code[i]? = some b.Code[i] := by simp
      have hlen := instr_len b.Code[i]
      have hw : IntKind.i64.wrap (i + 1) = i + 1 := wrap_id (by omega) (by omega)
      have I := l04InstrOk g b.Code[i] hs hr
      have hT : ¬ T = h.tick + 1 := by omega
      repeat' (first
       | with_reducible refine stp ?_
       | with_reducible refine k_blk_o rfl ?_
       | with_reducible refine k_seq_n ?_
       | ((try (conv => arg 1; simp [s2, s3, s5, b2, hlt2])); with_reducible refine evp ?_)
       | ((with_reducible refine apn ?na ?_); (case na => simp [appNames, ints, intss] <;> first | kernel_rfl | (refine ⟨?_, ?_⟩ <;> kernel_rfl)))
       | fail)
      cases hv : instrOk g.Slots g.Sizes.length b.Code[i] with
      | false =>
        rw [hv] at I
        repeat (with_reducible first | refine stp ?_ | refine k_seq_n ?_)
        refine st_lz (by kernel_rfl) ?_
        have hF := And.intro s2 (And.intro s3 (And.intro s5 (And.intro b2 (And.intro hT (And.intro hx hlen)))))
        repeat' (first
         | with_reducible refine stp ?_
         | with_reducible refine k_blk_o rfl ?_
         | ((try (conv => arg 1; simp [instrs, Instr.cells, hF])); with_reducible refine evp ?_)
         | ((with_reducible refine apn ?na ?_); (case na => simp [appNames, ints, intss] <;> first | kernel_rfl | (refine ⟨?_, ?_⟩ <;> kernel_rfl)))
         | ((with_reducible refine tcl ?_); first | ((apply tg (I)); (case e => rfl); (case d => (refine dq ?_); (repeat' (first | ((refine Da.mk ?_); first | exact dr_blocks (by simp) _ | assumption) | constructor)))))
          | ((with_reducible refine la_id ?_); refine la_end rfl ?_; (repeat (first | refine pl_nil ?_ | refine pl_cons ?_)))
          | ((with_reducible refine la_id ?_); refine la_pick ?_; (conv => arg 1; whnf); (repeat ((fail_if_success (first | ((refine la_q0 rfl ?_); (try (conv => arg 1; simp [instrs, Instr.cells, hF])); with_reducible refine evp ?_) | ((refine la_n rfl rfl ?_); (try (conv => arg 1; simp [instrs, Instr.cells, hF])); with_reducible refine evp ?_) | ((refine la_q2 rfl (by decide +kernel) ?_); (repeat (first | refine bk_nil ?_ | refine bk_t (by decide +kernel) ?_ | refine bk_f (by decide +kernel) ?_)); (try (conv => arg 1; simp [instrs, Instr.cells, hF])); with_reducible refine evp ?_) | ((refine la_q1 rfl (by decide +kernel) ?_); (try (conv => arg 1; simp [instrs, Instr.cells, hF])); with_reducible refine evp ?_) | ((refine la_g0 rfl ?_); (try (conv => arg 1; simp [instrs, Instr.cells, hF])); with_reducible refine evp ?_; (with_reducible refine evp ?_); try ((try (conv => arg 1; simp [instrs, Instr.cells, hF])); with_reducible refine evp ?_)))); (refine la_there ?_); (conv => arg 1; whnf))); first | ((refine la_q0 rfl ?_); (try (conv => arg 1; simp [instrs, Instr.cells, hF])); with_reducible refine evp ?_) | ((refine la_n rfl rfl ?_); (try (conv => arg 1; simp [instrs, Instr.cells, hF])); with_reducible refine evp ?_) | ((refine la_q2 rfl (by decide +kernel) ?_); (repeat (first | refine bk_nil ?_ | refine bk_t (by decide +kernel) ?_ | refine bk_f (by decide +kernel) ?_)); (try (conv => arg 1; simp [instrs, Instr.cells, hF])); with_reducible refine evp ?_) | ((refine la_q1 rfl (by decide +kernel) ?_); (try (conv => arg 1; simp [instrs, Instr.cells, hF])); with_reducible refine evp ?_) | ((refine la_g0 rfl ?_); (try (conv => arg 1; simp [instrs, Instr.cells, hF])); with_reducible refine evp ?_; (with_reducible refine evp ?_); try ((try (conv => arg 1; simp [instrs, Instr.cells, hF])); with_reducible refine evp ?_)))
          | ((with_reducible refine la_id ?_); refine la_all rfl ?_)
          | ((with_reducible refine all_id ?_); (conv => arg 1; whnf); first | exact all_nil | refine all_cons ?_ ?_)
          | (refine la_op rfl (by first | exact frm_s (by decide +kernel) | exact frm_a (by repeat' (first | exact fa_nil | refine fa_cons (by decide +kernel) ?_))) (by intro hq; first | exact trivial | (cases hq; done) | simp [appT, instrs, Instr.cells, hF]) ?_; (repeat (first | refine bk_nil ?_ | refine bk_t (by decide +kernel) ?_ | refine bk_f (by decide +kernel) ?_)))
         | fail)
        repeat' (first
         | with_reducible refine stp ?_
         | with_reducible refine k_blk_o rfl ?_
         | with_reducible refine k_seq_n ?_
         | ((try (conv => arg 1; simp [s2, s3, s5, b2])); with_reducible refine evp ?_)
         | ((with_reducible refine apn ?na ?_); (case na => simp [appNames, ints, intss] <;> first | kernel_rfl | (refine ⟨?_, ?_⟩ <;> kernel_rfl)))
         | fail)
        have e : blockOk g b = false := by unfold blockOk; rw [all_false hlt hv, Bool.false_and]
        rw [e]
        exact .bool _
      | true =>
        rw [hv] at I
        repeat (with_reducible first | refine stp ?_ | refine k_seq_n ?_)
        refine st_lz (by kernel_rfl) ?_
        have hF := And.intro s2 (And.intro s3 (And.intro s5 (And.intro b2 (And.intro hT (And.intro hx hlen)))))
        repeat' (first
         | with_reducible refine stp ?_
         | with_reducible refine k_blk_o rfl ?_
         | ((try (conv => arg 1; simp [instrs, Instr.cells, hF])); with_reducible refine evp ?_)
         | ((with_reducible refine apn ?na ?_); (case na => simp [appNames, ints, intss] <;> first | kernel_rfl | (refine ⟨?_, ?_⟩ <;> kernel_rfl)))
         | ((with_reducible refine tcl ?_); first | ((apply tg (I)); (case e => rfl); (case d => (refine dq ?_); (repeat' (first | ((refine Da.mk ?_); first | exact dr_blocks (by simp) _ | assumption) | constructor)))))
          | ((with_reducible refine la_id ?_); refine la_end rfl ?_; (repeat (first | refine pl_nil ?_ | refine pl_cons ?_)))
          | ((with_reducible refine la_id ?_); refine la_pick ?_; (conv => arg 1; whnf); (repeat ((fail_if_success (first | ((refine la_q0 rfl ?_); (try (conv => arg 1; simp [instrs, Instr.cells, hF])); with_reducible refine evp ?_) | ((refine la_n rfl rfl ?_); (try (conv => arg 1; simp [instrs, Instr.cells, hF])); with_reducible refine evp ?_) | ((refine la_q2 rfl (by decide +kernel) ?_); (repeat (first | refine bk_nil ?_ | refine bk_t (by decide +kernel) ?_ | refine bk_f (by decide +kernel) ?_)); (try (conv => arg 1; simp [instrs, Instr.cells, hF])); with_reducible refine evp ?_) | ((refine la_q1 rfl (by decide +kernel) ?_); (try (conv => arg 1; simp [instrs, Instr.cells, hF])); with_reducible refine evp ?_) | ((refine la_g0 rfl ?_); (try (conv => arg 1; simp [instrs, Instr.cells, hF])); with_reducible refine evp ?_; (with_reducible refine evp ?_); try ((try (conv => arg 1; simp [instrs, Instr.cells, hF])); with_reducible refine evp ?_)))); (refine la_there ?_); (conv => arg 1; whnf))); first | ((refine la_q0 rfl ?_); (try (conv => arg 1; simp [instrs, Instr.cells, hF])); with_reducible refine evp ?_) | ((refine la_n rfl rfl ?_); (try (conv => arg 1; simp [instrs, Instr.cells, hF])); with_reducible refine evp ?_) | ((refine la_q2 rfl (by decide +kernel) ?_); (repeat (first | refine bk_nil ?_ | refine bk_t (by decide +kernel) ?_ | refine bk_f (by decide +kernel) ?_)); (try (conv => arg 1; simp [instrs, Instr.cells, hF])); with_reducible refine evp ?_) | ((refine la_q1 rfl (by decide +kernel) ?_); (try (conv => arg 1; simp [instrs, Instr.cells, hF])); with_reducible refine evp ?_) | ((refine la_g0 rfl ?_); (try (conv => arg 1; simp [instrs, Instr.cells, hF])); with_reducible refine evp ?_; (with_reducible refine evp ?_); try ((try (conv => arg 1; simp [instrs, Instr.cells, hF])); with_reducible refine evp ?_)))
          | ((with_reducible refine la_id ?_); refine la_all rfl ?_)
          | ((with_reducible refine all_id ?_); (conv => arg 1; whnf); first | exact all_nil | refine all_cons ?_ ?_)
          | (refine la_op rfl (by first | exact frm_s (by decide +kernel) | exact frm_a (by repeat' (first | exact fa_nil | refine fa_cons (by decide +kernel) ?_))) (by intro hq; first | exact trivial | (cases hq; done) | simp [appT, instrs, Instr.cells, hF]) ?_; (repeat (first | refine bk_nil ?_ | refine bk_t (by decide +kernel) ?_ | refine bk_f (by decide +kernel) ?_)))
         | fail)
        repeat' (first
         | with_reducible refine stp ?_
         | with_reducible refine k_blk_o rfl ?_
         | with_reducible refine k_seq_n ?_
         | ((try (conv => arg 1; simp [s2, s3, s5, b2, hw])); with_reducible refine evp ?_)
         | ((with_reducible refine apn ?na ?_); (case na => simp [appNames, ints, intss] <;> first | kernel_rfl | (refine ⟨?_, ?_⟩ <;> kernel_rfl)))
         | fail)
        refine k_lp_n (i + 1) (by omega) ⟨by omega, by simp [s2], by simp [s3], by simp, by rw [all_take hlt, ha, hv]; rfl, Cx.to x⟩
    · have hlt2 : ¬ (i : Int) < b.Code.length := by omega
      rw [List.take_of_length_le (by omega)] at ha
      have e : blockOk g b = (if b.Jump = 0 then inB b.To 0 ((g.Blocks.length : Int) - 1) && decide (b.A = 0) && decide (b.Else = 0)
        else if b.Jump = 1 then inB b.To 0 ((g.Blocks.length : Int) - 1) && inB b.Else 0 ((g.Blocks.length : Int) - 1) && inB b.A 0 (g.Slots - 1)
        else if b.Jump = 2 then inB b.A 0 (g.Slots - 1) && decide (b.To = 0) && decide (b.Else = 0)
        else false) := by unfold blockOk; rw [ha, Bool.true_and]
      rw [e]
      repeat' (first
        | (with_reducible first | refine st_seq ?_ | refine st_reg ?_ | refine st_block ?_ | refine st_nil ?_ | refine st_skip ?_ | refine st_ret ?_ | refine st_exit ?_ | refine fr_nil ?_ | refine k_seq_n ?_ | refine k_seq_r ?_ | refine k_seq_e ?_ | refine k_blk_n ?_ | refine k_blk_r ?_ | refine k_blk_s ?_ | refine k_blk_o rfl ?_ | refine k_fn_r ?_ | refine k_fn_n ?_ | refine k_lp_r ?_ | refine k_lp_e ?_)
        | ((with_reducible first | refine st_move ?_ | refine st_asg ?_ | refine st_c ?_ | refine fr_c ?_); (try (conv => arg 1; simp [s2, s3, s5, b2, hlt2, w1, w2, ltS, nm_ne])); (with_reducible refine at_mk ?_))
        | ((with_reducible first | refine st_g ?_ | refine fr_g ?_); (try (conv => arg 1; simp [s2, s3, s5, b2, hlt2, w1, w2, ltS, nm_ne])); (with_reducible refine at_mk ?_); with_reducible first | refine gd_tt ?_ | refine gd_ff ?_ | refine gd_tf ?_ | refine gd_ft ?_ | refine gd_no ?_)
        | ((with_reducible first | refine st_gm ?_ | refine fr_gm ?_); (try (conv => arg 1; simp [s2, s3, s5, b2, hlt2, w1, w2, ltS, nm_ne])); (with_reducible refine at_mk ?_); (with_reducible first | refine gm_bool ?_ | refine gm_gv ?_); refine ⟨_, (by intro hc; first | ((try simp only [Bool.and_eq_true] at hc); (try (conv => lhs; simp [hc, s2, s3, s5, b2, hlt2, w1, w2, ltS, nm_ne])); first | done | exact rfl) | ((try simp [gq] at hc); (try (conv => lhs; simp [gq, hc, s2, s3, s5, b2, hlt2, w1, w2, ltS, nm_ne])); first | done | exact rfl)), ?_⟩)
        | ((with_reducible refine st_gmc ?_); (try (conv => arg 1; simp [s2, s3, s5, b2, hlt2, w1, w2, ltS, nm_ne])); (with_reducible refine at_mk ?_); (with_reducible first | refine gm_bool ?_ | refine gm_gv ?_); refine ⟨_, _, _, (by intro hc; first | ((try simp only [Bool.and_eq_true] at hc); (try (conv => lhs; simp [hc, s2, s3, s5, b2, hlt2, w1, w2, ltS, nm_ne])); first | done | exact rfl) | ((try simp [gq] at hc); (try (conv => lhs; simp [gq, hc, s2, s3, s5, b2, hlt2, w1, w2, ltS, nm_ne])); first | done | exact rfl)), rfl, l01In _ _ _, (by intro hc; (try simp at hc); (repeat' (first | exact DRs.nil | refine DRs.cons ?_ ?_ | exact .int _ _ | exact .bool _ | exact .str _ | exact .nilsl | exact .nilp | exact dr_ints (by simp) _ | exact dr_intss (by simp) _ | refine dr_agg ?_ | refine dr_fn ?_ | refine dr_tptr' (by simp) ?_ | assumption))), ?_⟩)
        | ((with_reducible refine fr_gmc ?_); (try (conv => arg 1; simp [s2, s3, s5, b2, hlt2, w1, w2, ltS, nm_ne])); (with_reducible refine at_mk ?_); (with_reducible first | refine gm_bool ?_ | refine gm_gv ?_); refine ⟨_, _, _, (by intro hc; first | ((try simp only [Bool.and_eq_true] at hc); (try (conv => lhs; simp [hc, s2, s3, s5, b2, hlt2, w1, w2, ltS, nm_ne])); first | done | exact rfl) | ((try simp [gq] at hc); (try (conv => lhs; simp [gq, hc, s2, s3, s5, b2, hlt2, w1, w2, ltS, nm_ne])); first | done | exact rfl)), l01In _ _ _, (by intro hc; (try simp at hc); (repeat' (first | exact DRs.nil | refine DRs.cons ?_ ?_ | exact .int _ _ | exact .bool _ | exact .str _ | exact .nilsl | exact .nilp | exact dr_ints (by simp) _ | exact dr_intss (by simp) _ | refine dr_agg ?_ | refine dr_fn ?_ | refine dr_tptr' (by simp) ?_ | assumption))), ?_⟩)
        | ((with_reducible refine st_gmv ?_); (try (conv => arg 1; simp [s2, s3, s5, b2, hlt2, w1, w2, ltS, nm_ne])); (with_reducible refine at_mk ?_); (with_reducible first | refine gm_bool ?_ | refine gm_gv ?_); refine ⟨_, _, _, _, _, (by intro hc; first | ((try simp only [Bool.and_eq_true] at hc); (try (conv => lhs; simp [hc, s2, s3, s5, b2, hlt2, w1, w2, ltS, nm_ne])); first | done | exact rfl) | ((try simp [gq] at hc); (try (conv => lhs; simp [gq, hc, s2, s3, s5, b2, hlt2, w1, w2, ltS, nm_ne])); first | done | exact rfl)), (by intro hc; first | ((try simp only [Bool.and_eq_true] at hc); (try (conv => lhs; simp [hc, s2, s3, s5, b2, hlt2, w1, w2, ltS, nm_ne])); first | done | exact rfl) | ((try simp [gq] at hc); (try (conv => lhs; simp [gq, hc, s2, s3, s5, b2, hlt2, w1, w2, ltS, nm_ne])); first | done | exact rfl)), rfl, l01In _ _ _, (by intro hc; (try simp at hc); (repeat' (first | exact DRs.nil | refine DRs.cons ?_ ?_ | exact .int _ _ | exact .bool _ | exact .str _ | exact .nilsl | exact .nilp | exact dr_ints (by simp) _ | exact dr_intss (by simp) _ | refine dr_agg ?_ | refine dr_fn ?_ | refine dr_tptr' (by simp) ?_ | assumption))), ?_⟩)
        | ((with_reducible refine st_m rfl ?_); (try (conv => arg 1; simp [s2, s3, s5, b2, hlt2, w1, w2, ltS, nm_ne])); (with_reducible refine ev2_some ?_))
        | ((with_reducible refine fr_n rfl ?_); (try (conv => arg 1; simp [s2, s3, s5, b2, hlt2, w1, w2, ltS, nm_ne])); (with_reducible refine evn_some ?_))
        | ((with_reducible first | refine st_cv ?_ | refine fr_cv ?_); (try (conv => arg 1; simp [s2, s3, s5, b2, hlt2, w1, w2, ltS, nm_ne])); (with_reducible refine at_mk ?_); (with_reducible refine fn_mk ?_); (try (conv => arg 1; simp [s2, s3, s5, b2, hlt2, w1, w2, ltS, nm_ne])); (with_reducible refine at_mk ?_))
        | ((with_reducible refine fr_a ?_); (try (conv => arg 1; simp [s2, s3, s5, b2, hlt2, w1, w2, ltS, nm_ne])); (with_reducible refine at_mk ?_); (try (conv => arg 1; simp [s2, s3, s5, b2, hlt2, w1, w2, ltS, nm_ne])); (with_reducible refine at_mk ?_); refine ⟨?names, ?_⟩; (case names => (simp [appNames, ints, intss] <;> first | kernel_rfl | (refine ⟨?_, ?_⟩ <;> kernel_rfl))); (try (conv => arg 1; simp [s2, s3, s5, b2, hlt2, w1, w2, ltS, nm_ne])); (with_reducible refine ev2_some ?_))
        | ((with_reducible first | refine st_q ?_ | refine fr_q ?_ | refine st_res ?_); (try (conv => arg 1; simp [s2, s3, s5, b2, hlt2, w1, w2, ltS, nm_ne])); (with_reducible refine ev_some ?_))
        | ((with_reducible refine st_if ?_); (try (conv => arg 1; simp [s2, s3, s5, b2, hlt2, w1, w2, ltS, nm_ne])); (with_reducible refine at_mk ?_); with_reducible first | refine br_t ?_ | refine br_f ?_ | (refine br_b (fun hb => ?_) (fun hb => ?_) <;> ((try simp only [Bool.not_eq_eq_eq_not, Bool.not_true, Bool.not_false] at hb); (try simp only [hb]); (try simp at hb))))
        | ((with_reducible refine ct_id ?_); refine st_tree rfl (l01In _ _ _) (by (repeat' (first | exact DRs.nil | refine DRs.cons ?_ ?_ | exact .int _ _ | exact .bool _ | exact .str _ | exact .nilsl | exact .nilp | exact dr_ints (by simp) _ | exact dr_intss (by simp) _ | refine dr_agg ?_ | refine dr_fn ?_ | refine dr_tptr' (by simp) ?_ | assumption))) ?_)
        | ((with_reducible refine tw_id ?_); refine treeW_pure (l01In _ _ _) (by (repeat' (first | exact DRs.nil | refine DRs.cons ?_ ?_ | exact .int _ _ | exact .bool _ | exact .str _ | exact .nilsl | exact .nilp | exact dr_ints (by simp) _ | exact dr_intss (by simp) _ | refine dr_agg ?_ | refine dr_fn ?_ | refine dr_tptr' (by simp) ?_ | assumption))) ?_))
      all_goals refine dr_bool ?_
      all_goals rw [Bool.eq_iff_iff]
      all_goals (try simp_all)
      all_goals grind
end Go.Proofs.Ytlmlkkkgcbpaoaa.AM

/-
  A graph that is right: the reference's.
-/
set_option linter.unusedVariables false
set_option linter.unusedSimpArgs false
set_option maxRecDepth 4000
namespace Go.Proofs.Ytlmlkkkgcbpaoaa.AM
open Go.RowKit

private def MG9 : FuncId → Mode := fun f => .tree

/-- What the laws' sizes say of a graph. -/
structure Graph.Fit (g : Graph) : Prop where
  sizes : g.Sizes.length ≤ 2 ^ 20
  blocks : g.Blocks.length ≤ 2 ^ 20
  code : ∀ b ∈ g.Blocks, b.Code.length ≤ 2 ^ 20
theorem codeLen_le (xs : List Block) (i : Nat) : codeLen xs i ≤ codeLen xs xs.length := gsum_le _ xs i
theorem codeLen_succ {xs : List Block} {i : Nat} (h : i < xs.length) : codeLen xs (i + 1) = codeLen xs i + xs[i].Code.length := gsum_succ _ xs i h
def graphRow (g : Graph) : Row := ⟨0, 5, [[ints true g.Sizes, .int .i64 g.Params, .int .i64 g.Vars, .int .i64 g.Slots, blocks true g.Blocks]]⟩

set_option maxHeartbeats 4000000 in
theorem graphOkSpec (g : Graph) (d : g.Fit) : Pure Try.prog 38 [.agg (g.cells true)] (.bool (graphOk g)) := by
  intro T
  have d1 := d.sizes
  have d2 := d.blocks
  refine enter mixed MG9 Try.func38 rfl (by kernel_rfl) rfl ?_
  repeat' (first
   | with_reducible refine stp ?_
   | with_reducible refine k_blk_o rfl ?_
   | ((try (conv => arg 1; simp [Graph.cells])); with_reducible refine evp ?_)
   | ((with_reducible refine apn ?na ?_); (case na => simp [appNames, ints, intss] <;> first | kernel_rfl | (refine ⟨?_, ?_⟩ <;> kernel_rfl)))
   | fail)
  refine cx_k (Cx.mt.next.box_one (T := T) (i := 0) Cx.mt.off (by simp)) ?_
  intro h1 x1
  have b1 := x1.bxs
  simp only [Bxs] at b1
  repeat' (first
   | with_reducible refine stp ?_
   | with_reducible refine k_blk_o rfl ?_
   | with_reducible refine k_seq_n ?_
   | ((try (conv => arg 1; simp [b1])); with_reducible refine evp ?_)
   | ((with_reducible refine apn ?na ?_); (case na => simp [appNames, ints, intss] <;> first | kernel_rfl | (refine ⟨?_, ?_⟩ <;> kernel_rfl)))
   | fail)
  refine st_loop (fun (i : Nat) σ h => i ≤ g.Sizes.length ∧ σ 1 = .ptr (T, 0, 0) 0 0 0 ∧ σ 3 = .int .i64 i ∧ (g.Sizes.take i).all (fun n => inB n 1 16) = true ∧ Cx h [((T, 0, 0), graphRow g)] []) (fun i => g.Sizes.length - i) 0 ?init ?step
  case init => exact ⟨Nat.zero_le _, by simp, by simp, rfl, Cx.to x1⟩
  case step =>
    rintro i σ h ⟨hi, s1, s3, ha, x⟩
    have b2 := x.bxs
    simp only [Bxs, graphRow] at b2
    by_cases hlt : i < g.Sizes.length
    · have hlt2 : (i : Int) < g.Sizes.length := by omega
      have hx : g.Sizes[i]? = some g.Sizes[i] := by simp
      have hw : IntKind.i64.wrap (i + 1) = i + 1 := wrap_id (by omega) (by omega)
      cases hv : inB g.Sizes[i] 1 16 with
      | false =>
        repeat' (first
         | with_reducible refine stp ?_
         | with_reducible refine k_blk_o rfl ?_
         | with_reducible refine k_seq_n ?_
         | ((try (conv => arg 1; simp [s1, s3, b2, hlt2, hx, ints, hv, ltS, nm_ne])); with_reducible refine evp ?_)
         | ((with_reducible refine apn ?na ?_); (case na => simp [appNames, ints, intss] <;> first | kernel_rfl | (refine ⟨?_, ?_⟩ <;> kernel_rfl)))
         | ((with_reducible refine tcl ?_); first | ((apply tg (l01In _ _ _)); (case e => rfl); (case d => (refine dq ?_); (repeat' (first | ((refine Da.mk ?_); first | assumption) | constructor)))))
         | fail)
        have e : graphOk g = false := by unfold graphOk headOk; rw [all_false hlt hv]; simp
        rw [e]
        exact .bool _
      | true =>
        repeat' (first
         | with_reducible refine stp ?_
         | with_reducible refine k_blk_o rfl ?_
         | with_reducible refine k_seq_n ?_
         | ((try (conv => arg 1; simp [s1, s3, b2, hlt2, hx, ints, hv, hw, ltS, nm_ne])); with_reducible refine evp ?_)
         | ((with_reducible refine apn ?na ?_); (case na => simp [appNames, ints, intss] <;> first | kernel_rfl | (refine ⟨?_, ?_⟩ <;> kernel_rfl)))
         | ((with_reducible refine tcl ?_); first | ((apply tg (l01In _ _ _)); (case e => rfl); (case d => (refine dq ?_); (repeat' (first | ((refine Da.mk ?_); first | assumption) | constructor)))))
         | fail)
        refine k_lp_n (i + 1) (by omega) ⟨by omega, by simp [s1], by simp, by rw [all_take hlt, ha, hv]; rfl, Cx.to x⟩
    · have hlt2 : ¬ (i : Int) < g.Sizes.length := by omega
      rw [List.take_of_length_le (by omega)] at ha
      repeat' (first
       | with_reducible refine stp ?_
       | with_reducible refine k_blk_o rfl ?_
       | with_reducible refine k_seq_n ?_
       | ((try (conv => arg 1; simp [s1, s3, b2, hlt2, ltS, nm_ne])); with_reducible refine evp ?_)
       | ((with_reducible refine apn ?na ?_); (case na => simp [appNames, ints, intss] <;> first | kernel_rfl | (refine ⟨?_, ?_⟩ <;> kernel_rfl)))
       | fail)
      have x' := x.next
      generalize h.next = hq at *
      have b3 := x'.bxs
      simp only [Bxs, graphRow] at b3
      repeat' (first
        | (with_reducible first | refine st_seq ?_ | refine st_reg ?_ | refine st_block ?_ | refine st_nil ?_ | refine st_skip ?_ | refine st_ret ?_ | refine st_exit ?_ | refine fr_nil ?_ | refine k_seq_n ?_ | refine k_seq_r ?_ | refine k_seq_e ?_ | refine k_blk_n ?_ | refine k_blk_r ?_ | refine k_blk_s ?_ | refine k_blk_o rfl ?_ | refine k_fn_r ?_ | refine k_fn_n ?_ | refine k_lp_r ?_ | refine k_lp_e ?_)
        | ((with_reducible first | refine st_move ?_ | refine st_asg ?_ | refine st_c ?_ | refine fr_c ?_); (try (conv => arg 1; simp [s1, b3])); (with_reducible refine at_mk ?_))
        | ((with_reducible first | refine st_g ?_ | refine fr_g ?_); (try (conv => arg 1; simp [s1, b3])); (with_reducible refine at_mk ?_); with_reducible first | refine gd_tt ?_ | refine gd_ff ?_ | refine gd_tf ?_ | refine gd_ft ?_ | refine gd_no ?_)
        | ((with_reducible first | refine st_gm ?_ | refine fr_gm ?_); (try (conv => arg 1; simp [s1, b3])); (with_reducible refine at_mk ?_); (with_reducible first | refine gm_bool ?_ | refine gm_gv ?_); refine ⟨_, (by intro hc; first | ((try simp only [Bool.and_eq_true] at hc); (try (conv => lhs; simp [hc, s1, b3])); first | done | exact rfl) | ((try simp [gq] at hc); (try (conv => lhs; simp [gq, hc, s1, b3])); first | done | exact rfl)), ?_⟩)
        | ((with_reducible refine st_gmc ?_); (try (conv => arg 1; simp [s1, b3])); (with_reducible refine at_mk ?_); (with_reducible first | refine gm_bool ?_ | refine gm_gv ?_); refine ⟨_, _, _, (by intro hc; first | ((try simp only [Bool.and_eq_true] at hc); (try (conv => lhs; simp [hc, s1, b3])); first | done | exact rfl) | ((try simp [gq] at hc); (try (conv => lhs; simp [gq, hc, s1, b3])); first | done | exact rfl)), rfl, l01In _ _ _, (by intro hc; (try simp at hc); (repeat' (first | exact DRs.nil | refine DRs.cons ?_ ?_ | exact .int _ _ | exact .bool _ | exact .str _ | exact .nilsl | exact .nilp | exact dr_ints (by simp) _ | exact dr_intss (by simp) _ | refine dr_agg ?_ | refine dr_fn ?_ | refine dr_tptr' (by simp) ?_ | assumption))), ?_⟩)
        | ((with_reducible refine fr_gmc ?_); (try (conv => arg 1; simp [s1, b3])); (with_reducible refine at_mk ?_); (with_reducible first | refine gm_bool ?_ | refine gm_gv ?_); refine ⟨_, _, _, (by intro hc; first | ((try simp only [Bool.and_eq_true] at hc); (try (conv => lhs; simp [hc, s1, b3])); first | done | exact rfl) | ((try simp [gq] at hc); (try (conv => lhs; simp [gq, hc, s1, b3])); first | done | exact rfl)), l01In _ _ _, (by intro hc; (try simp at hc); (repeat' (first | exact DRs.nil | refine DRs.cons ?_ ?_ | exact .int _ _ | exact .bool _ | exact .str _ | exact .nilsl | exact .nilp | exact dr_ints (by simp) _ | exact dr_intss (by simp) _ | refine dr_agg ?_ | refine dr_fn ?_ | refine dr_tptr' (by simp) ?_ | assumption))), ?_⟩)
        | ((with_reducible refine st_gmv ?_); (try (conv => arg 1; simp [s1, b3])); (with_reducible refine at_mk ?_); (with_reducible first | refine gm_bool ?_ | refine gm_gv ?_); refine ⟨_, _, _, _, _, (by intro hc; first | ((try simp only [Bool.and_eq_true] at hc); (try (conv => lhs; simp [hc, s1, b3])); first | done | exact rfl) | ((try simp [gq] at hc); (try (conv => lhs; simp [gq, hc, s1, b3])); first | done | exact rfl)), (by intro hc; first | ((try simp only [Bool.and_eq_true] at hc); (try (conv => lhs; simp [hc, s1, b3])); first | done | exact rfl) | ((try simp [gq] at hc); (try (conv => lhs; simp [gq, hc, s1, b3])); first | done | exact rfl)), rfl, l01In _ _ _, (by intro hc; (try simp at hc); (repeat' (first | exact DRs.nil | refine DRs.cons ?_ ?_ | exact .int _ _ | exact .bool _ | exact .str _ | exact .nilsl | exact .nilp | exact dr_ints (by simp) _ | exact dr_intss (by simp) _ | refine dr_agg ?_ | refine dr_fn ?_ | refine dr_tptr' (by simp) ?_ | assumption))), ?_⟩)
        | ((with_reducible refine st_m rfl ?_); (try (conv => arg 1; simp [s1, b3])); (with_reducible refine ev2_some ?_))
        | ((with_reducible refine fr_n rfl ?_); (try (conv => arg 1; simp [s1, b3])); (with_reducible refine evn_some ?_))
        | ((with_reducible first | refine st_cv ?_ | refine fr_cv ?_); (try (conv => arg 1; simp [s1, b3])); (with_reducible refine at_mk ?_); (with_reducible refine fn_mk ?_); (try (conv => arg 1; simp [s1, b3])); (with_reducible refine at_mk ?_))
        | ((with_reducible refine fr_a ?_); (try (conv => arg 1; simp [s1, b3])); (with_reducible refine at_mk ?_); (try (conv => arg 1; simp [s1, b3])); (with_reducible refine at_mk ?_); refine ⟨?names, ?_⟩; (case names => (simp [appNames, ints, intss] <;> first | kernel_rfl | (refine ⟨?_, ?_⟩ <;> kernel_rfl))); (try (conv => arg 1; simp [s1, b3])); (with_reducible refine ev2_some ?_))
        | ((with_reducible first | refine st_q ?_ | refine fr_q ?_ | refine st_res ?_); (try (conv => arg 1; simp [s1, b3])); (with_reducible refine ev_some ?_))
        | ((with_reducible refine st_if ?_); (try (conv => arg 1; simp [s1, b3])); (with_reducible refine at_mk ?_); with_reducible first | refine br_t ?_ | refine br_f ?_)
        | ((with_reducible refine ct_id ?_); refine st_tree rfl (l01In _ _ _) (by (repeat' (first | exact DRs.nil | refine DRs.cons ?_ ?_ | exact .int _ _ | exact .bool _ | exact .str _ | exact .nilsl | exact .nilp | exact dr_ints (by simp) _ | exact dr_intss (by simp) _ | refine dr_agg ?_ | refine dr_fn ?_ | refine dr_tptr' (by simp) ?_ | assumption))) ?_)
        | ((with_reducible refine tw_id ?_); refine treeW_pure (l01In _ _ _) (by (repeat' (first | exact DRs.nil | refine DRs.cons ?_ ?_ | exact .int _ _ | exact .bool _ | exact .str _ | exact .nilsl | exact .nilp | exact dr_ints (by simp) _ | exact dr_intss (by simp) _ | refine dr_agg ?_ | refine dr_fn ?_ | refine dr_tptr' (by simp) ?_ | assumption))) ?_))
      (try with_reducible refine st_if ?_)
      (try (conv => arg 1; simp [d1]))
      (try with_reducible refine at_mk ?_)
      refine ⟨fun hb => ?_, fun hb => ?_⟩
      · have e : graphOk g = false := by
          have : headOk g = false := by
            cases hk : headOk g with
            | false => rfl
            | true =>
              have H := headOk_head hk
              have e1 := H.sizes
              have e2 := H.params
              have e3 := H.vars
              have e4 := H.slots
              have e5 := H.blocks
              exfalso
              simp only [Bool.or_eq_true, Bool.not_eq_true', inB, decide_eq_true_eq, Bool.and_eq_false_iff, decide_eq_false_iff_not] at hb
              omega
          simp [graphOk, this]
        repeat' (first
         | with_reducible refine stp ?_
         | with_reducible refine k_blk_o rfl ?_
         | with_reducible refine k_seq_n ?_
         | ((try (conv => arg 1; simp [d1])); with_reducible refine evp ?_)
         | ((with_reducible refine apn ?na ?_); (case na => simp [appNames, ints, intss] <;> first | kernel_rfl | (refine ⟨?_, ?_⟩ <;> kernel_rfl)))
         | fail)
        rw [e]
        exact .bool _
      have hk : headOk g = true := by
        simp only [headOk, inB, Bool.and_eq_true, decide_eq_true_eq]
        simp only [Bool.not_eq_true, Bool.or_eq_false_iff, Bool.not_eq_false', inB, Bool.and_eq_true, decide_eq_true_eq, decide_eq_false_iff_not] at hb
        repeat' apply And.intro
        all_goals first | exact ha | omega
      have H := headOk_head hk
      have e4 := H.slots
      have e2 := H.params
      have e5 := H.blocks
      repeat' (first
       | with_reducible refine stp ?_
       | with_reducible refine k_blk_o rfl ?_
       | with_reducible refine k_seq_n ?_
       | ((try (conv => arg 1; simp [d1])); with_reducible refine evp ?_)
       | ((with_reducible refine apn ?na ?_); (case na => simp [appNames, ints, intss] <;> first | kernel_rfl | (refine ⟨?_, ?_⟩ <;> kernel_rfl)))
       | fail)
      refine st_loop (fun (i : Nat) σ h => i ≤ g.Blocks.length ∧ σ 1 = .ptr (T, 0, 0) 0 0 0 ∧ σ 4 = .int .i64 (codeLen g.Blocks i) ∧ σ 5 = .int .i64 i ∧ codeLen g.Blocks i ≤ 1000 ∧ (g.Blocks.take i).all (blockOk g) = true ∧ Cx h [((T, 0, 0), graphRow g)] []) (fun i => g.Blocks.length - i) 0 ?init ?step
      case init => exact ⟨Nat.zero_le _, by simp [s1], by simp [codeLen, gsum_zero], by simp, by simp [codeLen, gsum_zero], rfl, Cx.to x'⟩
      case step =>
        rintro i σ h ⟨hi, s1, s4, s5, hn, ha2, x⟩
        have b2 := x.bxs
        simp only [Bxs, graphRow] at b2
        by_cases hlt : i < g.Blocks.length
        · have hlt2 : (i : Int) < g.Blocks.length := by omega
          have hx : g.Blocks[i]? = some g.Blocks[i] := by simp
          have hlen := block_len true g.Blocks[i]
          have hc := d.code _ (List.getElem_mem hlt)
          have hw : IntKind.i64.wrap (i + 1) = i + 1 := wrap_id (by omega) (by omega)
          have hs := codeLen_succ hlt
          have hw2 : IntKind.i64.wrap ((codeLen g.Blocks i : Int) + g.Blocks[i].Code.length) = codeLen g.Blocks (i + 1) := by rw [wrap_id (by omega) (by omega)]; omega
          have B := l04BlockOk g g.Blocks[i] (by omega) d1 d2 hc
          have hT : ¬ T = h.tick + 1 + 1 := by omega
          repeat' (first
           | with_reducible refine stp ?_
           | with_reducible refine k_blk_o rfl ?_
           | with_reducible refine k_seq_n ?_
           | ((try (conv => arg 1; simp [s1, s4, s5, b2, hlt2, hx, hlen, blocks, Block.cells, hw2, ltS, nm_ne])); with_reducible refine evp ?_)
           | ((with_reducible refine apn ?na ?_); (case na => simp [appNames, ints, intss] <;> first | kernel_rfl | (refine ⟨?_, ?_⟩ <;> kernel_rfl)))
           | fail)
          by_cases h1000 : codeLen g.Blocks (i + 1) > 1000
          · have h2 : (1000 : Int) < codeLen g.Blocks (i + 1) := by omega
            have e : graphOk g = false := by
              have := codeLen_le g.Blocks (i + 1)
              simp only [graphOk]
              rw [show decide (codeLen g.Blocks g.Blocks.length ≤ 1000) = false by simp; omega]
              simp
            repeat (with_reducible first | refine stp ?_ | refine k_seq_n ?_)
            refine st_draw 12 (fun _ => false) (by kernel_rfl) ?_
            simp only [List.take_succ_cons, List.take_zero, List.drop_succ_cons, List.drop_zero, List.take_nil, List.drop_nil]
            repeat' (first
             | with_reducible refine stp ?_
             | with_reducible refine k_blk_o rfl ?_
             | with_reducible refine k_seq_n ?_
             | ((try (conv => arg 1; simp [s1, s5, b2, h2, hT])); with_reducible refine evp ?_)
             | ((with_reducible refine apn ?na ?_); (case na => simp [appNames, ints, intss] <;> first | kernel_rfl | (refine ⟨?_, ?_⟩ <;> kernel_rfl)))
             | fail)
            rw [e]
            exact .bool _
          · have h2 : ¬ (1000 : Int) < codeLen g.Blocks (i + 1) := by omega
            cases hv : blockOk g g.Blocks[i] with
            | false =>
              rw [hv] at B
              repeat (with_reducible first | refine stp ?_ | refine k_seq_n ?_)
              refine st_draw 12 (fun _ => false) (by kernel_rfl) ?_
              simp only [List.take_succ_cons, List.take_zero, List.drop_succ_cons, List.drop_zero, List.take_nil, List.drop_nil]
              repeat' (first
               | with_reducible refine stp ?_
               | with_reducible refine k_blk_o rfl ?_
               | with_reducible refine k_seq_n ?_
               | ((try (conv => arg 1; simp [s1, s5, b2, h2, hT, hx, hlen, hw, blocks, Block.cells, Graph.cells])); with_reducible refine evp ?_)
               | ((with_reducible refine apn ?na ?_); (case na => simp [appNames, ints, intss] <;> first | kernel_rfl | (refine ⟨?_, ?_⟩ <;> kernel_rfl)))
               | ((with_reducible refine tcl ?_); first | ((apply tg (B)); (case e => rfl); (case d => (refine dq ?_); (repeat' (first | ((refine Da.mk ?_); first | exact dr_blocks (by simp) _ | exact dr_instrs (by simp) _ | assumption) | constructor)))))
               | fail)
              have e : graphOk g = false := by simp only [graphOk]; rw [all_false hlt hv, Bool.and_false]
              rw [e]
              exact .bool _
            | true =>
              rw [hv] at B
              repeat (with_reducible first | refine stp ?_ | refine k_seq_n ?_)
              refine st_draw 12 (fun _ => false) (by kernel_rfl) ?_
              simp only [List.take_succ_cons, List.take_zero, List.drop_succ_cons, List.drop_zero, List.take_nil, List.drop_nil]
              repeat' (first
               | with_reducible refine stp ?_
               | with_reducible refine k_blk_o rfl ?_
               | with_reducible refine k_seq_n ?_
               | ((try (conv => arg 1; simp [s1, s5, b2, h2, hT, hx, hlen, hw, blocks, Block.cells, Graph.cells])); with_reducible refine evp ?_)
               | ((with_reducible refine apn ?na ?_); (case na => simp [appNames, ints, intss] <;> first | kernel_rfl | (refine ⟨?_, ?_⟩ <;> kernel_rfl)))
               | ((with_reducible refine tcl ?_); first | ((apply tg (B)); (case e => rfl); (case d => (refine dq ?_); (repeat' (first | ((refine Da.mk ?_); first | exact dr_blocks (by simp) _ | exact dr_instrs (by simp) _ | assumption) | constructor)))))
               | fail)
              refine k_lp_n (i + 1) (by omega) ⟨by omega, by simp [s1], by simp, by simp, by omega, by rw [all_take hlt, ha2, hv]; rfl, Cx.to x⟩
        · have hlt2 : ¬ (i : Int) < g.Blocks.length := by omega
          rw [List.take_of_length_le (by omega)] at ha2
          have hi2 : i = g.Blocks.length := by omega
          rw [hi2] at hn
          repeat' (first
           | with_reducible refine stp ?_
           | with_reducible refine k_blk_o rfl ?_
           | with_reducible refine k_seq_n ?_
           | ((try (conv => arg 1; simp [s1, s5, b2, hlt2, ltS, nm_ne])); with_reducible refine evp ?_)
           | ((with_reducible refine apn ?na ?_); (case na => simp [appNames, ints, intss] <;> first | kernel_rfl | (refine ⟨?_, ?_⟩ <;> kernel_rfl)))
           | fail)
          have e : graphOk g = true := by simp [graphOk, hk, hn, ha2]
          rw [e]
          exact .bool _
end Go.Proofs.Ytlmlkkkgcbpaoaa.AM

/-
  Graphs: copies, equal.
-/
set_option linter.unusedVariables false
set_option linter.unusedSimpArgs false
set_option maxRecDepth 4000
namespace Go.Proofs.Ytlmlkkkgcbpaoaa.AM
open Go.RowKit

private def MG4 : FuncId → Mode := fun f => if f = 17 ∨ f = 39 then .fresh else .tree

theorem Graph.Small.code {g : Graph} (h : g.Small) : ∀ x ∈ g.Blocks, x.Code.length ≤ 2 ^ 20 := fun x hx => by
  have := wtBS_mem hx
  have := h.blocks
  omega
theorem Graph.Small.len {g : Graph} (h : g.Small) : g.Blocks.length ≤ 2 ^ 20 := by
  have := wtBS_len (xs := g.Blocks)
  have := h.blocks
  omega

theorem Cx.graph_join {h : Hp} {bs : Bx} {os : Ox} {w1 w2 : AV} {n1 n2 : List Nm} {g : Graph} (x : Cx h bs ((w1, (fun b => ints b g.Sizes), n1) :: (w2, (fun b => blocks b g.Blocks), n2) :: os)) :
    Cx h bs ((.agg [w1, .int .i64 g.Params, .int .i64 g.Vars, .int .i64 g.Slots, w2], (fun b => .agg (g.cells b)), n1 ++ n2) :: os) := by
  refine ⟨x.box, fun y hy b => ?_, ?_, fun m hm => x.lt m ?_⟩
  · simp only [List.mem_cons] at hy
    rcases hy with rfl | hy
    · exact .agg (Own.append (own_of (x.o0 b) rfl) (.int _ _ (.int _ _ (.int _ _ (own_of (x.o1 b) rfl)))))
    · exact x.own y (by simp [hy]) b
  · have := x.nd
    simpa [nms, List.append_assoc] using this
  · simpa [nms, List.append_assoc] using hm
theorem ownV_graph {rows : Nm → Option Row} {b : Bool} {v : AV} {g : Graph} {ns : List Nm} (h : OwnV rows b v (.agg (g.cells b)) ns) : ∃ w1 w2 n1 n2, v = .agg [w1, .int .i64 g.Params, .int .i64 g.Vars, .int .i64 g.Slots, w2] ∧ ns = n1 ++ n2 ∧ Own rows b [w1] [ints b g.Sizes] n1 ∧ Own rows b [w2] [blocks b g.Blocks] n2 := by
  generalize ht : AV.agg (g.cells b) = t at h
  cases h with
  | one h => subst ht; unfold Graph.cells at h; cases h
  | tup2 => cases ht
  | @agg l _ _ h =>
    cases ht
    unfold Graph.cells at h
    obtain ⟨w1, l1, n1, m1, rfl, rfl, o1, h⟩ := own_cons1 h
    cases h with
    | int _ _ h => cases h with
      | int _ _ h => cases h with
        | int _ _ h =>
          obtain ⟨w2, l2, n2, m2, rfl, rfl, o2, h⟩ := own_cons1 h
          cases h with
          | nil => exact ⟨w1, w2, n1, n2, rfl, by simp, o1, o2⟩

theorem toGraph (g : Graph) (hs : g.Small) : FreshW Try.prog 13 [.agg (g.cells true)] (fun b => .agg (g.cells b)) := by
  intro T
  have hnil : True := trivial
  refine enter mixed MG4 Try.func13 rfl (by kernel_rfl) rfl ?_
  repeat' (first
   | with_reducible refine stp ?_
   | with_reducible refine k_blk_o rfl ?_
   | ((try (conv => arg 1; simp [Graph.cells])); with_reducible refine evp ?_)
   | ((with_reducible refine apn ?na ?_); (case na => simp [appNames, ints, intss] <;> first | kernel_rfl | (refine ⟨?_, ?_⟩ <;> kernel_rfl)))
   | fail)
  refine cx_k ((Cx.mt.next.box_one (T := T) (i := 0) Cx.mt.off (by simp)).box_add (n := (T, 1, 0)) (by simp [nms]) (by simp)) ?_
  intro h1 x1
  have hT := x1.l0
  have hT2 : ¬ h1.tick = T := fun e => hT e.symm
  repeat' (first
   | with_reducible refine stp ?_
   | with_reducible refine k_blk_o rfl ?_
   | ((try (conv => arg 1; simp [hnil])); with_reducible refine evp ?_)
   | ((with_reducible refine apn ?na ?_); (case na => simp [appNames, ints, intss] <;> first | kernel_rfl | (refine ⟨?_, ?_⟩ <;> kernel_rfl)))
   | fail)
  refine cx_k (x1.next.box_one (T := h1.tick) (i := 0) x1.off (by simp)) ?_
  intro h2 x2
  have b2 := x2.bxs
  simp only [Bxs] at b2
  repeat' (first
   | with_reducible refine stp ?_
   | with_reducible refine k_blk_o rfl ?_
   | with_reducible refine k_seq_n ?_
   | ((try (conv => arg 1; simp [hT, hT2, b2, nm_ne, ltS])); with_reducible refine evp ?_)
   | ((with_reducible refine apn ?na ?_); (case na => simp [appNames, ints, intss] <;> first | kernel_rfl | (refine ⟨?_, ?_⟩ <;> kernel_rfl)))
   | fail)
  refine st_fresh rfl (toIntS g.Sizes hs.sizes) (.cons (dr_ints (fun h => h) _) .nil) ?_
  intro v h3 n o d f p t
  have x3 := x2.next.fresh o d f p t
  have q := own_one (ownV_ints (o true))
  have b3 := x3.bxs
  simp only [Bxs] at b3
  have x3' := x3.box_set (r' := ⟨0, 5, [[v, .int .i64 0, .int .i64 0, .int .i64 0, .nilsl]]⟩)
  repeat' (first
   | with_reducible refine stp ?_
   | with_reducible refine k_blk_o rfl ?_
   | ((try (conv => arg 1; simp [hT, hT2, b3, q.1, q.2.1, q.2.2, nm_ne, ltS])); with_reducible refine evp ?_)
   | ((with_reducible refine apn ?na ?_); (case na => simp [appNames, ints, intss] <;> first | kernel_rfl | (refine ⟨?_, ?_⟩ <;> kernel_rfl)))
   | fail)
  refine cx_k x3' ?_
  intro h4 x4
  have b4 := x4.bxs
  simp only [Bxs] at b4
  repeat' (first
   | with_reducible refine stp ?_
   | with_reducible refine k_blk_o rfl ?_
   | ((try (conv => arg 1; simp [hT, hT2, b4, q.1, q.2.1, q.2.2, nm_ne, ltS])); with_reducible refine evp ?_)
   | ((with_reducible refine apn ?na ?_); (case na => simp [appNames, ints, intss] <;> first | kernel_rfl | (refine ⟨?_, ?_⟩ <;> kernel_rfl)))
   | fail)
  refine cx_k (x4.next.box_set (r' := ⟨0, 5, [[v, .int .i64 g.Params, .int .i64 0, .int .i64 0, .nilsl]]⟩)) ?_
  intro h5 x5
  have b5 := x5.bxs
  simp only [Bxs] at b5
  repeat' (first
   | with_reducible refine stp ?_
   | with_reducible refine k_blk_o rfl ?_
   | ((try (conv => arg 1; simp [hT, hT2, b5, q.1, q.2.1, q.2.2, nm_ne, ltS])); with_reducible refine evp ?_)
   | ((with_reducible refine apn ?na ?_); (case na => simp [appNames, ints, intss] <;> first | kernel_rfl | (refine ⟨?_, ?_⟩ <;> kernel_rfl)))
   | fail)
  refine cx_k (x5.next.box_set (r' := ⟨0, 5, [[v, .int .i64 g.Params, .int .i64 g.Vars, .int .i64 0, .nilsl]]⟩)) ?_
  intro h6 x6
  have b6 := x6.bxs
  simp only [Bxs] at b6
  repeat' (first
   | with_reducible refine stp ?_
   | with_reducible refine k_blk_o rfl ?_
   | ((try (conv => arg 1; simp [hT, hT2, b6, q.1, q.2.1, q.2.2, nm_ne, ltS])); with_reducible refine evp ?_)
   | ((with_reducible refine apn ?na ?_); (case na => simp [appNames, ints, intss] <;> first | kernel_rfl | (refine ⟨?_, ?_⟩ <;> kernel_rfl)))
   | fail)
  refine cx_k (x6.next.box_set (r' := ⟨0, 5, [[v, .int .i64 g.Params, .int .i64 g.Vars, .int .i64 g.Slots, .nilsl]]⟩)) ?_
  intro h7 x7
  have b7 := x7.bxs
  simp only [Bxs] at b7
  repeat' (first
   | with_reducible refine stp ?_
   | with_reducible refine k_blk_o rfl ?_
   | with_reducible refine k_seq_n ?_
   | ((try (conv => arg 1; simp [hT, hT2, b7, q.1, q.2.1, q.2.2, nm_ne, ltS])); with_reducible refine evp ?_)
   | ((with_reducible refine apn ?na ?_); (case na => simp [appNames, ints, intss] <;> first | kernel_rfl | (refine ⟨?_, ?_⟩ <;> kernel_rfl)))
   | fail)
  refine st_freshw rfl (toBlockS g.Blocks hs.len hs.code) (.cons (dr_blocks (fun h => h) _) .nil) ?_
  intro v2 h8 n2 o2 d2 f2 p2 t2
  have x8 := x7.next.fresh o2 d2 f2 p2 t2
  have q2 := own_one' (own_of (o2 true) rfl)
  have b8 := x8.bxs
  simp only [Bxs] at b8
  repeat' (first
   | with_reducible refine stp ?_
   | with_reducible refine k_blk_o rfl ?_
   | with_reducible refine k_seq_n ?_
   | ((try (conv => arg 1; simp [hT, hT2, b8, q.1, q.2.1, q.2.2, q2.1, q2.2.1, q2.2.2, nm_ne, ltS])); with_reducible refine evp ?_)
   | ((with_reducible refine apn ?na ?_); (case na => simp [appNames, ints, intss] <;> first | kernel_rfl | (refine ⟨?_, ?_⟩ <;> kernel_rfl)))
   | fail)
  refine fin_own (os := []) (ns := n ++ n2) (bs := ?bs) (Cx.graph_join (g := g) (w1 := v) (w2 := v2) (n1 := n) (n2 := n2) (Cx.rot1 ?y))
  case y => exact Cx.to x8

theorem eqGraph (g : Graph) (hs : g.Small) : Pure Try.prog 15 [.agg (g.cells true), .agg (g.cells true)] (.bool true) := by
  intro T
  refine enter mixed MG4 Try.func15 rfl (by kernel_rfl) rfl ?_
  repeat' (first
   | with_reducible refine stp ?_
   | with_reducible refine k_blk_o rfl ?_
   | with_reducible refine k_seq_n ?_
   | ((try (conv => arg 1; simp [Graph.cells])); with_reducible refine evp ?_)
   | ((with_reducible refine apn ?na ?_); (case na => simp [appNames, ints, intss] <;> first | kernel_rfl | (refine ⟨?_, ?_⟩ <;> kernel_rfl)))
   | ((with_reducible refine tcl ?_); first | ((apply tg (eqIntS g.Sizes (by have := hs.sizes; omega))); (case e => rfl); (case d => (refine dq ?_); (repeat' (first | ((refine Da.mk ?_); first | exact dr_blocks (by simp) _ | assumption) | constructor)))) | ((apply tg (eqBlockS g.Blocks (by have := hs.len; omega) (fun x hx => by have := hs.code x hx; omega))); (case e => rfl); (case d => (refine dq ?_); (repeat' (first | ((refine Da.mk ?_); first | exact dr_blocks (by simp) _ | assumption) | constructor)))))
   | fail)
  exact .bool true
end Go.Proofs.Ytlmlkkkgcbpaoaa.AM

/-
  A block, a graph that is right: the program's.
-/
set_option linter.unusedVariables false
set_option linter.unusedSimpArgs false
set_option maxRecDepth 4000
namespace Go.Proofs.Ytlmlkkkgcbpaoaa.AM
open Go.RowKit

private def MG12 : FuncId → Mode := fun f => .tree

theorem Graph.Small.fit {g : Graph} (h : g.Small) : g.Fit := ⟨h.sizes, h.len, h.code⟩
theorem gsum_mono {α : Type} {f e : α → Nat} (h : ∀ a, f a ≤ e a) (l : List α) (i : Nat) : gsum f l i ≤ gsum e l i := by
  unfold gsum
  generalize List.take i l = k
  induction k with
  | nil => simp
  | cons a k ih =>
    have := h a
    simp
    omega
theorem codeLen_small {g : Graph} (h : g.Small) (i : Nat) : codeLen g.Blocks i ≤ 2 ^ 20 := by
  have h1 := codeLen_le g.Blocks i
  have h2 : codeLen g.Blocks g.Blocks.length ≤ gsum wtB g.Blocks g.Blocks.length := gsum_mono (fun b => wtIS_len) _ _
  have h3 := h.blocks
  unfold wtBS at h3
  omega

theorem notInstr (g : Graph) (x : Instr) (hs : 0 ≤ g.Slots ∧ g.Slots ≤ 1000) (hr : g.Sizes.length ≤ 2 ^ 20) : Pure Try.prog 114 [.agg x.cells, .tptr true (g.cells true)] (.bool (!instrOk g.Slots g.Sizes.length x)) := by
  intro T
  have I := isInstr g x hs hr
  refine enter mixed MG12 Try.func114 rfl (by kernel_rfl) rfl ?_
  repeat' (first
   | with_reducible refine stp ?_
   | with_reducible refine k_blk_o rfl ?_
   | with_reducible refine k_seq_n ?_
   | ((try (conv => arg 1; simp [Graph.cells, Instr.cells])); with_reducible refine evp ?_)
   | ((with_reducible refine apn ?na ?_); (case na => simp [appNames, ints, intss] <;> first | kernel_rfl | (refine ⟨?_, ?_⟩ <;> kernel_rfl)))
   | ((with_reducible refine tcl ?_); first | ((apply tg (I)); (case e => rfl); (case d => (refine dq ?_); (repeat' (first | ((refine Da.mk ?_); first | exact dr_blocks (by simp) _ | assumption) | constructor)))))
   | fail)
  exact .bool _

set_option maxHeartbeats 8000000 in
theorem isBlock (g : Graph) (b : Block) (hs : 0 ≤ g.Slots ∧ g.Slots ≤ 1000) (hr : g.Sizes.length ≤ 2 ^ 20) (hb : g.Blocks.length ≤ 2 ^ 20) (hc : b.Code.length ≤ 2 ^ 20) : Pure Try.prog 73 [.agg (g.cells true), .agg (b.cells true)] (.bool (blockOk g b)) := by
  intro T
  have w1 : IntKind.i64.wrap (g.Slots - 1) = g.Slots - 1 := wrap_id (by omega) (by omega)
  have w2 : IntKind.i64.wrap ((g.Blocks.length : Int) - 1) = (g.Blocks.length : Int) - 1 := wrap_id (by omega) (by omega)
  have hs0 : ¬ g.Slots < 0 := by omega
  have H := containsFuncW b.Code 114 [.tptr true (g.cells true)] (fun x => !instrOk g.Slots g.Sizes.length x) (fun x _ => notInstr g x hs hr) (fun _ => .cons (dr_tptr' (fun h => h) (drs_graph (fun h => h) g)) .nil) (by omega)
  have e1 : (b.Code.any fun x => !instrOk g.Slots g.Sizes.length x) = !(b.Code.all (instrOk g.Slots g.Sizes.length)) := by rw [List.all_eq_not_any_not, Bool.not_not]
  rw [e1] at H
  refine enter mixed MG12 Try.func73 rfl (by kernel_rfl) rfl ?_
  cases ha : b.Code.all (instrOk g.Slots g.Sizes.length) with
  | false =>
    rw [ha] at H
    repeat' (first
     | with_reducible refine stp ?_
     | with_reducible refine k_blk_o rfl ?_
     | with_reducible refine k_seq_n ?_
     | ((try (conv => arg 1; simp [Graph.cells, Block.cells])); with_reducible refine evp ?_)
     | ((with_reducible refine apn ?na ?_); (case na => simp [appNames, ints, intss] <;> first | kernel_rfl | (refine ⟨?_, ?_⟩ <;> kernel_rfl)))
     | ((with_reducible refine tcl ?_); first | ((apply tg (H)); (case e => rfl); (case d => (refine dq ?_); (repeat' (first | ((refine Da.mk ?_); first | exact dr_instrs (by simp) _ | exact dr_ptr0 (r := ⟨0, 5, [g.cells true]⟩) (by simp [Graph.cells]) rfl rfl (drs_graph (by simp) _) | assumption) | constructor)))))
     | fail)
    have e : blockOk g b = false := by unfold blockOk; rw [ha, Bool.false_and]
    rw [e]
    exact .bool _
  | true =>
    rw [ha] at H
    repeat' (first
     | with_reducible refine stp ?_
     | with_reducible refine k_blk_o rfl ?_
     | with_reducible refine k_seq_n ?_
     | ((try (conv => arg 1; simp [Graph.cells, Block.cells])); with_reducible refine evp ?_)
     | ((with_reducible refine apn ?na ?_); (case na => simp [appNames, ints, intss] <;> first | kernel_rfl | (refine ⟨?_, ?_⟩ <;> kernel_rfl)))
     | ((with_reducible refine tcl ?_); first | ((apply tg (H)); (case e => rfl); (case d => (refine dq ?_); (repeat' (first | ((refine Da.mk ?_); first | exact dr_instrs (by simp) _ | exact dr_ptr0 (r := ⟨0, 5, [g.cells true]⟩) (by simp [Graph.cells]) rfl rfl (drs_graph (by simp) _) | assumption) | constructor)))))
     | fail)
    have e : blockOk g b = (if b.Jump = 0 then inB b.To 0 ((g.Blocks.length : Int) - 1) && decide (b.A = 0) && decide (b.Else = 0)
        else if b.Jump = 1 then inB b.To 0 ((g.Blocks.length : Int) - 1) && inB b.Else 0 ((g.Blocks.length : Int) - 1) && inB b.A 0 (g.Slots - 1)
        else if b.Jump = 2 then inB b.A 0 (g.Slots - 1) && decide (b.To = 0) && decide (b.Else = 0)
        else false) := by unfold blockOk; rw [ha, Bool.true_and]
    rw [e]
    repeat (with_reducible first | refine stp ?_ | refine k_seq_n ?_)
    refine st_draw 27 (fun _ => false) (by kernel_rfl) ?_
    simp only [List.take_succ_cons, List.take_zero, List.drop_succ_cons, List.drop_zero, List.take_nil, List.drop_nil]
    repeat' (first
      | (with_reducible first | refine st_seq ?_ | refine st_reg ?_ | refine st_block ?_ | refine st_nil ?_ | refine st_skip ?_ | refine st_ret ?_ | refine st_exit ?_ | refine fr_nil ?_ | refine k_seq_n ?_ | refine k_seq_r ?_ | refine k_seq_e ?_ | refine k_blk_n ?_ | refine k_blk_r ?_ | refine k_blk_s ?_ | refine k_blk_o rfl ?_ | refine k_fn_r ?_ | refine k_fn_n ?_ | refine k_lp_r ?_ | refine k_lp_e ?_)
      | ((with_reducible first | refine st_move ?_ | refine st_asg ?_ | refine st_c ?_ | refine fr_c ?_); (try (conv => arg 1; simp [w1, w2, hs0])); (with_reducible refine at_mk ?_))
      | ((with_reducible first | refine st_g ?_ | refine fr_g ?_); (try (conv => arg 1; simp [w1, w2, hs0])); (with_reducible refine at_mk ?_); with_reducible first | refine gd_tt ?_ | refine gd_ff ?_ | refine gd_tf ?_ | refine gd_ft ?_ | refine gd_no ?_)
      | ((with_reducible first | refine st_gm ?_ | refine fr_gm ?_); (try (conv => arg 1; simp [w1, w2, hs0])); (with_reducible refine at_mk ?_); (with_reducible first | refine gm_bool ?_ | refine gm_gv ?_); refine ⟨_, (by intro hc; first | ((try simp only [Bool.and_eq_true] at hc); (try (conv => lhs; simp [hc, w1, w2, hs0])); first | done | exact rfl) | ((try simp [gq] at hc); (try (conv => lhs; simp [gq, hc, w1, w2, hs0])); first | done | exact rfl)), ?_⟩)
      | ((with_reducible refine st_gmc ?_); (try (conv => arg 1; simp [w1, w2, hs0])); (with_reducible refine at_mk ?_); (with_reducible first | refine gm_bool ?_ | refine gm_gv ?_); refine ⟨_, _, _, (by intro hc; first | ((try simp only [Bool.and_eq_true] at hc); (try (conv => lhs; simp [hc, w1, w2, hs0])); first | done | exact rfl) | ((try simp [gq] at hc); (try (conv => lhs; simp [gq, hc, w1, w2, hs0])); first | done | exact rfl)), rfl, in_ _ _ _, (by intro hc; (try simp at hc); (repeat' (first | exact DRs.nil | refine DRs.cons ?_ ?_ | exact .int _ _ | exact .bool _ | exact .str _ | exact .nilsl | exact .nilp | exact dr_ints (by simp) _ | exact dr_intss (by simp) _ | refine dr_agg ?_ | refine dr_fn ?_ | refine dr_tptr' (by simp) ?_ | assumption))), ?_⟩)
      | ((with_reducible refine fr_gmc ?_); (try (conv => arg 1; simp [w1, w2, hs0])); (with_reducible refine at_mk ?_); (with_reducible first | refine gm_bool ?_ | refine gm_gv ?_); refine ⟨_, _, _, (by intro hc; first | ((try simp only [Bool.and_eq_true] at hc); (try (conv => lhs; simp [hc, w1, w2, hs0])); first | done | exact rfl) | ((try simp [gq] at hc); (try (conv => lhs; simp [gq, hc, w1, w2, hs0])); first | done | exact rfl)), in_ _ _ _, (by intro hc; (try simp at hc); (repeat' (first | exact DRs.nil | refine DRs.cons ?_ ?_ | exact .int _ _ | exact .bool _ | exact .str _ | exact .nilsl | exact .nilp | exact dr_ints (by simp) _ | exact dr_intss (by simp) _ | refine dr_agg ?_ | refine dr_fn ?_ | refine dr_tptr' (by simp) ?_ | assumption))), ?_⟩)
      | ((with_reducible refine st_gmv ?_); (try (conv => arg 1; simp [w1, w2, hs0])); (with_reducible refine at_mk ?_); (with_reducible first | refine gm_bool ?_ | refine gm_gv ?_); refine ⟨_, _, _, _, _, (by intro hc; first | ((try simp only [Bool.and_eq_true] at hc); (try (conv => lhs; simp [hc, w1, w2, hs0])); first | done | exact rfl) | ((try simp [gq] at hc); (try (conv => lhs; simp [gq, hc, w1, w2, hs0])); first | done | exact rfl)), (by intro hc; first | ((try simp only [Bool.and_eq_true] at hc); (try (conv => lhs; simp [hc, w1, w2, hs0])); first | done | exact rfl) | ((try simp [gq] at hc); (try (conv => lhs; simp [gq, hc, w1, w2, hs0])); first | done | exact rfl)), rfl, in_ _ _ _, (by intro hc; (try simp at hc); (repeat' (first | exact DRs.nil | refine DRs.cons ?_ ?_ | exact .int _ _ | exact .bool _ | exact .str _ | exact .nilsl | exact .nilp | exact dr_ints (by simp) _ | exact dr_intss (by simp) _ | refine dr_agg ?_ | refine dr_fn ?_ | refine dr_tptr' (by simp) ?_ | assumption))), ?_⟩)
      | ((with_reducible refine st_m rfl ?_); (try (conv => arg 1; simp [w1, w2, hs0])); (with_reducible refine ev2_some ?_))
      | ((with_reducible refine fr_n rfl ?_); (try (conv => arg 1; simp [w1, w2, hs0])); (with_reducible refine evn_some ?_))
      | ((with_reducible first | refine st_cv ?_ | refine fr_cv ?_); (try (conv => arg 1; simp [w1, w2, hs0])); (with_reducible refine at_mk ?_); (with_reducible refine fn_mk ?_); (try (conv => arg 1; simp [w1, w2, hs0])); (with_reducible refine at_mk ?_))
      | ((with_reducible refine fr_a ?_); (try (conv => arg 1; simp [w1, w2, hs0])); (with_reducible refine at_mk ?_); (try (conv => arg 1; simp [w1, w2, hs0])); (with_reducible refine at_mk ?_); refine ⟨?names, ?_⟩; (case names => (simp [appNames, ints, intss] <;> first | kernel_rfl | (refine ⟨?_, ?_⟩ <;> kernel_rfl))); (try (conv => arg 1; simp [w1, w2, hs0])); (with_reducible refine ev2_some ?_))
      | ((with_reducible first | refine st_q ?_ | refine fr_q ?_ | refine st_res ?_); (try (conv => arg 1; simp [w1, w2, hs0])); (with_reducible refine ev_some ?_))
      | ((with_reducible refine st_if ?_); (try (conv => arg 1; simp [w1, w2, hs0])); (with_reducible refine at_mk ?_); with_reducible first | refine br_t ?_ | refine br_f ?_ | (refine br_b (fun hb => ?_) (fun hb => ?_) <;> ((try simp only [Bool.not_eq_eq_eq_not, Bool.not_true, Bool.not_false] at hb); (try simp only [hb]); (try simp at hb))))
      | ((with_reducible refine ct_id ?_); refine st_tree rfl (in_ _ _ _) (by (repeat' (first | exact DRs.nil | refine DRs.cons ?_ ?_ | exact .int _ _ | exact .bool _ | exact .str _ | exact .nilsl | exact .nilp | exact dr_ints (by simp) _ | exact dr_intss (by simp) _ | refine dr_agg ?_ | refine dr_fn ?_ | refine dr_tptr' (by simp) ?_ | assumption))) ?_)
      | ((with_reducible refine tw_id ?_); refine treeW_pure (in_ _ _ _) (by (repeat' (first | exact DRs.nil | refine DRs.cons ?_ ?_ | exact .int _ _ | exact .bool _ | exact .str _ | exact .nilsl | exact .nilp | exact dr_ints (by simp) _ | exact dr_intss (by simp) _ | refine dr_agg ?_ | refine dr_fn ?_ | refine dr_tptr' (by simp) ?_ | assumption))) ?_))
    all_goals refine dr_bool ?_
    all_goals rw [Bool.eq_iff_iff]
    all_goals (try simp_all [inB])
    all_goals grind

theorem isSize (n : Int) : Pure Try.prog 111 [.int .i64 n] (.bool (!inB n 1 16)) := by
  intro T
  refine enter mixed MG12 Try.func111 rfl (by kernel_rfl) rfl ?_
  repeat' (first
   | with_reducible refine stp ?_
   | with_reducible refine k_blk_o rfl ?_
   | with_reducible refine k_seq_n ?_
   | ((try (conv => arg 1; simp)); with_reducible refine evp ?_)
   | ((with_reducible refine apn ?na ?_); (case na => simp [appNames, ints, intss] <;> first | kernel_rfl | (refine ⟨?_, ?_⟩ <;> kernel_rfl)))
   | ((with_reducible refine tcl ?_); first | ((apply tg (in_ _ _ _)); (case e => rfl); (case d => (refine dq ?_); (repeat' (first | ((refine Da.mk ?_); first | assumption) | constructor)))))
   | fail)
  exact .bool _
theorem areStmts0 (sizes : List Int) (P V : Int) : Pure Try.prog 112 [.agg [ints true sizes, .int .i64 P, .int .i64 V, .tr true []], .tr true [], .int .i64 0] (.bool true) := by
  intro T
  refine enter mixed MG12 Try.func112 rfl (by kernel_rfl) rfl ?_
  repeat' (first
    | (with_reducible first | refine st_seq ?_ | refine st_reg ?_ | refine st_block ?_ | refine st_nil ?_ | refine st_skip ?_ | refine st_ret ?_ | refine st_exit ?_ | refine fr_nil ?_ | refine k_seq_n ?_ | refine k_seq_r ?_ | refine k_seq_e ?_ | refine k_blk_n ?_ | refine k_blk_r ?_ | refine k_blk_s ?_ | refine k_blk_o rfl ?_ | refine k_fn_r ?_ | refine k_fn_n ?_ | refine k_lp_r ?_ | refine k_lp_e ?_)
    | ((with_reducible first | refine st_move ?_ | refine st_asg ?_ | refine st_c ?_ | refine fr_c ?_); (try (conv => arg 1; simp)); (with_reducible refine at_mk ?_))
    | ((with_reducible first | refine st_g ?_ | refine fr_g ?_); (try (conv => arg 1; simp)); (with_reducible refine at_mk ?_); with_reducible first | refine gd_tt ?_ | refine gd_ff ?_ | refine gd_tf ?_ | refine gd_ft ?_ | refine gd_no ?_)
    | ((with_reducible first | refine st_gm ?_ | refine fr_gm ?_); (try (conv => arg 1; simp)); (with_reducible refine at_mk ?_); (with_reducible first | refine gm_bool ?_ | refine gm_gv ?_); refine ⟨_, (by intro hc; first | ((try simp only [Bool.and_eq_true] at hc); (try (conv => lhs; simp [hc])); first | done | exact rfl) | ((try simp [gq] at hc); (try (conv => lhs; simp [gq, hc])); first | done | exact rfl)), ?_⟩)
    | ((with_reducible refine st_m rfl ?_); (try (conv => arg 1; simp)); (with_reducible refine ev2_some ?_))
    | ((with_reducible refine fr_n rfl ?_); (try (conv => arg 1; simp)); (with_reducible refine evn_some ?_))
    | ((with_reducible first | refine st_cv ?_ | refine fr_cv ?_); (try (conv => arg 1; simp)); (with_reducible refine at_mk ?_); (with_reducible refine fn_mk ?_); (try (conv => arg 1; simp)); (with_reducible refine at_mk ?_))
    | ((with_reducible refine fr_a ?_); (try (conv => arg 1; simp)); (with_reducible refine at_mk ?_); (try (conv => arg 1; simp)); (with_reducible refine at_mk ?_); refine ⟨?names, ?_⟩; (case names => (simp [appNames, ints, intss] <;> first | kernel_rfl | (refine ⟨?_, ?_⟩ <;> kernel_rfl))); (try (conv => arg 1; simp)); (with_reducible refine ev2_some ?_))
    | ((with_reducible first | refine st_q ?_ | refine fr_q ?_ | refine st_res ?_); (try (conv => arg 1; simp)); (with_reducible refine ev_some ?_))
    | ((with_reducible refine st_if ?_); (try (conv => arg 1; simp)); (with_reducible refine at_mk ?_); with_reducible first | refine br_t ?_ | refine br_f ?_))
  refine st_loop (fun (i : Nat) σ h => σ 24 = .int .i64 0 ∧ σ 25 = .int .i64 0) (fun i => 0) 0 ?init ?step
  case init =>
    simp
  case step =>
    rintro i σ h ⟨h0, h1⟩
    repeat' (first
     | with_reducible refine stp ?_
     | with_reducible refine k_blk_o rfl ?_
     | with_reducible refine k_seq_n ?_
     | ((try (conv => arg 1; simp [h0, h1])); with_reducible refine evp ?_)
     | ((with_reducible refine apn ?na ?_); (case na => simp [appNames, ints, intss] <;> first | kernel_rfl | (refine ⟨?_, ?_⟩ <;> kernel_rfl)))
     | fail)
    exact .bool _
def progOk (sizes : List Int) (P V : Int) : Bool := (inB sizes.length 1 4 && sizes.all fun n => inB n 1 16) && inB P 0 (if V < 6 then V else 6) && decide (V ≤ 20)
theorem isProgram0 (sizes : List Int) (P V : Int) (hl : sizes.length ≤ 2 ^ 62) : Pure Try.prog 71 [.agg [ints true sizes, .int .i64 P, .int .i64 V, .tr true []]] (.bool (progOk sizes P V)) := by
  intro T
  have hc := containsFuncI sizes 111 [] (fun n => !inB n 1 16) (fun w _ => isSize w) (fun _ => .nil) hl
  have hA := areStmts0 sizes P V
  refine enter mixed MG12 Try.func71 rfl (by kernel_rfl) rfl ?_
  repeat' (first
    | (with_reducible first | refine st_seq ?_ | refine st_reg ?_ | refine st_block ?_ | refine st_nil ?_ | refine st_skip ?_ | refine st_ret ?_ | refine st_exit ?_ | refine fr_nil ?_ | refine k_seq_n ?_ | refine k_seq_r ?_ | refine k_seq_e ?_ | refine k_blk_n ?_ | refine k_blk_r ?_ | refine k_blk_s ?_ | refine k_blk_o rfl ?_ | refine k_fn_r ?_ | refine k_fn_n ?_ | refine k_lp_r ?_ | refine k_lp_e ?_)
    | ((with_reducible first | refine st_move ?_ | refine st_asg ?_ | refine st_c ?_ | refine fr_c ?_); (try (conv => arg 1; simp [mmA])); (with_reducible refine at_mk ?_))
    | ((with_reducible first | refine st_g ?_ | refine fr_g ?_); (try (conv => arg 1; simp [mmA])); (with_reducible refine at_mk ?_); with_reducible first | refine gd_tt ?_ | refine gd_ff ?_ | refine gd_tf ?_ | refine gd_ft ?_ | refine gd_no ?_)
    | ((with_reducible first | refine st_gm ?_ | refine fr_gm ?_); (try (conv => arg 1; simp [mmA])); (with_reducible refine at_mk ?_); (with_reducible first | refine gm_bool ?_ | refine gm_gv ?_); refine ⟨_, (by intro hc; first | ((try simp only [Bool.and_eq_true] at hc); (try (conv => lhs; simp [hc, mmA])); first | done | exact rfl) | ((try simp [gq] at hc); (try (conv => lhs; simp [gq, hc, mmA])); first | done | exact rfl)), ?_⟩)
    | ((with_reducible refine st_gmc ?_); (try (conv => arg 1; simp [mmA])); (with_reducible refine at_mk ?_); (with_reducible first | refine gm_bool ?_ | refine gm_gv ?_); refine ⟨_, _, _, (by intro hc; first | ((try simp only [Bool.and_eq_true] at hc); (try (conv => lhs; simp [hc, mmA])); first | done | exact rfl) | ((try simp [gq] at hc); (try (conv => lhs; simp [gq, hc, mmA])); first | done | exact rfl)), rfl, hc, (by intro hc; (try simp at hc); (repeat' (first | exact DRs.nil | refine DRs.cons ?_ ?_ | exact .int _ _ | exact .bool _ | exact .str _ | exact .nilsl | exact .nilp | exact dr_ints (by simp) _ | exact dr_intss (by simp) _ | refine dr_agg ?_ | refine dr_fn ?_ | refine dr_tptr' (by simp) ?_ | assumption | exact .tr0 _))), ?_⟩)
    | ((with_reducible refine fr_gmc ?_); (try (conv => arg 1; simp [mmA])); (with_reducible refine at_mk ?_); (with_reducible first | refine gm_bool ?_ | refine gm_gv ?_); refine ⟨_, _, _, (by intro hc; first | ((try simp only [Bool.and_eq_true] at hc); (try (conv => lhs; simp [hc, mmA])); first | done | exact rfl) | ((try simp [gq] at hc); (try (conv => lhs; simp [gq, hc, mmA])); first | done | exact rfl)), hc, (by intro hc; (try simp at hc); (repeat' (first | exact DRs.nil | refine DRs.cons ?_ ?_ | exact .int _ _ | exact .bool _ | exact .str _ | exact .nilsl | exact .nilp | exact dr_ints (by simp) _ | exact dr_intss (by simp) _ | refine dr_agg ?_ | refine dr_fn ?_ | refine dr_tptr' (by simp) ?_ | assumption | exact .tr0 _))), ?_⟩)
    | ((with_reducible refine st_gmv ?_); (try (conv => arg 1; simp [mmA])); (with_reducible refine at_mk ?_); (with_reducible first | refine gm_bool ?_ | refine gm_gv ?_); refine ⟨_, _, _, _, _, (by intro hc; first | ((try simp only [Bool.and_eq_true] at hc); (try (conv => lhs; simp [hc, mmA])); first | done | exact rfl) | ((try simp [gq] at hc); (try (conv => lhs; simp [gq, hc, mmA])); first | done | exact rfl)), (by intro hc; first | ((try simp only [Bool.and_eq_true] at hc); (try (conv => lhs; simp [hc, mmA])); first | done | exact rfl) | ((try simp [gq] at hc); (try (conv => lhs; simp [gq, hc, mmA])); first | done | exact rfl)), rfl, hc, (by intro hc; (try simp at hc); (repeat' (first | exact DRs.nil | refine DRs.cons ?_ ?_ | exact .int _ _ | exact .bool _ | exact .str _ | exact .nilsl | exact .nilp | exact dr_ints (by simp) _ | exact dr_intss (by simp) _ | refine dr_agg ?_ | refine dr_fn ?_ | refine dr_tptr' (by simp) ?_ | assumption | exact .tr0 _))), ?_⟩)
    | ((with_reducible refine st_gmc ?_); (try (conv => arg 1; simp [mmA])); (with_reducible refine at_mk ?_); (with_reducible first | refine gm_bool ?_ | refine gm_gv ?_); refine ⟨_, _, _, (by intro hc; first | ((try simp only [Bool.and_eq_true] at hc); (try (conv => lhs; simp [hc, mmA])); first | done | exact rfl) | ((try simp [gq] at hc); (try (conv => lhs; simp [gq, hc, mmA])); first | done | exact rfl)), rfl, in_ _ _ _, (by intro hc; (try simp at hc); (repeat' (first | exact DRs.nil | refine DRs.cons ?_ ?_ | exact .int _ _ | exact .bool _ | exact .str _ | exact .nilsl | exact .nilp | exact dr_ints (by simp) _ | exact dr_intss (by simp) _ | refine dr_agg ?_ | refine dr_fn ?_ | refine dr_tptr' (by simp) ?_ | assumption | exact .tr0 _))), ?_⟩)
    | ((with_reducible refine fr_gmc ?_); (try (conv => arg 1; simp [mmA])); (with_reducible refine at_mk ?_); (with_reducible first | refine gm_bool ?_ | refine gm_gv ?_); refine ⟨_, _, _, (by intro hc; first | ((try simp only [Bool.and_eq_true] at hc); (try (conv => lhs; simp [hc, mmA])); first | done | exact rfl) | ((try simp [gq] at hc); (try (conv => lhs; simp [gq, hc, mmA])); first | done | exact rfl)), in_ _ _ _, (by intro hc; (try simp at hc); (repeat' (first | exact DRs.nil | refine DRs.cons ?_ ?_ | exact .int _ _ | exact .bool _ | exact .str _ | exact .nilsl | exact .nilp | exact dr_ints (by simp) _ | exact dr_intss (by simp) _ | refine dr_agg ?_ | refine dr_fn ?_ | refine dr_tptr' (by simp) ?_ | assumption | exact .tr0 _))), ?_⟩)
    | ((with_reducible refine st_gmv ?_); (try (conv => arg 1; simp [mmA])); (with_reducible refine at_mk ?_); (with_reducible first | refine gm_bool ?_ | refine gm_gv ?_); refine ⟨_, _, _, _, _, (by intro hc; first | ((try simp only [Bool.and_eq_true] at hc); (try (conv => lhs; simp [hc, mmA])); first | done | exact rfl) | ((try simp [gq] at hc); (try (conv => lhs; simp [gq, hc, mmA])); first | done | exact rfl)), (by intro hc; first | ((try simp only [Bool.and_eq_true] at hc); (try (conv => lhs; simp [hc, mmA])); first | done | exact rfl) | ((try simp [gq] at hc); (try (conv => lhs; simp [gq, hc, mmA])); first | done | exact rfl)), rfl, in_ _ _ _, (by intro hc; (try simp at hc); (repeat' (first | exact DRs.nil | refine DRs.cons ?_ ?_ | exact .int _ _ | exact .bool _ | exact .str _ | exact .nilsl | exact .nilp | exact dr_ints (by simp) _ | exact dr_intss (by simp) _ | refine dr_agg ?_ | refine dr_fn ?_ | refine dr_tptr' (by simp) ?_ | assumption | exact .tr0 _))), ?_⟩)
    | ((with_reducible refine st_gmc ?_); (try (conv => arg 1; simp [mmA])); (with_reducible refine at_mk ?_); (with_reducible first | refine gm_bool ?_ | refine gm_gv ?_); refine ⟨_, _, _, (by intro hc; first | ((try simp only [Bool.and_eq_true] at hc); (try (conv => lhs; simp [hc, mmA])); first | done | exact rfl) | ((try simp [gq] at hc); (try (conv => lhs; simp [gq, hc, mmA])); first | done | exact rfl)), rfl, hA, (by intro hc; (try simp at hc); (repeat' (first | exact DRs.nil | refine DRs.cons ?_ ?_ | exact .int _ _ | exact .bool _ | exact .str _ | exact .nilsl | exact .nilp | exact dr_ints (by simp) _ | exact dr_intss (by simp) _ | refine dr_agg ?_ | refine dr_fn ?_ | refine dr_tptr' (by simp) ?_ | assumption | exact .tr0 _))), ?_⟩)
    | ((with_reducible refine fr_gmc ?_); (try (conv => arg 1; simp [mmA])); (with_reducible refine at_mk ?_); (with_reducible first | refine gm_bool ?_ | refine gm_gv ?_); refine ⟨_, _, _, (by intro hc; first | ((try simp only [Bool.and_eq_true] at hc); (try (conv => lhs; simp [hc, mmA])); first | done | exact rfl) | ((try simp [gq] at hc); (try (conv => lhs; simp [gq, hc, mmA])); first | done | exact rfl)), hA, (by intro hc; (try simp at hc); (repeat' (first | exact DRs.nil | refine DRs.cons ?_ ?_ | exact .int _ _ | exact .bool _ | exact .str _ | exact .nilsl | exact .nilp | exact dr_ints (by simp) _ | exact dr_intss (by simp) _ | refine dr_agg ?_ | refine dr_fn ?_ | refine dr_tptr' (by simp) ?_ | assumption | exact .tr0 _))), ?_⟩)
    | ((with_reducible refine st_gmv ?_); (try (conv => arg 1; simp [mmA])); (with_reducible refine at_mk ?_); (with_reducible first | refine gm_bool ?_ | refine gm_gv ?_); refine ⟨_, _, _, _, _, (by intro hc; first | ((try simp only [Bool.and_eq_true] at hc); (try (conv => lhs; simp [hc, mmA])); first | done | exact rfl) | ((try simp [gq] at hc); (try (conv => lhs; simp [gq, hc, mmA])); first | done | exact rfl)), (by intro hc; first | ((try simp only [Bool.and_eq_true] at hc); (try (conv => lhs; simp [hc, mmA])); first | done | exact rfl) | ((try simp [gq] at hc); (try (conv => lhs; simp [gq, hc, mmA])); first | done | exact rfl)), rfl, hA, (by intro hc; (try simp at hc); (repeat' (first | exact DRs.nil | refine DRs.cons ?_ ?_ | exact .int _ _ | exact .bool _ | exact .str _ | exact .nilsl | exact .nilp | exact dr_ints (by simp) _ | exact dr_intss (by simp) _ | refine dr_agg ?_ | refine dr_fn ?_ | refine dr_tptr' (by simp) ?_ | assumption | exact .tr0 _))), ?_⟩)
    | ((with_reducible refine st_m rfl ?_); (try (conv => arg 1; simp [mmA])); (with_reducible refine ev2_some ?_))
    | ((with_reducible refine fr_n rfl ?_); (try (conv => arg 1; simp [mmA])); (with_reducible refine evn_some ?_))
    | ((with_reducible first | refine st_cv ?_ | refine fr_cv ?_); (try (conv => arg 1; simp [mmA])); (with_reducible refine at_mk ?_); (with_reducible refine fn_mk ?_); (try (conv => arg 1; simp [mmA])); (with_reducible refine at_mk ?_))
    | ((with_reducible refine fr_a ?_); (try (conv => arg 1; simp [mmA])); (with_reducible refine at_mk ?_); (try (conv => arg 1; simp [mmA])); (with_reducible refine at_mk ?_); refine ⟨?names, ?_⟩; (case names => (simp [appNames, ints, intss] <;> first | kernel_rfl | (refine ⟨?_, ?_⟩ <;> kernel_rfl))); (try (conv => arg 1; simp [mmA])); (with_reducible refine ev2_some ?_))
    | ((with_reducible first | refine st_q ?_ | refine fr_q ?_ | refine st_res ?_); (try (conv => arg 1; simp [mmA])); (with_reducible refine ev_some ?_))
    | ((with_reducible refine st_if ?_); (try (conv => arg 1; simp [mmA])); (with_reducible refine at_mk ?_); with_reducible first | refine br_t ?_ | refine br_f ?_)
    | ((with_reducible refine ct_id ?_); refine st_tree rfl (hc) (by (repeat' (first | exact DRs.nil | refine DRs.cons ?_ ?_ | exact .int _ _ | exact .bool _ | exact .str _ | exact .nilsl | exact .nilp | exact dr_ints (by simp) _ | exact dr_intss (by simp) _ | refine dr_agg ?_ | refine dr_fn ?_ | refine dr_tptr' (by simp) ?_ | assumption | exact .tr0 _))) ?_)
    | ((with_reducible refine tw_id ?_); refine treeW_pure (hc) (by (repeat' (first | exact DRs.nil | refine DRs.cons ?_ ?_ | exact .int _ _ | exact .bool _ | exact .str _ | exact .nilsl | exact .nilp | exact dr_ints (by simp) _ | exact dr_intss (by simp) _ | refine dr_agg ?_ | refine dr_fn ?_ | refine dr_tptr' (by simp) ?_ | assumption | exact .tr0 _))) ?_)
    | ((with_reducible refine ct_id ?_); refine st_tree rfl (in_ _ _ _) (by (repeat' (first | exact DRs.nil | refine DRs.cons ?_ ?_ | exact .int _ _ | exact .bool _ | exact .str _ | exact .nilsl | exact .nilp | exact dr_ints (by simp) _ | exact dr_intss (by simp) _ | refine dr_agg ?_ | refine dr_fn ?_ | refine dr_tptr' (by simp) ?_ | assumption | exact .tr0 _))) ?_)
    | ((with_reducible refine tw_id ?_); refine treeW_pure (in_ _ _ _) (by (repeat' (first | exact DRs.nil | refine DRs.cons ?_ ?_ | exact .int _ _ | exact .bool _ | exact .str _ | exact .nilsl | exact .nilp | exact dr_ints (by simp) _ | exact dr_intss (by simp) _ | refine dr_agg ?_ | refine dr_fn ?_ | refine dr_tptr' (by simp) ?_ | assumption | exact .tr0 _))) ?_)
    | ((with_reducible refine ct_id ?_); refine st_tree rfl (hA) (by (repeat' (first | exact DRs.nil | refine DRs.cons ?_ ?_ | exact .int _ _ | exact .bool _ | exact .str _ | exact .nilsl | exact .nilp | exact dr_ints (by simp) _ | exact dr_intss (by simp) _ | refine dr_agg ?_ | refine dr_fn ?_ | refine dr_tptr' (by simp) ?_ | assumption | exact .tr0 _))) ?_)
    | ((with_reducible refine tw_id ?_); refine treeW_pure (hA) (by (repeat' (first | exact DRs.nil | refine DRs.cons ?_ ?_ | exact .int _ _ | exact .bool _ | exact .str _ | exact .nilsl | exact .nilp | exact dr_ints (by simp) _ | exact dr_intss (by simp) _ | refine dr_agg ?_ | refine dr_fn ?_ | refine dr_tptr' (by simp) ?_ | assumption | exact .tr0 _))) ?_))
  refine dr_bool ?_
  have e1 : (sizes.all fun n => inB n 1 16) = !sizes.any fun n => !inB n 1 16 := by rw [List.all_eq_not_any_not]
  unfold progOk
  rw [e1]
theorem progOk_iff {g : Graph} : (progOk g.Sizes g.Params g.Vars && inB g.Slots g.Vars 1000 && inB g.Blocks.length 1 300) = headOk g := by
  rw [Bool.eq_iff_iff]
  simp only [progOk, headOk, inB, Bool.and_eq_true, decide_eq_true_eq]
  constructor
  · rintro ⟨⟨⟨⟨⟨h1, h2⟩, h3⟩, h4⟩, h5⟩, h6⟩
    refine ⟨⟨⟨⟨⟨⟨h1, h2⟩, ?_⟩, ?_⟩, h4⟩, h5⟩, h6⟩
    · split at h3 <;> omega
    · split at h3 <;> omega
  · rintro ⟨⟨⟨⟨⟨⟨h1, h2⟩, h3⟩, h3'⟩, h4⟩, h5⟩, h6⟩
    refine ⟨⟨⟨⟨⟨h1, h2⟩, ?_⟩, h4⟩, h5⟩, h6⟩
    split <;> omega

set_option maxHeartbeats 8000000 in
theorem isGraph (g : Graph) (d : g.Small) : Pure Try.prog 40 [.agg (g.cells true)] (.bool (graphOk g)) := by
  intro T
  have d1 := d.sizes
  have d2 := d.len
  have hP := isProgram0 g.Sizes g.Params g.Vars (by omega)
  have hh := progOk_iff (g := g)
  refine enter mixed MG12 Try.func40 rfl (by kernel_rfl) rfl ?_
  repeat' (first
   | with_reducible refine stp ?_
   | with_reducible refine k_blk_o rfl ?_
   | ((try (conv => arg 1; simp [Graph.cells])); with_reducible refine evp ?_)
   | ((with_reducible refine apn ?na ?_); (case na => simp [appNames, ints, intss] <;> first | kernel_rfl | (refine ⟨?_, ?_⟩ <;> kernel_rfl)))
   | fail)
  refine cx_k (Cx.mt.next.box_one (T := T) (i := 0) Cx.mt.off (by simp)) ?_
  intro h1 x1
  have b1 := x1.bxs
  simp only [Bxs] at b1
  repeat' (first
    | (with_reducible first | refine st_seq ?_ | refine st_reg ?_ | refine st_block ?_ | refine st_nil ?_ | refine st_skip ?_ | refine st_ret ?_ | refine st_exit ?_ | refine fr_nil ?_ | refine k_seq_n ?_ | refine k_seq_r ?_ | refine k_seq_e ?_ | refine k_blk_n ?_ | refine k_blk_r ?_ | refine k_blk_s ?_ | refine k_blk_o rfl ?_ | refine k_fn_r ?_ | refine k_fn_n ?_ | refine k_lp_r ?_ | refine k_lp_e ?_)
    | ((with_reducible first | refine st_move ?_ | refine st_asg ?_ | refine st_c ?_ | refine fr_c ?_); (try (conv => arg 1; simp [b1])); (with_reducible refine at_mk ?_))
    | ((with_reducible first | refine st_g ?_ | refine fr_g ?_); (try (conv => arg 1; simp [b1])); (with_reducible refine at_mk ?_); with_reducible first | refine gd_tt ?_ | refine gd_ff ?_ | refine gd_tf ?_ | refine gd_ft ?_ | refine gd_no ?_)
    | ((with_reducible first | refine st_gm ?_ | refine fr_gm ?_); (try (conv => arg 1; simp [b1])); (with_reducible refine at_mk ?_); (with_reducible first | refine gm_bool ?_ | refine gm_gv ?_); refine ⟨_, (by intro hc; first | ((try simp only [Bool.and_eq_true] at hc); (try (conv => lhs; simp [hc, b1])); first | done | exact rfl) | ((try simp [gq] at hc); (try (conv => lhs; simp [gq, hc, b1])); first | done | exact rfl)), ?_⟩)
    | ((with_reducible refine st_gmc ?_); (try (conv => arg 1; simp [b1])); (with_reducible refine at_mk ?_); (with_reducible first | refine gm_bool ?_ | refine gm_gv ?_); refine ⟨_, _, _, (by intro hc; first | ((try simp only [Bool.and_eq_true] at hc); (try (conv => lhs; simp [hc, b1])); first | done | exact rfl) | ((try simp [gq] at hc); (try (conv => lhs; simp [gq, hc, b1])); first | done | exact rfl)), rfl, hP, (by intro hc; (try simp at hc); (repeat' (first | exact DRs.nil | refine DRs.cons ?_ ?_ | exact .int _ _ | exact .bool _ | exact .str _ | exact .nilsl | exact .nilp | exact dr_ints (by simp) _ | exact dr_intss (by simp) _ | refine dr_agg ?_ | refine dr_fn ?_ | refine dr_tptr' (by simp) ?_ | assumption | exact .nilsl))), ?_⟩)
    | ((with_reducible refine fr_gmc ?_); (try (conv => arg 1; simp [b1])); (with_reducible refine at_mk ?_); (with_reducible first | refine gm_bool ?_ | refine gm_gv ?_); refine ⟨_, _, _, (by intro hc; first | ((try simp only [Bool.and_eq_true] at hc); (try (conv => lhs; simp [hc, b1])); first | done | exact rfl) | ((try simp [gq] at hc); (try (conv => lhs; simp [gq, hc, b1])); first | done | exact rfl)), hP, (by intro hc; (try simp at hc); (repeat' (first | exact DRs.nil | refine DRs.cons ?_ ?_ | exact .int _ _ | exact .bool _ | exact .str _ | exact .nilsl | exact .nilp | exact dr_ints (by simp) _ | exact dr_intss (by simp) _ | refine dr_agg ?_ | refine dr_fn ?_ | refine dr_tptr' (by simp) ?_ | assumption | exact .nilsl))), ?_⟩)
    | ((with_reducible refine st_gmv ?_); (try (conv => arg 1; simp [b1])); (with_reducible refine at_mk ?_); (with_reducible first | refine gm_bool ?_ | refine gm_gv ?_); refine ⟨_, _, _, _, _, (by intro hc; first | ((try simp only [Bool.and_eq_true] at hc); (try (conv => lhs; simp [hc, b1])); first | done | exact rfl) | ((try simp [gq] at hc); (try (conv => lhs; simp [gq, hc, b1])); first | done | exact rfl)), (by intro hc; first | ((try simp only [Bool.and_eq_true] at hc); (try (conv => lhs; simp [hc, b1])); first | done | exact rfl) | ((try simp [gq] at hc); (try (conv => lhs; simp [gq, hc, b1])); first | done | exact rfl)), rfl, hP, (by intro hc; (try simp at hc); (repeat' (first | exact DRs.nil | refine DRs.cons ?_ ?_ | exact .int _ _ | exact .bool _ | exact .str _ | exact .nilsl | exact .nilp | exact dr_ints (by simp) _ | exact dr_intss (by simp) _ | refine dr_agg ?_ | refine dr_fn ?_ | refine dr_tptr' (by simp) ?_ | assumption | exact .nilsl))), ?_⟩)
    | ((with_reducible refine st_gmc ?_); (try (conv => arg 1; simp [b1])); (with_reducible refine at_mk ?_); (with_reducible first | refine gm_bool ?_ | refine gm_gv ?_); refine ⟨_, _, _, (by intro hc; first | ((try simp only [Bool.and_eq_true] at hc); (try (conv => lhs; simp [hc, b1])); first | done | exact rfl) | ((try simp [gq] at hc); (try (conv => lhs; simp [gq, hc, b1])); first | done | exact rfl)), rfl, in_ _ _ _, (by intro hc; (try simp at hc); (repeat' (first | exact DRs.nil | refine DRs.cons ?_ ?_ | exact .int _ _ | exact .bool _ | exact .str _ | exact .nilsl | exact .nilp | exact dr_ints (by simp) _ | exact dr_intss (by simp) _ | refine dr_agg ?_ | refine dr_fn ?_ | refine dr_tptr' (by simp) ?_ | assumption | exact .nilsl))), ?_⟩)
    | ((with_reducible refine fr_gmc ?_); (try (conv => arg 1; simp [b1])); (with_reducible refine at_mk ?_); (with_reducible first | refine gm_bool ?_ | refine gm_gv ?_); refine ⟨_, _, _, (by intro hc; first | ((try simp only [Bool.and_eq_true] at hc); (try (conv => lhs; simp [hc, b1])); first | done | exact rfl) | ((try simp [gq] at hc); (try (conv => lhs; simp [gq, hc, b1])); first | done | exact rfl)), in_ _ _ _, (by intro hc; (try simp at hc); (repeat' (first | exact DRs.nil | refine DRs.cons ?_ ?_ | exact .int _ _ | exact .bool _ | exact .str _ | exact .nilsl | exact .nilp | exact dr_ints (by simp) _ | exact dr_intss (by simp) _ | refine dr_agg ?_ | refine dr_fn ?_ | refine dr_tptr' (by simp) ?_ | assumption | exact .nilsl))), ?_⟩)
    | ((with_reducible refine st_gmv ?_); (try (conv => arg 1; simp [b1])); (with_reducible refine at_mk ?_); (with_reducible first | refine gm_bool ?_ | refine gm_gv ?_); refine ⟨_, _, _, _, _, (by intro hc; first | ((try simp only [Bool.and_eq_true] at hc); (try (conv => lhs; simp [hc, b1])); first | done | exact rfl) | ((try simp [gq] at hc); (try (conv => lhs; simp [gq, hc, b1])); first | done | exact rfl)), (by intro hc; first | ((try simp only [Bool.and_eq_true] at hc); (try (conv => lhs; simp [hc, b1])); first | done | exact rfl) | ((try simp [gq] at hc); (try (conv => lhs; simp [gq, hc, b1])); first | done | exact rfl)), rfl, in_ _ _ _, (by intro hc; (try simp at hc); (repeat' (first | exact DRs.nil | refine DRs.cons ?_ ?_ | exact .int _ _ | exact .bool _ | exact .str _ | exact .nilsl | exact .nilp | exact dr_ints (by simp) _ | exact dr_intss (by simp) _ | refine dr_agg ?_ | refine dr_fn ?_ | refine dr_tptr' (by simp) ?_ | assumption | exact .nilsl))), ?_⟩)
    | ((with_reducible refine st_m rfl ?_); (try (conv => arg 1; simp [b1])); (with_reducible refine ev2_some ?_))
    | ((with_reducible refine fr_n rfl ?_); (try (conv => arg 1; simp [b1])); (with_reducible refine evn_some ?_))
    | ((with_reducible first | refine st_cv ?_ | refine fr_cv ?_); (try (conv => arg 1; simp [b1])); (with_reducible refine at_mk ?_); (with_reducible refine fn_mk ?_); (try (conv => arg 1; simp [b1])); (with_reducible refine at_mk ?_))
    | ((with_reducible refine fr_a ?_); (try (conv => arg 1; simp [b1])); (with_reducible refine at_mk ?_); (try (conv => arg 1; simp [b1])); (with_reducible refine at_mk ?_); refine ⟨?names, ?_⟩; (case names => (simp [appNames, ints, intss] <;> first | kernel_rfl | (refine ⟨?_, ?_⟩ <;> kernel_rfl))); (try (conv => arg 1; simp [b1])); (with_reducible refine ev2_some ?_))
    | ((with_reducible first | refine st_q ?_ | refine fr_q ?_ | refine st_res ?_); (try (conv => arg 1; simp [b1])); (with_reducible refine ev_some ?_))
    | ((with_reducible refine st_if ?_); (try (conv => arg 1; simp [b1])); (with_reducible refine at_mk ?_); with_reducible first | refine br_t ?_ | refine br_f ?_)
    | ((with_reducible refine ct_id ?_); refine st_tree rfl (hP) (by (repeat' (first | exact DRs.nil | refine DRs.cons ?_ ?_ | exact .int _ _ | exact .bool _ | exact .str _ | exact .nilsl | exact .nilp | exact dr_ints (by simp) _ | exact dr_intss (by simp) _ | refine dr_agg ?_ | refine dr_fn ?_ | refine dr_tptr' (by simp) ?_ | assumption | exact .nilsl))) ?_)
    | ((with_reducible refine tw_id ?_); refine treeW_pure (hP) (by (repeat' (first | exact DRs.nil | refine DRs.cons ?_ ?_ | exact .int _ _ | exact .bool _ | exact .str _ | exact .nilsl | exact .nilp | exact dr_ints (by simp) _ | exact dr_intss (by simp) _ | refine dr_agg ?_ | refine dr_fn ?_ | refine dr_tptr' (by simp) ?_ | assumption | exact .nilsl))) ?_)
    | ((with_reducible refine ct_id ?_); refine st_tree rfl (in_ _ _ _) (by (repeat' (first | exact DRs.nil | refine DRs.cons ?_ ?_ | exact .int _ _ | exact .bool _ | exact .str _ | exact .nilsl | exact .nilp | exact dr_ints (by simp) _ | exact dr_intss (by simp) _ | refine dr_agg ?_ | refine dr_fn ?_ | refine dr_tptr' (by simp) ?_ | assumption | exact .nilsl))) ?_)
    | ((with_reducible refine tw_id ?_); refine treeW_pure (in_ _ _ _) (by (repeat' (first | exact DRs.nil | refine DRs.cons ?_ ?_ | exact .int _ _ | exact .bool _ | exact .str _ | exact .nilsl | exact .nilp | exact dr_ints (by simp) _ | exact dr_intss (by simp) _ | refine dr_agg ?_ | refine dr_fn ?_ | refine dr_tptr' (by simp) ?_ | assumption | exact .nilsl))) ?_))
  (try with_reducible refine st_if ?_)
  (try (conv => arg 1; simp [d1]))
  (try with_reducible refine at_mk ?_)
  refine ⟨fun hb => ?_, fun hb => ?_⟩
  · have e : graphOk g = false := by
      unfold graphOk
      rw [← hh]
      simp only [Bool.or_eq_true, Bool.not_eq_true'] at hb
      rcases hb with (h | h) | h <;> simp only [h, Bool.false_and, Bool.and_false]
    repeat' (first
     | with_reducible refine stp ?_
     | with_reducible refine k_blk_o rfl ?_
     | with_reducible refine k_seq_n ?_
     | ((try (conv => arg 1; simp [d1])); with_reducible refine evp ?_)
     | ((with_reducible refine apn ?na ?_); (case na => simp [appNames, ints, intss] <;> first | kernel_rfl | (refine ⟨?_, ?_⟩ <;> kernel_rfl)))
     | fail)
    rw [e]
    exact .bool _
  have hk : headOk g = true := by
    rw [← hh]
    simp only [Bool.not_eq_true, Bool.or_eq_false_iff, Bool.not_eq_false'] at hb
    simp only [hb, Bool.and_true]
  have H := headOk_head hk
  have e4 := H.slots
  have e2 := H.params
  have e5 := H.blocks
  repeat' (first
   | with_reducible refine stp ?_
   | with_reducible refine k_blk_o rfl ?_
   | with_reducible refine k_seq_n ?_
   | ((try (conv => arg 1; simp [b1])); with_reducible refine evp ?_)
   | ((with_reducible refine apn ?na ?_); (case na => simp [appNames, ints, intss] <;> first | kernel_rfl | (refine ⟨?_, ?_⟩ <;> kernel_rfl)))
   | fail)
  refine st_loop (fun (i : Nat) σ h => i ≤ g.Blocks.length ∧ σ 1 = .ptr (T, 0, 0) 0 0 0 ∧ σ 31 = blocks true g.Blocks ∧ σ 32 = .int .i64 g.Blocks.length ∧ σ 3 = .int .i64 (codeLen g.Blocks i) ∧ σ 33 = .int .i64 i ∧ (g.Blocks.take i).all (blockOk g) = true ∧ Cx h [((T, 0, 0), graphRow g)] []) (fun i => g.Blocks.length - i) 0 ?init ?step
  case init => exact ⟨Nat.zero_le _, by simp, by simp, by simp, by simp [codeLen, gsum_zero], by simp, rfl, Cx.to x1⟩
  case step =>
    rintro i σ h ⟨hi, s1, s31, s32, s3, s33, ha2, x⟩
    have b2 := x.bxs
    simp only [Bxs, graphRow] at b2
    have hn := codeLen_small d i
    by_cases hlt : i < g.Blocks.length
    · have hlt2 : (i : Int) < g.Blocks.length := by omega
      have hx : g.Blocks[i]? = some g.Blocks[i] := by simp
      have hlen := block_len true g.Blocks[i]
      have hc := d.code _ (List.getElem_mem hlt)
      have hw : IntKind.i64.wrap (i + 1) = i + 1 := wrap_id (by omega) (by omega)
      have hs := codeLen_succ hlt
      have hw2 : IntKind.i64.wrap ((codeLen g.Blocks i : Int) + g.Blocks[i].Code.length) = codeLen g.Blocks (i + 1) := by rw [wrap_id (by omega) (by omega)]; omega
      have B := isBlock g g.Blocks[i] (by omega) d1 d2 hc
      cases hv : blockOk g g.Blocks[i] with
      | false =>
        rw [hv] at B
        repeat' (first
         | with_reducible refine stp ?_
         | with_reducible refine k_blk_o rfl ?_
         | with_reducible refine k_seq_n ?_
         | ((try (conv => arg 1; simp [s1, s31, s32, s3, s33, b2, hlt2, hx, hlen, blocks, Block.cells, Graph.cells, hw2, ltS, nm_ne])); with_reducible refine evp ?_)
         | ((with_reducible refine apn ?na ?_); (case na => simp [appNames, ints, intss] <;> first | kernel_rfl | (refine ⟨?_, ?_⟩ <;> kernel_rfl)))
         | ((with_reducible refine tcl ?_); first | ((apply tg (B)); (case e => rfl); (case d => (refine dq ?_); (repeat' (first | ((refine Da.mk ?_); first | exact dr_blocks (by simp) _ | exact dr_instrs (by simp) _ | assumption) | constructor)))))
         | fail)
        have e : graphOk g = false := by simp only [graphOk]; rw [all_false hlt hv, Bool.and_false]
        rw [e]
        exact .bool _
      | true =>
        rw [hv] at B
        repeat' (first
         | with_reducible refine stp ?_
         | with_reducible refine k_blk_o rfl ?_
         | with_reducible refine k_seq_n ?_
         | ((try (conv => arg 1; simp [s1, s31, s32, s3, s33, b2, hlt2, hx, hlen, blocks, Block.cells, Graph.cells, hw, hw2, ltS, nm_ne])); with_reducible refine evp ?_)
         | ((with_reducible refine apn ?na ?_); (case na => simp [appNames, ints, intss] <;> first | kernel_rfl | (refine ⟨?_, ?_⟩ <;> kernel_rfl)))
         | ((with_reducible refine tcl ?_); first | ((apply tg (B)); (case e => rfl); (case d => (refine dq ?_); (repeat' (first | ((refine Da.mk ?_); first | exact dr_blocks (by simp) _ | exact dr_instrs (by simp) _ | assumption) | constructor)))))
         | fail)
        refine k_lp_n (i + 1) (by omega) ⟨by omega, by simp [s1], by simp [s31], by simp [s32], by simp, by simp, by rw [all_take hlt, ha2, hv]; rfl, Cx.to x⟩
    · have hlt2 : ¬ (i : Int) < g.Blocks.length := by omega
      rw [List.take_of_length_le (by omega)] at ha2
      have hi2 : i = g.Blocks.length := by omega
      rw [hi2] at s3
      repeat' (first
       | with_reducible refine stp ?_
       | with_reducible refine k_blk_o rfl ?_
       | with_reducible refine k_seq_n ?_
       | ((try (conv => arg 1; simp [s1, s3, s32, s33, b2, hlt2, ltS, nm_ne])); with_reducible refine evp ?_)
       | ((with_reducible refine apn ?na ?_); (case na => simp [appNames, ints, intss] <;> first | kernel_rfl | (refine ⟨?_, ?_⟩ <;> kernel_rfl)))
       | fail)
      refine dr_bool ?_
      simp only [graphOk, hk, ha2, Bool.true_and, Bool.and_true]
      rw [Bool.eq_iff_iff]
      simp
      omega
end Go.Proofs.Ytlmlkkkgcbpaoaa.AM

/-
  Blocks that fall through: how many.
-/
set_option linter.unusedVariables false
set_option linter.unusedSimpArgs false
set_option maxRecDepth 4000
namespace Go.Proofs.Ytlmlkkkgcbpaoaa.AM
open Go.RowKit

private def MG13 : FuncId → Mode := fun f => .tree

def isFall (b : Block) (i : Nat) : Bool := !decide (b.Jump = 2) && decide (b.To = (i : Int) + 1)
def fallsN (l : List Block) : Nat → Nat
  | 0 => 0
  | i + 1 => fallsN l i + (if ((l[i]?).map fun b => isFall b i) = some true then 1 else 0)
theorem fallsN_le (l : List Block) : ∀ i, fallsN l i ≤ i
  | 0 => Nat.le_refl _
  | i + 1 => by
    have := fallsN_le l i
    unfold fallsN
    split <;> omega
def falls (g : Graph) : Int := if graphOk g = true then fallsN g.Blocks g.Blocks.length else -1

set_option maxHeartbeats 2000000 in
theorem specFalls (g : Graph) (d : g.Small) : Pure Try.prog 12 [.agg (g.cells true)] (.int .i64 (falls g)) := by
  intro T
  have d2 := d.len
  have G := graphOkSpec g d.fit
  refine enter mixed MG13 Try.func12 rfl (by kernel_rfl) rfl ?_
  repeat' (first
   | with_reducible refine stp ?_
   | with_reducible refine k_blk_o rfl ?_
   | ((try (conv => arg 1; simp [Graph.cells])); with_reducible refine evp ?_)
   | ((with_reducible refine apn ?na ?_); (case na => simp [appNames, ints, intss] <;> first | kernel_rfl | (refine ⟨?_, ?_⟩ <;> kernel_rfl)))
   | fail)
  refine cx_k (Cx.mt.next.box_one (T := T) (i := 0) Cx.mt.off (by simp)) ?_
  intro h1 x1
  have b1 := x1.bxs
  simp only [Bxs] at b1
  cases hk : graphOk g with
  | false =>
    rw [hk] at G
    repeat' (first
     | with_reducible refine stp ?_
     | with_reducible refine k_blk_o rfl ?_
     | with_reducible refine k_seq_n ?_
     | ((try (conv => arg 1; simp [b1])); with_reducible refine evp ?_)
     | ((with_reducible refine apn ?na ?_); (case na => simp [appNames, ints, intss] <;> first | kernel_rfl | (refine ⟨?_, ?_⟩ <;> kernel_rfl)))
     | ((with_reducible refine tcl ?_); first | ((apply tg (G)); (case e => rfl); (case d => (refine dq ?_); (repeat' (first | ((refine Da.mk ?_); first | exact dr_blocks (by simp) _ | assumption) | constructor)))))
     | fail)
    rw [show falls g = -1 by simp [falls, hk]]
    exact .int _ _
  | true =>
    rw [hk] at G
    repeat' (first
     | with_reducible refine stp ?_
     | with_reducible refine k_blk_o rfl ?_
     | with_reducible refine k_seq_n ?_
     | ((try (conv => arg 1; simp [b1])); with_reducible refine evp ?_)
     | ((with_reducible refine apn ?na ?_); (case na => simp [appNames, ints, intss] <;> first | kernel_rfl | (refine ⟨?_, ?_⟩ <;> kernel_rfl)))
     | ((with_reducible refine tcl ?_); first | ((apply tg (G)); (case e => rfl); (case d => (refine dq ?_); (repeat' (first | ((refine Da.mk ?_); first | exact dr_blocks (by simp) _ | assumption) | constructor)))))
     | fail)
    refine st_loop (fun (i : Nat) σ h => i ≤ g.Blocks.length ∧ σ 1 = .ptr (T, 0, 0) 0 0 0 ∧ σ 3 = .int .i64 (fallsN g.Blocks i) ∧ σ 4 = .int .i64 i ∧ Cx h [((T, 0, 0), graphRow g)] []) (fun i => g.Blocks.length - i) 0 ?init ?step
    case init => exact ⟨Nat.zero_le _, by simp, by simp [fallsN], by simp, Cx.to x1⟩
    case step =>
      rintro i σ h ⟨hi, s1, s3, s4, x⟩
      have b2 := x.bxs
      simp only [Bxs, graphRow] at b2
      have hf := fallsN_le g.Blocks i
      by_cases hlt : i < g.Blocks.length
      · have hlt2 : (i : Int) < g.Blocks.length := by omega
        have hx : g.Blocks[i]? = some g.Blocks[i] := by simp
        have hlen := block_len true g.Blocks[i]
        have hw : IntKind.i64.wrap (i + 1) = i + 1 := wrap_id (by omega) (by omega)
        have hw2 : IntKind.i64.wrap ((fallsN g.Blocks i : Int) + 1) = fallsN g.Blocks i + 1 := wrap_id (by omega) (by omega)
        by_cases hj : g.Blocks[i].Jump = 2
        · skip
          repeat' (first
           | with_reducible refine stp ?_
           | with_reducible refine k_blk_o rfl ?_
           | with_reducible refine k_seq_n ?_
           | ((try (conv => arg 1; simp [s1, s3, s4, b2, hlt2, hx, hlen, hj, blocks, Block.cells, hw, ltS, nm_ne])); with_reducible refine evp ?_)
           | ((with_reducible refine apn ?na ?_); (case na => simp [appNames, ints, intss] <;> first | kernel_rfl | (refine ⟨?_, ?_⟩ <;> kernel_rfl)))
           | fail)
          refine k_lp_n (i + 1) (by omega) ⟨by omega, by simp [s1], by simp [s3, fallsN, hx, isFall, hj], by simp, Cx.to x⟩
        · by_cases ht : g.Blocks[i].To = (i : Int) + 1
          · skip
            repeat' (first
             | with_reducible refine stp ?_
             | with_reducible refine k_blk_o rfl ?_
             | with_reducible refine k_seq_n ?_
             | ((try (conv => arg 1; simp [s1, s3, s4, b2, hlt2, hx, hlen, hj, ht, blocks, Block.cells, hw, hw2, ltS, nm_ne])); with_reducible refine evp ?_)
             | ((with_reducible refine apn ?na ?_); (case na => simp [appNames, ints, intss] <;> first | kernel_rfl | (refine ⟨?_, ?_⟩ <;> kernel_rfl)))
             | fail)
            refine k_lp_n (i + 1) (by omega) ⟨by omega, by simp [s1], by simp [fallsN, hx, isFall, hj, ht], by simp, Cx.to x⟩
          · skip
            repeat' (first
             | with_reducible refine stp ?_
             | with_reducible refine k_blk_o rfl ?_
             | with_reducible refine k_seq_n ?_
             | ((try (conv => arg 1; simp [s1, s3, s4, b2, hlt2, hx, hlen, hj, ht, blocks, Block.cells, hw, ltS, nm_ne])); with_reducible refine evp ?_)
             | ((with_reducible refine apn ?na ?_); (case na => simp [appNames, ints, intss] <;> first | kernel_rfl | (refine ⟨?_, ?_⟩ <;> kernel_rfl)))
             | fail)
            refine k_lp_n (i + 1) (by omega) ⟨by omega, by simp [s1], by simp [s3, fallsN, hx, isFall, hj, ht], by simp, Cx.to x⟩
      · have hlt2 : ¬ (i : Int) < g.Blocks.length := by omega
        have hi2 : i = g.Blocks.length := by omega
        rw [hi2] at s3
        repeat' (first
         | with_reducible refine stp ?_
         | with_reducible refine k_blk_o rfl ?_
         | with_reducible refine k_seq_n ?_
         | ((try (conv => arg 1; simp [s1, s3, s4, b2, hlt2, ltS, nm_ne])); with_reducible refine evp ?_)
         | ((with_reducible refine apn ?na ?_); (case na => simp [appNames, ints, intss] <;> first | kernel_rfl | (refine ⟨?_, ?_⟩ <;> kernel_rfl)))
         | fail)
        rw [show falls g = fallsN g.Blocks g.Blocks.length by simp [falls, hk]]
        exact .int _ _

set_option maxHeartbeats 2000000 in
theorem implFalls (g : Graph) (d : g.Small) : Pure Try.prog 14 [.agg (g.cells true)] (.int .i64 (falls g)) := by
  intro T
  have d2 := d.len
  have G := isGraph g d
  refine enter mixed MG13 Try.func14 rfl (by kernel_rfl) rfl ?_
  repeat' (first
   | with_reducible refine stp ?_
   | with_reducible refine k_blk_o rfl ?_
   | ((try (conv => arg 1; simp [Graph.cells])); with_reducible refine evp ?_)
   | ((with_reducible refine apn ?na ?_); (case na => simp [appNames, ints, intss] <;> first | kernel_rfl | (refine ⟨?_, ?_⟩ <;> kernel_rfl)))
   | fail)
  refine cx_k (Cx.mt.next.box_one (T := T) (i := 0) Cx.mt.off (by simp)) ?_
  intro h1 x1
  have b1 := x1.bxs
  simp only [Bxs] at b1
  cases hk : graphOk g with
  | false =>
    rw [hk] at G
    repeat' (first
     | with_reducible refine stp ?_
     | with_reducible refine k_blk_o rfl ?_
     | with_reducible refine k_seq_n ?_
     | ((try (conv => arg 1; simp [b1])); with_reducible refine evp ?_)
     | ((with_reducible refine apn ?na ?_); (case na => simp [appNames, ints, intss] <;> first | kernel_rfl | (refine ⟨?_, ?_⟩ <;> kernel_rfl)))
     | ((with_reducible refine tcl ?_); first | ((apply tg (G)); (case e => rfl); (case d => (refine dq ?_); (repeat' (first | ((refine Da.mk ?_); first | exact dr_blocks (by simp) _ | assumption) | constructor)))))
     | fail)
    rw [show falls g = -1 by simp [falls, hk]]
    exact .int _ _
  | true =>
    rw [hk] at G
    repeat' (first
     | with_reducible refine stp ?_
     | with_reducible refine k_blk_o rfl ?_
     | with_reducible refine k_seq_n ?_
     | ((try (conv => arg 1; simp [b1])); with_reducible refine evp ?_)
     | ((with_reducible refine apn ?na ?_); (case na => simp [appNames, ints, intss] <;> first | kernel_rfl | (refine ⟨?_, ?_⟩ <;> kernel_rfl)))
     | ((with_reducible refine tcl ?_); first | ((apply tg (G)); (case e => rfl); (case d => (refine dq ?_); (repeat' (first | ((refine Da.mk ?_); first | exact dr_blocks (by simp) _ | assumption) | constructor)))))
     | fail)
    refine st_loop (fun (i : Nat) σ h => i ≤ g.Blocks.length ∧ σ 10 = blocks true g.Blocks ∧ σ 11 = .int .i64 g.Blocks.length ∧ σ 3 = .int .i64 (fallsN g.Blocks i) ∧ σ 12 = .int .i64 i) (fun i => g.Blocks.length - i) 0 ?init ?step
    case init => exact ⟨Nat.zero_le _, by simp, by simp, by simp [fallsN], by simp⟩
    case step =>
      rintro i σ h ⟨hi, s10, s11, s3, s12⟩
      have hf := fallsN_le g.Blocks i
      by_cases hlt : i < g.Blocks.length
      · have hlt2 : (i : Int) < g.Blocks.length := by omega
        have hx : g.Blocks[i]? = some g.Blocks[i] := by simp
        have hlen := block_len true g.Blocks[i]
        have hw : IntKind.i64.wrap (i + 1) = i + 1 := wrap_id (by omega) (by omega)
        have hw2 : IntKind.i64.wrap ((fallsN g.Blocks i : Int) + 1) = fallsN g.Blocks i + 1 := wrap_id (by omega) (by omega)
        by_cases hj : g.Blocks[i].Jump = 2
        · skip
          repeat' (first
           | with_reducible refine stp ?_
           | with_reducible refine k_blk_o rfl ?_
           | with_reducible refine k_seq_n ?_
           | ((try (conv => arg 1; simp [s10, s11, s3, s12, hlt2, hx, hlen, hj, blocks, Block.cells, hw, ltS, nm_ne])); with_reducible refine evp ?_)
           | ((with_reducible refine apn ?na ?_); (case na => simp [appNames, ints, intss] <;> first | kernel_rfl | (refine ⟨?_, ?_⟩ <;> kernel_rfl)))
           | fail)
          refine k_lp_n (i + 1) (by omega) ⟨by omega, by simp [s10], by simp [s11], by simp [s3, fallsN, hx, isFall, hj], by simp⟩
        · by_cases ht : g.Blocks[i].To = (i : Int) + 1
          · skip
            repeat' (first
             | with_reducible refine stp ?_
             | with_reducible refine k_blk_o rfl ?_
             | with_reducible refine k_seq_n ?_
             | ((try (conv => arg 1; simp [s10, s11, s3, s12, hlt2, hx, hlen, hj, ht, blocks, Block.cells, hw, hw2, ltS, nm_ne])); with_reducible refine evp ?_)
             | ((with_reducible refine apn ?na ?_); (case na => simp [appNames, ints, intss] <;> first | kernel_rfl | (refine ⟨?_, ?_⟩ <;> kernel_rfl)))
             | fail)
            refine k_lp_n (i + 1) (by omega) ⟨by omega, by simp [s10], by simp [s11], by simp [fallsN, hx, isFall, hj, ht], by simp⟩
          · skip
            repeat' (first
             | with_reducible refine stp ?_
             | with_reducible refine k_blk_o rfl ?_
             | with_reducible refine k_seq_n ?_
             | ((try (conv => arg 1; simp [s10, s11, s3, s12, hlt2, hx, hlen, hj, ht, blocks, Block.cells, hw, ltS, nm_ne])); with_reducible refine evp ?_)
             | ((with_reducible refine apn ?na ?_); (case na => simp [appNames, ints, intss] <;> first | kernel_rfl | (refine ⟨?_, ?_⟩ <;> kernel_rfl)))
             | fail)
            refine k_lp_n (i + 1) (by omega) ⟨by omega, by simp [s10], by simp [s11], by simp [s3, fallsN, hx, isFall, hj, ht], by simp⟩
      · have hlt2 : ¬ (i : Int) < g.Blocks.length := by omega
        have hi2 : i = g.Blocks.length := by omega
        rw [hi2] at s3
        repeat' (first
         | with_reducible refine stp ?_
         | with_reducible refine k_blk_o rfl ?_
         | with_reducible refine k_seq_n ?_
         | ((try (conv => arg 1; simp [s3, s11, s12, hlt2])); with_reducible refine evp ?_)
         | ((with_reducible refine apn ?na ?_); (case na => simp [appNames, ints, intss] <;> first | kernel_rfl | (refine ⟨?_, ?_⟩ <;> kernel_rfl)))
         | fail)
        rw [show falls g = fallsN g.Blocks g.Blocks.length by simp [falls, hk]]
        exact .int _ _
end Go.Proofs.Ytlmlkkkgcbpaoaa.AM

/-
  Graphs as the laws' arguments.
-/
set_option linter.unusedVariables false
set_option linter.unusedSimpArgs false
set_option maxRecDepth 4000
namespace Go.Proofs.Ytlmlkkkgcbpaoaa.AM
open Go.RowKit

theorem drs_graphL {c b : Bool} {rows : Nm → Option Row} (g : Graph) (hb : b = true → c = true) : DRs c rows (g.cells b) (g.cells c) := drs_graph hb g
theorem shp_instr {cells : List AV} (h : Shp Try.prog 156 cells) : ∃ x : Instr, cells = x.cells ∧ x.Text.size ≤ maxLen := by
  have hs : stTys Try.prog 156 = some [3, 3, 3, 3, 3, 3, 9] := by kernel_rfl
  obtain ⟨p0, q0, rfl, s0, p1, q1, rfl, s1, p2, q2, rfl, s2, p3, q3, rfl, s3, p4, q4, rfl, s4, p5, q5, rfl, s5, p6, q6, rfl, s6, rfl⟩ := h.st_inv hs
  obtain ⟨a0, rfl, g0⟩ := s0.int_inv und_3
  obtain ⟨a1, rfl, g1⟩ := s1.int_inv und_3
  obtain ⟨a2, rfl, g2⟩ := s2.int_inv und_3
  obtain ⟨a3, rfl, g3⟩ := s3.int_inv und_3
  obtain ⟨a4, rfl, g4⟩ := s4.int_inv und_3
  obtain ⟨a5, rfl, g5⟩ := s5.int_inv und_3
  obtain ⟨a6, rfl, g6⟩ := s6.str_inv und_9
  exact ⟨⟨a0, a1, a2, a3, a4, a5, a6⟩, rfl, g6⟩
theorem shp_block {cells : List AV} (h : Shp Try.prog 80 cells) : ∃ x : Block, cells = x.cells true ∧ (x.Code.length ≤ maxLen ∧ ∀ y ∈ x.Code, y.Text.size ≤ maxLen) := by
  have hs : stTys Try.prog 80 = some [78, 3, 3, 3, 3] := by kernel_rfl
  obtain ⟨p0, q0, rfl, s0, p1, q1, rfl, s1, p2, q2, rfl, s2, p3, q3, rfl, s3, p4, q4, rfl, s4, rfl⟩ := h.st_inv hs
  obtain ⟨elems, rfl, g0, g0'⟩ := s0.sl_inv und_78
  obtain ⟨a1, rfl, g1⟩ := s1.int_inv und_3
  obtain ⟨a2, rfl, g2⟩ := s2.int_inv und_3
  obtain ⟨a3, rfl, g3⟩ := s3.int_inv und_3
  obtain ⟨a4, rfl, g4⟩ := s4.int_inv und_3
  obtain ⟨ws, rfl, gw⟩ := unmap Instr.cells (fun w => w.Text.size ≤ maxLen) elems fun y hy => shp_instr (g0' y hy)
  exact ⟨⟨ws, a1, a2, a3, a4⟩, rfl, by simpa using g0, gw⟩
theorem shp_graph {cells : List AV} (h : Shp Try.prog 25 cells) : ∃ g : Graph, cells = g.cells true ∧ g.Data := by
  have hs : stTys Try.prog 25 = some [22, 3, 3, 3, 23] := by kernel_rfl
  obtain ⟨p0, q0, rfl, s0, p1, q1, rfl, s1, p2, q2, rfl, s2, p3, q3, rfl, s3, p4, q4, rfl, s4, rfl⟩ := h.st_inv hs
  obtain ⟨a0, rfl, g0, g0'⟩ := s0.ints_inv und_22 und_3
  obtain ⟨a1, rfl, g1⟩ := s1.int_inv und_3
  obtain ⟨a2, rfl, g2⟩ := s2.int_inv und_3
  obtain ⟨a3, rfl, g3⟩ := s3.int_inv und_3
  obtain ⟨elems, rfl, g4, g4'⟩ := s4.sl_inv und_23
  obtain ⟨ws, rfl, gw⟩ := unmap (Block.cells true) (fun x => x.Code.length ≤ maxLen ∧ ∀ y ∈ x.Code, y.Text.size ≤ maxLen) elems fun y hy => shp_block (g4' y hy)
  exact ⟨⟨a0, a1, a2, a3, ws⟩, rfl, ⟨g0, by simpa using g4, gw⟩⟩
theorem agg_graph (cells : List AV) : avOf Try.prog 25 cells = .agg cells := agg_of (by kernel_rfl) cells
theorem av3 (c : AV) : avOf Try.prog 3 [c] = c := av_oneX und_3 rfl c
theorem av22 (c : AV) : avOf Try.prog 22 [c] = c := av_oneX und_22 rfl c
end Go.Proofs.Ytlmlkkkgcbpaoaa.AM

/-
  Falls: what its law needs.
-/

/-
  Texts and steps that are marked.
-/
set_option linter.unusedVariables false
set_option linter.unusedSimpArgs false
set_option maxRecDepth 4000
namespace Go.Proofs.Ytlmlkkkgcbpaoaa.AM
open Go.RowKit

private def MG7 : FuncId → Mode := fun f => .tree

def mb (k : Nat) : Int := IntKind.u8.wrap (IntKind.i64.wrap (48 + ((k : Int).tmod 10)))
def mdig (k : Nat) (out : ByteArray) : ByteArray := if h : k = 0 then out else mdig (k / 10) (bstr [mb k] ++ out)
termination_by k
decreasing_by omega
def mtext (k : Int) : ByteArray := if k ≤ 0 then ⟨#[109, 48]⟩ else ⟨#[109]⟩ ++ mdig k.toNat ⟨#[]⟩
theorem bstr1 (n : Int) : (bstr [n]).size = 1 := rfl
theorem max64 : IntKind.i64.max = 9223372036854775807 := by kernel_rfl
theorem rg1 : List.range 1 = [0] := rfl
theorem sz109 : (ByteArray.mk #[109]).size = 1 := rfl
theorem mdig_zero (out : ByteArray) : mdig 0 out = out := by rw [mdig]; simp
theorem mdig_succ {k : Nat} (h : k ≠ 0) (out : ByteArray) : mdig k out = mdig (k / 10) (bstr [mb k] ++ out) := by
  rw [mdig, dif_neg h]

theorem markText (k : Int) (hk : k ≤ 2 ^ 62) : Pure Try.prog 117 [.int .i64 k] (.str (mtext k)) := by
  intro T
  refine enter mixed MG7 Try.func117 rfl (by kernel_rfl) rfl ?_
  by_cases h0 : k ≤ 0
  · skip
    repeat' (first
     | with_reducible refine stp ?_
     | with_reducible refine k_blk_o rfl ?_
     | with_reducible refine k_seq_n ?_
     | ((try (conv => arg 1; simp [h0])); with_reducible refine evp ?_)
     | ((with_reducible refine apn ?na ?_); (case na => simp [appNames, ints, intss] <;> first | kernel_rfl | (refine ⟨?_, ?_⟩ <;> kernel_rfl)))
     | fail)
    rw [show mtext k = ⟨#[109, 48]⟩ by simp [mtext, h0]]
    exact .str _
  obtain ⟨n, rfl⟩ : ∃ n : Nat, k = (n : Int) := ⟨k.toNat, by omega⟩
  have hn0 : ¬ n = 0 := by omega
  repeat' (first
   | with_reducible refine stp ?_
   | with_reducible refine k_blk_o rfl ?_
   | with_reducible refine k_seq_n ?_
   | ((try (conv => arg 1; simp [h0, hn0])); with_reducible refine evp ?_)
   | ((with_reducible refine apn ?na ?_); (case na => simp [appNames, ints, intss] <;> first | kernel_rfl | (refine ⟨?_, ?_⟩ <;> kernel_rfl)))
   | fail)
  refine st_loop (fun (k : Nat) σ h => σ 0 = .int .i64 k ∧ ∃ out, σ 3 = .str out ∧ out.size + k ≤ n ∧ mdig k out = mdig n ⟨#[]⟩) (fun k => k) n ?init ?step
  case init => exact ⟨by simp, ⟨#[]⟩, by simp, by simp [ByteArray.size], rfl⟩
  case step =>
    rintro k σ h ⟨s0, out, s3, hsz, hd⟩
    by_cases hk0 : k = 0
    · have hk1 : ¬ (0 : Int) < k := by omega
      have hs1 : ¬ (9223372036854775807 : Int) < 1 + out.size := by omega
      repeat' (first
       | with_reducible refine stp ?_
       | with_reducible refine k_blk_o rfl ?_
       | with_reducible refine k_seq_n ?_
       | ((try (conv => arg 1; simp [s0, s3, hk0, hk1, max64, sz109, hs1])); with_reducible refine evp ?_)
       | ((with_reducible refine apn ?na ?_); (case na => simp [appNames, ints, intss] <;> first | kernel_rfl | (refine ⟨?_, ?_⟩ <;> kernel_rfl)))
       | fail)
      rw [hk0, mdig_zero] at hd
      have e : mtext (n : Int) = ⟨#[109]⟩ ++ out := by rw [hd]; simp only [mtext, if_neg h0, Int.toNat_natCast]
      rw [e]
      exact .str _
    · have hk1 : (0 : Int) < k := by omega
      have hs1 : ¬ (9223372036854775807 : Int) < 1 + out.size := by omega
      have hq : IntKind.i64.wrap ((k : Int).tdiv 10) = ((k / 10 : Nat) : Int) := by
        rw [show (k : Int).tdiv 10 = ((k / 10 : Nat) : Int) from rfl, wrap_id (by omega) (by omega)]
      have hq2 : IntKind.i64.wrap ((k : Int) / 10) = (k : Int) / 10 := wrap_id (by omega) (by omega)
      have hmb : IntKind.u8.wrap (IntKind.i64.wrap (48 + ((k : Int).tmod 10))) = mb k := rfl
      have hkp : 0 < k := by omega
      repeat' (first
       | with_reducible refine stp ?_
       | with_reducible refine k_blk_o rfl ?_
       | with_reducible refine k_seq_n ?_
       | ((try (conv => arg 1; simp [s0, s3, hk0, hk1, hkp, max64, bstr1, hs1, hq, hq2, hmb, rg1, convA, bstrA, srcElems, bytesOf])); with_reducible refine evp ?_)
       | ((with_reducible refine apn ?na ?_); (case na => simp [appNames, ints, intss] <;> first | kernel_rfl | (refine ⟨?_, ?_⟩ <;> kernel_rfl)))
       | fail)
      refine k_lp_n (k / 10) (by omega) ⟨by simp [hq2], bstr [mb k] ++ out, by simp, ?_, ?_⟩
      · rw [ByteArray.size_append, bstr1]
        omega
      · rw [← hd, mdig_succ hk0]

def minstrs (k : Int) (n : Nat) : List Instr := (List.range n).map fun (i : Nat) => ⟨k + 7 * i, k + 7 * i + 1, k + 7 * i + 1 + 1, k + 7 * i + 1 + 1 + 1, k + 7 * i + 1 + 1 + 1 + 1, k + 7 * i + 1 + 1 + 1 + 1 + 1, mtext (k + 7 * i + 1 + 1 + 1 + 1 + 1 + 1)⟩
theorem minstrs_length (k : Int) (n : Nat) : (minstrs k n).length = n := by simp [minstrs]
theorem minstrs_get {k : Int} {n i : Nat} (h : i < n) : (minstrs k n)[i]? = some ⟨k + 7 * i, k + 7 * i + 1, k + 7 * i + 1 + 1, k + 7 * i + 1 + 1 + 1, k + 7 * i + 1 + 1 + 1 + 1, k + 7 * i + 1 + 1 + 1 + 1 + 1, mtext (k + 7 * i + 1 + 1 + 1 + 1 + 1 + 1)⟩ := by simp [minstrs, h]
theorem own_empty {rows : Nm → Option Row} {a : AV} {ns : List Nm} (h : Own rows true [a] [.tr true []] ns) : a = .nilsl ∨ ∃ n ver off, a = .sl n ver off 0 := by
  rcases own_row_inv (xs := []) (s := 2) (fun e he => by simp at he) (by omega) h with ⟨_, _, h | ⟨n, ver, off, h, _⟩⟩ | ⟨n, ver, sp, h, _⟩
  · exact .inl h.1
  · exact .inr ⟨n, ver, off, h⟩
  · exact .inr ⟨n, ver, 0, h⟩

set_option maxHeartbeats 4000000 in
theorem markInstrS {h : Hp} {bs : Bx} {os : Ox} {w : AV} {xs : List Instr} {ns : List Nm} (x : Cx h bs ((w, (fun b => instrs b xs), ns) :: os)) (k : Int) (hk : 0 ≤ k) (hl : k + 7 * xs.length ≤ 2 ^ 62) :
    Sound Try.prog 77 [w, .int .i64 k] h fun v h' => v = .int .i64 (k + 7 * xs.length) ∧ Cx h' bs ((w, (fun b => instrs b (minstrs k xs.length)), ns) :: os) := by
  by_cases hne : xs = []
  · subst hne
    have hw := own_empty (own_of (x.o0 true) rfl)
    refine enter mixed MG7 Try.func77 rfl (by kernel_rfl) rfl ?_
    repeat' (first
     | with_reducible refine stp ?_
     | with_reducible refine k_blk_o rfl ?_
     | with_reducible refine k_seq_n ?_
     | ((try (conv => arg 1; simp [hk])); with_reducible refine evp ?_)
     | ((with_reducible refine apn ?na ?_); (case na => simp [appNames, ints, intss] <;> first | kernel_rfl | (refine ⟨?_, ?_⟩ <;> kernel_rfl)))
     | fail)
    refine st_loop (fun (i : Nat) σ h' => σ 0 = w ∧ σ 1 = .int .i64 k ∧ σ 5 = .int .i64 0 ∧ Cx h' bs ((w, (fun b => instrs b []), ns) :: os)) (fun i => 0) 0 ?init ?step
    case init => exact ⟨by simp, by simp, by simp, Cx.to x⟩
    case step =>
      rintro i σ h' ⟨h0, h1, h5, x'⟩
      rcases hw with rfl | ⟨n, ver, off, rfl⟩
      all_goals
        repeat' (first
         | with_reducible refine stp ?_
         | with_reducible refine k_blk_o rfl ?_
         | with_reducible refine k_seq_n ?_
         | ((try (conv => arg 1; simp [h0, h1, h5])); with_reducible refine evp ?_)
         | ((with_reducible refine apn ?na ?_); (case na => simp [appNames, ints, intss] <;> first | kernel_rfl | (refine ⟨?_, ?_⟩ <;> kernel_rfl)))
         | fail)
        exact ⟨by simp [resV], Cx.to x'⟩
  · obtain ⟨kk, ver, sp, rfl, rfl, q1, q2, y⟩ := x.open_flat (s := 7) (l := xs.map Instr.cells) (instrs_flat xs) (by omega) (by simpa using hne)
    rw [List.length_map]
    refine enter mixed MG7 Try.func77 rfl (by kernel_rfl) rfl ?_
    repeat' (first
     | with_reducible refine stp ?_
     | with_reducible refine k_blk_o rfl ?_
     | with_reducible refine k_seq_n ?_
     | ((try (conv => arg 1; simp [hk])); with_reducible refine evp ?_)
     | ((with_reducible refine apn ?na ?_); (case na => simp [appNames, ints, intss] <;> first | kernel_rfl | (refine ⟨?_, ?_⟩ <;> kernel_rfl)))
     | fail)
    refine st_loop (fun (i : Nat) σ h' => i ≤ xs.length ∧ σ 0 = .sl kk ver 0 xs.length ∧ σ 1 = .int .i64 (k + 7 * i) ∧ σ 5 = .int .i64 i ∧ ∃ ys : List Instr, ys.length = xs.length ∧ ys.take i = (minstrs k xs.length).take i ∧
      Cx h' ((kk, ⟨ver, 7, ys.map Instr.cells ++ sp⟩) :: bs) os) (fun i => xs.length - i) 0 ?init ?step
    case init => exact ⟨Nat.zero_le _, by simp, by simp, by simp, xs, rfl, rfl, Cx.to y⟩
    case step =>
      rintro i σ h' ⟨hi, h0, h1, h5, ys, hy, hyi, x'⟩
      have b := x'.bxs
      simp only [Bxs] at b
      have br := b.1
      have bt := b.2.1
      by_cases hlt : i < xs.length
      · have hlt2 : (i : Int) < xs.length := by omega
        have hl4 : i < ys.length := by omega
        have hes2 : ∀ e : Instr, (ys.map Instr.cells ++ sp).set i e.cells = (ys.set i e).map Instr.cells ++ sp := fun e => by
          rw [List.set_append_left _ _ (by simp; omega), List.map_set]
        obtain ⟨y1, y2, y3, y4, y5, y6, y7, hy2⟩ : ∃ (y1 y2 y3 y4 y5 y6 : Int) (y7 : ByteArray), ((ys.map Instr.cells) ++ sp)[i]? = some [.int .i64 y1, .int .i64 y2, .int .i64 y3, .int .i64 y4, .int .i64 y5, .int .i64 y6, .str y7] := by
          rw [List.getElem?_append_left (by simp; omega)]
          exact ⟨ys[i].Op, ys[i].D, ys[i].A, ys[i].B, ys[i].C, ys[i].N, ys[i].Text, by simp [hlt, hy, Instr.cells]⟩
        have hw : IntKind.i64.wrap (i + 1) = i + 1 := wrap_id (by omega) (by omega)
        have w1 : IntKind.i64.wrap (k + 7 * i + 1) = k + 7 * i + 1 := wrap_id (by omega) (by omega)
        have w2 : IntKind.i64.wrap (k + 7 * i + 1 + 1) = k + 7 * i + 1 + 1 := wrap_id (by omega) (by omega)
        have w3 : IntKind.i64.wrap (k + 7 * i + 1 + 1 + 1) = k + 7 * i + 1 + 1 + 1 := wrap_id (by omega) (by omega)
        have w4 : IntKind.i64.wrap (k + 7 * i + 1 + 1 + 1 + 1) = k + 7 * i + 1 + 1 + 1 + 1 := wrap_id (by omega) (by omega)
        have w5 : IntKind.i64.wrap (k + 7 * i + 1 + 1 + 1 + 1 + 1) = k + 7 * i + 1 + 1 + 1 + 1 + 1 := wrap_id (by omega) (by omega)
        have w6 : IntKind.i64.wrap (k + 7 * i + 1 + 1 + 1 + 1 + 1 + 1) = k + 7 * i + 1 + 1 + 1 + 1 + 1 + 1 := wrap_id (by omega) (by omega)
        have w7 : IntKind.i64.wrap (k + 7 * i + 1 + 1 + 1 + 1 + 1 + 1 + 1) = k + 7 * i + 1 + 1 + 1 + 1 + 1 + 1 + 1 := wrap_id (by omega) (by omega)
        have mt := markText (k + 7 * i + 1 + 1 + 1 + 1 + 1 + 1) (by omega)
        have hes2 := hes2 ⟨k + 7 * i, k + 7 * i + 1, k + 7 * i + 1 + 1, k + 7 * i + 1 + 1 + 1, k + 7 * i + 1 + 1 + 1 + 1, k + 7 * i + 1 + 1 + 1 + 1 + 1, mtext (k + 7 * i + 1 + 1 + 1 + 1 + 1 + 1)⟩
        have hlen : i < ((ys.map Instr.cells) ++ sp).length := by simp; omega
        generalize (ys.map Instr.cells) ++ sp = es at x' br hy2 hes2 hlen
        have hset : ∀ e, (es.set i e)[i]? = some e := fun e => List.getElem?_set_self hlen
        clear b
        repeat' (first
         | with_reducible refine stp ?_
         | with_reducible refine k_blk_o rfl ?_
         | with_reducible refine k_seq_n ?_
         | ((try (conv => arg 1; simp [h0, h1, h5, br, bt, hlt, hlt2, hy2, hset, hw, w1, w2, w3, w4, w5, w6, w7, ltS, nm_ne])); with_reducible refine evp ?_)
         | ((with_reducible refine apn ?na ?_); (case na => simp [appNames, ints, intss] <;> first | kernel_rfl | (refine ⟨?_, ?_⟩ <;> kernel_rfl)))
         | ((with_reducible refine tcl ?_); first | ((apply tg (mt)); (case e => rfl); (case d => (refine dq ?_); (repeat' (first | ((refine Da.mk ?_); first | assumption) | constructor)))))
         | fail)
        refine k_lp_n (i + 1) (by omega) ⟨by omega, by simp [h0], by simp; omega, by simp, ys.set i ⟨k + 7 * i, k + 7 * i + 1, k + 7 * i + 1 + 1, k + 7 * i + 1 + 1 + 1, k + 7 * i + 1 + 1 + 1 + 1, k + 7 * i + 1 + 1 + 1 + 1 + 1, mtext (k + 7 * i + 1 + 1 + 1 + 1 + 1 + 1)⟩, by simp [hy], ?_, ?_⟩
        · rw [List.take_add_one, List.take_add_one, minstrs_get hlt]
          simp [hyi, hy, hlt, List.take_set_of_le]
        · rw [← hes2]
          exact Cx.to x'
      · have hge : i = xs.length := by omega
        have hlt2 : ¬ (i : Int) < xs.length := by omega
        have e1 : ys = minstrs k xs.length := by
          subst hge
          rw [List.take_of_length_le (by omega), List.take_of_length_le (by simp [minstrs_length])] at hyi
          exact hyi
        repeat' (first
         | with_reducible refine stp ?_
         | with_reducible refine k_blk_o rfl ?_
         | with_reducible refine k_seq_n ?_
         | ((try (conv => arg 1; simp [h0, h1, h5, hlt2])); with_reducible refine evp ?_)
         | ((with_reducible refine apn ?na ?_); (case na => simp [appNames, ints, intss] <;> first | kernel_rfl | (refine ⟨?_, ?_⟩ <;> kernel_rfl)))
         | fail)
        rw [e1] at x'
        have z := x'.close_flat (instrs_flat _) q1 q2
        rw [List.length_map, minstrs_length] at z
        exact ⟨by simp [resV, hge], Cx.to z⟩
end Go.Proofs.Ytlmlkkkgcbpaoaa.AM

/-
  Blocks and graphs that are marked.
-/
set_option linter.unusedVariables false
set_option linter.unusedSimpArgs false
set_option maxRecDepth 4000
namespace Go.Proofs.Ytlmlkkkgcbpaoaa.AM
open Go.RowKit

private def MG16 : FuncId → Mode := fun f => if f = 77 ∨ f = 44 ∨ f = 21 then .heap else .tree

theorem Cx.block_split {h : Hp} {bs : Bx} {os : Ox} {l : List AV} {n : List Nm} {c : Block} (x : Cx h bs ((.agg l, (fun b => .agg (c.cells b)), n) :: os)) :
    ∃ w, l = [w, .int .i64 c.Jump, .int .i64 c.A, .int .i64 c.To, .int .i64 c.Else] ∧ Cx h bs ((w, (fun b => instrs b c.Code), n) :: os) := by
  obtain ⟨w, e, o⟩ := ownV_block (x.o0 true)
  cases e
  refine ⟨w, rfl, x.box, fun y hy b => ?_, x.nd, x.lt⟩
  simp only [List.mem_cons] at hy
  rcases hy with rfl | hy
  · obtain ⟨w', e', o'⟩ := ownV_block (x.o0 b)
    cases e'
    exact .one o'
  · exact x.own y (by simp [hy]) b
theorem Cx.graph_split {h : Hp} {bs : Bx} {os : Ox} {l : List AV} {n : List Nm} {g : Graph} (x : Cx h bs ((.agg l, (fun b => .agg (g.cells b)), n) :: os)) :
    ∃ w1 w2 n1 n2, l = [w1, .int .i64 g.Params, .int .i64 g.Vars, .int .i64 g.Slots, w2] ∧ n = n1 ++ n2 ∧ Cx h bs ((w1, (fun b => ints b g.Sizes), n1) :: (w2, (fun b => blocks b g.Blocks), n2) :: os) := by
  obtain ⟨w1, w2, n1, n2, e, en, o1, o2⟩ := ownV_graph (x.o0 true)
  cases e
  subst en
  refine ⟨w1, w2, n1, n2, rfl, rfl, x.box, fun y hy b => ?_, ?_, fun m hm => x.lt m ?_⟩
  · simp only [List.mem_cons] at hy
    rcases hy with rfl | rfl | hy
    · obtain ⟨w1', w2', m1, m2, e', _, p1, p2⟩ := ownV_graph (x.o0 b)
      cases e'
      rw [o1.det p1] at p1
      exact .one p1
    · obtain ⟨w1', w2', m1, m2, e', _, p1, p2⟩ := ownV_graph (x.o0 b)
      cases e'
      rw [o2.det p2] at p2
      exact .one p2
    · exact x.own y (by simp [hy]) b
  · have := x.nd
    simpa [nms, List.append_assoc] using this
  · simpa [nms, List.append_assoc] using hm

def bwt (b : Block) : Nat := 7 * b.Code.length + 4
def mblock (k : Int) (b : Block) : Block := ⟨minstrs k b.Code.length, k + 7 * b.Code.length, k + 7 * b.Code.length + 1, k + 7 * b.Code.length + 1 + 1, k + 7 * b.Code.length + 1 + 1 + 1⟩
def mblocks (k : Int) (xs : List Block) : List Block := (List.range xs.length).map fun i => match xs[i]? with | some b => mblock (k + gsum bwt xs i) b | none => ⟨[], 0, 0, 0, 0⟩
theorem mblocks_length (k : Int) (xs : List Block) : (mblocks k xs).length = xs.length := by simp [mblocks]
theorem mblocks_get {k : Int} {xs : List Block} {i : Nat} (h : i < xs.length) : (mblocks k xs)[i]? = some (mblock (k + gsum bwt xs i) xs[i]) := by simp [mblocks, h]
theorem five_flat {b : Bool} (l : List Block) : (l.map (Block.cells b)).flatten.length = l.length * 5 := by
  rw [flatten_len (s := 5) _ (fun e he => by simp at he; obtain ⟨a, _, rfl⟩ := he; rfl), List.length_map]

set_option maxHeartbeats 4000000 in
theorem markBlockS {h : Hp} {bs : Bx} {os : Ox} {w : AV} {xs : List Block} {ns : List Nm} (x : Cx h bs ((w, (fun b => blocks b xs), ns) :: os)) (k : Int) (hk : 0 ≤ k) (hl : k + gsum bwt xs xs.length ≤ 2 ^ 62) (hlx : xs.length ≤ 2 ^ 62) :
    Sound Try.prog 44 [w, .int .i64 k] h fun v h' => v = .int .i64 (k + gsum bwt xs xs.length) ∧ Cx h' bs ((w, (fun b => blocks b (mblocks k xs)), ns) :: os) := by
  by_cases hne : xs = []
  · subst hne
    have hw := own_empty (own_of (x.o0 true) rfl)
    refine enter mixed MG16 Try.func44 rfl (by kernel_rfl) rfl ?_
    repeat' (first
     | with_reducible refine stp ?_
     | with_reducible refine k_blk_o rfl ?_
     | with_reducible refine k_seq_n ?_
     | ((try (conv => arg 1; simp [hk])); with_reducible refine evp ?_)
     | ((with_reducible refine apn ?na ?_); (case na => simp [appNames, ints, intss] <;> first | kernel_rfl | (refine ⟨?_, ?_⟩ <;> kernel_rfl)))
     | fail)
    refine st_loop (fun (i : Nat) σ h' => σ 0 = w ∧ σ 1 = .int .i64 k ∧ σ 5 = .int .i64 0 ∧ Cx h' bs ((w, (fun b => blocks b []), ns) :: os)) (fun i => 0) 0 ?init ?step
    case init => exact ⟨by simp, by simp, by simp, Cx.to x⟩
    case step =>
      rintro i σ h' ⟨h0, h1, h5, x'⟩
      rcases hw with rfl | ⟨n, ver, off, rfl⟩
      all_goals
        repeat' (first
         | with_reducible refine stp ?_
         | with_reducible refine k_blk_o rfl ?_
         | with_reducible refine k_seq_n ?_
         | ((try (conv => arg 1; simp [h0, h1, h5])); with_reducible refine evp ?_)
         | ((with_reducible refine apn ?na ?_); (case na => simp [appNames, ints, intss] <;> first | kernel_rfl | (refine ⟨?_, ?_⟩ <;> kernel_rfl)))
         | fail)
        exact ⟨by simp [resV, gsum], Cx.to x'⟩
  · obtain ⟨kk, ver, es, sp, ns1, rfl, rfl, hel, he5, q1, q2, y⟩ := x.open_row (s := 5) (ts := fun b => xs.map (Block.cells b)) (by omega) (fun b t ht => by simp at ht; obtain ⟨a, _, rfl⟩ := ht; rfl) (by simpa using hne)
    have hel2 : es.length = xs.length := by simpa using hel
    rw [hel2]
    refine enter mixed MG16 Try.func44 rfl (by kernel_rfl) rfl ?_
    repeat' (first
     | with_reducible refine stp ?_
     | with_reducible refine k_blk_o rfl ?_
     | with_reducible refine k_seq_n ?_
     | ((try (conv => arg 1; simp [hk])); with_reducible refine evp ?_)
     | ((with_reducible refine apn ?na ?_); (case na => simp [appNames, ints, intss] <;> first | kernel_rfl | (refine ⟨?_, ?_⟩ <;> kernel_rfl)))
     | fail)
    refine st_loop (fun (i : Nat) σ h' => i ≤ xs.length ∧ σ 0 = .sl kk ver 0 xs.length ∧ σ 1 = .int .i64 (k + gsum bwt xs i) ∧ σ 5 = .int .i64 i ∧ ∃ es : List (List AV), es.length = xs.length ∧ (∀ e ∈ es, e.length = 5) ∧
      Cx h' ((kk, ⟨ver, 5, es ++ sp⟩) :: bs) ((.agg es.flatten, (fun b => .agg (((mblocks k xs).take i ++ xs.drop i).map (Block.cells b)).flatten), ns1) :: os)) (fun i => xs.length - i) 0 ?init ?step
    case init => exact ⟨Nat.zero_le _, by simp, by simp [gsum_zero], by simp, es, hel2, he5, Cx.to y⟩
    case step =>
      rintro i σ h' ⟨hi, h0, h1, h5, es, hle, he5, y⟩
      by_cases hlt : i < xs.length
      · have hlt2 : (i : Int) < xs.length := by omega
        have hg := gsum_succ bwt xs i hlt
        have hg2 := gsum_le bwt xs (i + 1)
        have hb : bwt xs[i] = 7 * xs[i].Code.length + 4 := rfl
        have ees : es = es.take i ++ (es[i] :: es.drop (i + 1)) := by rw [← List.drop_eq_getElem_cons (by omega), List.take_append_drop]
        have exs : xs.drop i = xs[i] :: xs.drop (i + 1) := List.drop_eq_getElem_cons hlt
        have f1 : es.flatten = (es.take i).flatten ++ (es[i] ++ (es.drop (i + 1)).flatten) := by
          have := congrArg List.flatten ees
          rw [List.flatten_append, List.flatten_cons] at this
          exact this
        have f2 : ∀ b, (((mblocks k xs).take i ++ xs.drop i).map (Block.cells b)).flatten = (((mblocks k xs).take i).map (Block.cells b)).flatten ++ (xs[i].cells b ++ ((xs.drop (i + 1)).map (Block.cells b)).flatten) := fun b => by
          rw [exs, List.map_append, List.flatten_append, List.map_cons, List.flatten_cons]
        have y0 := y
        rw [f1] at y0
        simp only [f2] at y0
        have ht5 : (es.take i).flatten.length = i * 5 := by rw [flatten_len (s := 5) _ (fun e he => he5 e (List.mem_of_mem_take he))]; simp; omega
        obtain ⟨m1, m2, en1, y1⟩ := Cx.agg_split (t1 := fun b => (((mblocks k xs).take i).map (Block.cells b)).flatten) (t2 := fun b => xs[i].cells b ++ ((xs.drop (i + 1)).map (Block.cells b)).flatten) (fun b => by rw [five_flat, ht5]; simp [mblocks_length]; omega) y0
        obtain ⟨m3, m4, en2, y2⟩ := Cx.agg_split (t1 := fun b => xs[i].cells b) (t2 := fun b => ((xs.drop (i + 1)).map (Block.cells b)).flatten) (fun b => by rw [block_len, he5 _ (List.getElem_mem _)]) y1
        obtain ⟨w, ew, y3⟩ := Cx.block_split y2.rot1
        have qw := own_one' (own_of (y3.o0 true) rfl)
        have hx : (es ++ sp)[i]? = some [w, .int .i64 xs[i].Jump, .int .i64 xs[i].A, .int .i64 xs[i].To, .int .i64 xs[i].Else] := by
          rw [List.getElem?_append_left (by omega), List.getElem?_eq_getElem (by omega), ew]
        have b := y3.bxs
        simp only [Bxs] at b
        have br := b.1
        have bt := b.2.1
        clear b
        repeat' (first
         | with_reducible refine stp ?_
         | with_reducible refine k_blk_o rfl ?_
         | with_reducible refine k_seq_n ?_
         | ((try (conv => arg 1; simp [h0, h1, h5, br, bt, hlt, hlt2, hx, qw.1, ltS, nm_ne])); with_reducible refine evp ?_)
         | ((with_reducible refine apn ?na ?_); (case na => simp [appNames, ints, intss] <;> first | kernel_rfl | (refine ⟨?_, ?_⟩ <;> kernel_rfl)))
         | fail)
        refine st_heap rfl (markInstrS y3.next.next (k + gsum bwt xs i) (by omega) (by omega)) ?_
        rintro v h2 ⟨rfl, y4⟩
        have b := y4.bxs
        simp only [Bxs] at b
        have br := b.1
        have bt := b.2.1
        clear b
        have hlen : i < (es ++ sp).length := by simp; omega
        have hset : ∀ e, ((es ++ sp).set i e)[i]? = some e := fun e => List.getElem?_set_self hlen
        have hes2 : ∀ e : List AV, (es ++ sp).set i e = es.set i e ++ sp := fun e => List.set_append_left _ _ (by omega)
        have hw : IntKind.i64.wrap (i + 1) = i + 1 := wrap_id (by omega) (by omega)
        generalize hK : (k : Int) + gsum bwt xs i + 7 * xs[i].Code.length = K at *
        have w1 : IntKind.i64.wrap (K + 1) = K + 1 := wrap_id (by omega) (by omega)
        have w2 : IntKind.i64.wrap (K + 1 + 1) = K + 1 + 1 := wrap_id (by omega) (by omega)
        have w3 : IntKind.i64.wrap (K + 1 + 1 + 1) = K + 1 + 1 + 1 := wrap_id (by omega) (by omega)
        have w4 : IntKind.i64.wrap (K + 1 + 1 + 1 + 1) = K + 1 + 1 + 1 + 1 := wrap_id (by omega) (by omega)
        have hes2 := hes2 [w, .int .i64 K, .int .i64 (K + 1), .int .i64 (K + 1 + 1), .int .i64 (K + 1 + 1 + 1)]
        generalize hE : es ++ sp = E at y4 br hx hes2 hlen hset
        repeat' (first
         | with_reducible refine stp ?_
         | with_reducible refine k_blk_o rfl ?_
         | with_reducible refine k_seq_n ?_
         | ((try (conv => arg 1; simp [h0, h1, h5, br, bt, hlt, hlt2, hx, hset, hw, w1, w2, w3, w4, qw.1, ltS, nm_ne])); with_reducible refine evp ?_)
         | ((with_reducible refine apn ?na ?_); (case na => simp [appNames, ints, intss] <;> first | kernel_rfl | (refine ⟨?_, ?_⟩ <;> kernel_rfl)))
         | fail)
        refine k_lp_n (i + 1) (by omega) ⟨by omega, by simp [h0], by simp; omega, by simp, es.set i [w, .int .i64 K, .int .i64 (K + 1), .int .i64 (K + 1 + 1), .int .i64 (K + 1 + 1 + 1)], by simp [hle], fun e he => ?_, ?_⟩
        · rcases List.mem_or_eq_of_mem_set he with he | rfl
          · exact he5 e he
          · rfl
        have eM : mblock (k + gsum bwt xs i) xs[i] = ⟨minstrs (k + gsum bwt xs i) xs[i].Code.length, K, K + 1, K + 1 + 1, K + 1 + 1 + 1⟩ := by simp only [mblock, hK]
        have y5 := (y4.block_join (c := mblock (k + gsum bwt xs i) xs[i])).perm (List.Perm.swap _ _ _)
        have y6 := (Cx.agg_app y5).agg_app
        have f3 : (es.set i [w, .int .i64 K, .int .i64 (K + 1), .int .i64 (K + 1 + 1), .int .i64 (K + 1 + 1 + 1)]).flatten = (es.take i).flatten ++ ([w, .int .i64 K, .int .i64 (K + 1), .int .i64 (K + 1 + 1), .int .i64 (K + 1 + 1 + 1)] ++ (es.drop (i + 1)).flatten) := by
          rw [List.set_eq_take_append_cons_drop, if_pos (by omega)]
          simp
        have f4 : ∀ b, (((mblocks k xs).take (i + 1) ++ xs.drop (i + 1)).map (Block.cells b)).flatten = (((mblocks k xs).take i).map (Block.cells b)).flatten ++ ((mblock (k + gsum bwt xs i) xs[i]).cells b ++ ((xs.drop (i + 1)).map (Block.cells b)).flatten) := fun b => by
          rw [List.take_add_one, mblocks_get hlt]; simp
        rw [f3, en1, en2, ← hes2]
        simp only [f4]
        rw [eM] at y6 ⊢
        exact Cx.to y6
      · have hge : i = xs.length := by omega
        have hlt2 : ¬ (i : Int) < xs.length := by omega
        repeat' (first
         | with_reducible refine stp ?_
         | with_reducible refine k_blk_o rfl ?_
         | with_reducible refine k_seq_n ?_
         | ((try (conv => arg 1; simp [h0, h1, h5, hlt2])); with_reducible refine evp ?_)
         | ((with_reducible refine apn ?na ?_); (case na => simp [appNames, ints, intss] <;> first | kernel_rfl | (refine ⟨?_, ?_⟩ <;> kernel_rfl)))
         | fail)
        rw [hge, List.take_of_length_le (by rw [mblocks_length]; omega), List.drop_of_length_le (Nat.le_refl _), List.append_nil] at y
        have z := y.close_row (ts := fun b => (mblocks k xs).map (Block.cells b)) he5 (fun b => by simp [mblocks_length, hle]) (fun b t ht => by simp at ht; obtain ⟨a, _, rfl⟩ := ht; rfl) q1 q2
        rw [hle] at z
        exact ⟨by simp [resV, hge], Cx.to z⟩

def Graph.tot (g : Graph) : Nat := g.Sizes.length + gsum bwt g.Blocks g.Blocks.length
def mgraph (k : Int) (g : Graph) : Graph := { g with Sizes := marks k g.Sizes.length, Blocks := mblocks (k + g.Sizes.length) g.Blocks }
theorem bwt_sum (xs : List Block) (i : Nat) (hi : i ≤ xs.length) : gsum bwt xs i ≤ 7 * gsum wtB xs i + 4 * i := by
  induction i with
  | zero => simp [gsum_zero]
  | succ i ih =>
    have h1 := gsum_succ bwt xs i (by omega)
    have h2 := gsum_succ wtB xs i (by omega)
    have h3 : xs[i].Code.length ≤ wtB xs[i] := wtIS_len
    have h4 : bwt xs[i] = 7 * xs[i].Code.length + 4 := rfl
    have := ih (by omega)
    omega
theorem Graph.Small.tot {g : Graph} (h : g.Small) : g.tot ≤ 2 ^ 24 := by
  have h1 := h.sizes
  have h2 := h.blocks
  have h3 := bwt_sum g.Blocks g.Blocks.length (Nat.le_refl _)
  unfold wtBS at h2
  unfold Graph.tot
  omega

set_option maxHeartbeats 1000000 in
theorem markGraph {h : Hp} {bs : Bx} {os : Ox} {l : List AV} {ns : List Nm} {g : Graph} (x : Cx h bs ((.agg l, (fun b => .agg (g.cells b)), ns) :: os)) (hs : g.Small) (k : Int) (hk : 0 ≤ k) (hk2 : k ≤ 2 ^ 40) :
    Sound Try.prog 20 [.agg l, .int .i64 k] h fun v h' => v = .int .i64 (k + g.tot) ∧ Cx h' bs ((.agg l, (fun b => .agg ((mgraph k g).cells b)), ns) :: os) := by
  have ht := hs.tot
  have hsz := hs.sizes
  have hln := hs.len
  have ht2 : g.tot = g.Sizes.length + gsum bwt g.Blocks g.Blocks.length := rfl
  obtain ⟨w1, w2, n1, n2, rfl, rfl, y⟩ := x.graph_split
  have q1 := own_one (own_of (y.o0 true) rfl)
  have q2 := own_one' (own_of (y.o1 true) rfl)
  refine enter mixed MG16 Try.func20 rfl (by kernel_rfl) rfl ?_
  repeat' (first
   | with_reducible refine stp ?_
   | with_reducible refine k_blk_o rfl ?_
   | ((try (conv => arg 1; simp [q1.1, q2.1])); with_reducible refine evp ?_)
   | ((with_reducible refine apn ?na ?_); (case na => simp [appNames, ints, intss] <;> first | kernel_rfl | (refine ⟨?_, ?_⟩ <;> kernel_rfl)))
   | fail)
  refine cx_k (y.next.box_one (i := 0) y.off (by simp)) ?_
  intro h1 x1
  have b1 := x1.bxs
  simp only [Bxs] at b1
  repeat' (first
   | with_reducible refine stp ?_
   | with_reducible refine k_blk_o rfl ?_
   | with_reducible refine k_seq_n ?_
   | ((try (conv => arg 1; simp [b1, ltS, nm_ne, q1.1, q2.1])); with_reducible refine evp ?_)
   | ((with_reducible refine apn ?na ?_); (case na => simp [appNames, ints, intss] <;> first | kernel_rfl | (refine ⟨?_, ?_⟩ <;> kernel_rfl)))
   | fail)
  have o1 := own_of (x1.next.o0 true) rfl
  refine st_heap rfl (markIntS o1 x1.next.lts k hk (by omega)) ?_
  rintro v h2 ⟨rfl, p1, p2, p3⟩
  have x2 := x1.next.mark (h' := h2) (t' := fun b => ints b (marks k g.Sizes.length)) (fun b => .one (p1 b)) (fun n a _ => p2 n a) p3
  have b2 := x2.bxs
  simp only [Bxs] at b2
  repeat' (first
   | with_reducible refine stp ?_
   | with_reducible refine k_blk_o rfl ?_
   | with_reducible refine k_seq_n ?_
   | ((try (conv => arg 1; simp [b2, ltS, nm_ne, q1.1, q2.1])); with_reducible refine evp ?_)
   | ((with_reducible refine apn ?na ?_); (case na => simp [appNames, ints, intss] <;> first | kernel_rfl | (refine ⟨?_, ?_⟩ <;> kernel_rfl)))
   | fail)
  refine st_heap rfl (markBlockS (x2.next.perm (List.Perm.swap _ _ _)) (k + g.Sizes.length) (by omega) (by omega) (by omega)) ?_
  rintro v h3 ⟨rfl, x3⟩
  repeat' (first
   | with_reducible refine stp ?_
   | with_reducible refine k_blk_o rfl ?_
   | with_reducible refine k_seq_n ?_
   | ((try (conv => arg 1; simp [hk])); with_reducible refine evp ?_)
   | ((with_reducible refine apn ?na ?_); (case na => simp [appNames, ints, intss] <;> first | kernel_rfl | (refine ⟨?_, ?_⟩ <;> kernel_rfl)))
   | fail)
  refine ⟨?_, ?_⟩
  · simp only [resV, ht2]
    congr 1
    push_cast
    omega
  · exact (Cx.graph_join (g := mgraph k g) (Cx.to (x3.box_drop.perm (List.Perm.swap _ _ _))))
end Go.Proofs.Ytlmlkkkgcbpaoaa.AM

/-
  A chain of blocks: the plain law.
-/
set_option linter.unusedVariables false
set_option linter.unusedSimpArgs false
set_option maxRecDepth 4000
namespace Go.Proofs.Ytlmlkkkgcbpaoaa.AM
open Go.RowKit

def rdI (l : List Int) (i : Int) : Int := l.getD i.toNat 0
theorem rdI_at {l : List Int} {i : Nat} (h : i < l.length) : rdI l (i : Int) = l[i] := by simp [rdI, h]
def nextL (b : Block) : List Int := if b.Jump = 0 then [b.To] else if b.Jump = 1 then [b.To, b.Else] else []
/-- The better one of those that one comes to and that are not there. -/
def bst (l : List Int) (th : List Bool) : List Int → Int → Int
  | [], b => b
  | t :: ts, b => bst l th ts (if (!(th.getD t.toNat true)) && (decide (b < 0) || decide (rdI l b < rdI l t)) then t else b)
def chNext (g : Graph) (l : List Int) (th : List Bool) (at_ : Int) : Int :=
  let b := bst l th (nextL (g.Blocks.getD at_.toNat ⟨[], 0, 0, 0, 0⟩)) (-1)
  if b < 0 then idxOf (fun x => !x) th else b
def ch (g : Graph) (l : List Int) : Nat → List Int × List Bool
  | 0 => ([], List.replicate g.Blocks.length false)
  | k + 1 =>
    let at_ := if k = 0 then 0 else chNext g l (ch g l k).2 ((ch g l k).1.getLastD 0)
    ((ch g l k).1 ++ [at_], (ch g l k).2.set at_.toNat true)
def chAt (g : Graph) (l : List Int) (k : Nat) : Int := if k = 0 then 0 else chNext g l (ch g l k).2 ((ch g l k).1.getLastD 0)
theorem ch_succ (g : Graph) (l : List Int) (k : Nat) : ch g l (k + 1) = ((ch g l k).1 ++ [chAt g l k], (ch g l k).2.set (chAt g l k).toNat true) := rfl
def hasI (xs : List Int) (v : Int) : Bool := xs.any fun x => decide (v = x)

/-- A block that is there, and not yet. -/
def Free (n : Nat) (th : List Bool) (t : Int) : Prop := 0 ≤ t ∧ t < n ∧ th.getD t.toNat true = false
theorem bst_free {n : Nat} {l : List Int} {th : List Bool} : ∀ (ts : List Int) (b : Int), (∀ t ∈ ts, 0 ≤ t ∧ t < n) → (b = -1 ∨ Free n th b) → (bst l th ts b = -1 ∨ Free n th (bst l th ts b))
  | [], b, _, hb => hb
  | t :: ts, b, ht, hb => by
    unfold bst
    refine bst_free ts _ (fun t' ht' => ht t' (by simp [ht'])) ?_
    split
    · rename_i h
      simp only [Bool.and_eq_true, Bool.not_eq_true'] at h
      exact .inr ⟨(ht t (by simp)).1, (ht t (by simp)).2, h.1⟩
    · exact hb
theorem idx_free {th : List Bool} : (idxOf (fun x => !x) th = -1 ∧ ∀ x ∈ th, x = true) ∨ Free th.length th (idxOf (fun x => !x) th) := by
  cases h : th.any fun x => !x with
  | false =>
    left
    refine ⟨by simp [idxOf, h], fun x hx => ?_⟩
    rw [List.any_eq_false] at h
    have := h x hx
    simpa using this
  | true =>
    right
    have e : idxOf (fun x => !x) th = (th.findIdx fun x => !x : Nat) := by simp [idxOf, h]
    have hlt : (th.findIdx fun x => !x) < th.length := List.findIdx_lt_length.2 (List.any_eq_true.1 h)
    rw [e]
    refine ⟨by omega, by omega, ?_⟩
    have := List.findIdx_getElem (w := hlt)
    simp [hlt] at this ⊢
    exact this

/-- What is known behind so many blocks. -/
structure ChOk (g : Graph) (l : List Int) (k : Nat) : Prop where
  len : (ch g l k).1.length = k
  tlen : (ch g l k).2.length = g.Blocks.length
  cnt : (ch g l k).2.count true = k
  rel : ∀ i, i < g.Blocks.length → (ch g l k).2.getD i true = hasI (ch g l k).1 i
  mem : ∀ x ∈ (ch g l k).1, 0 ≤ x ∧ x < g.Blocks.length
theorem next_ok {g : Graph} (hg : graphOk g = true) {i : Nat} (hi : i < g.Blocks.length) : ∀ t ∈ nextL g.Blocks[i], 0 ≤ t ∧ t < g.Blocks.length := by
  simp only [graphOk, Bool.and_eq_true, List.all_eq_true] at hg
  have hb := hg.2 _ (List.getElem_mem hi)
  unfold blockOk at hb
  simp only [Bool.and_eq_true] at hb
  have hb := hb.2
  intro t ht
  unfold nextL at ht
  split at ht
  · rename_i h
    simp at ht
    subst ht
    rw [if_pos h] at hb
    simp only [inB, Bool.and_eq_true, decide_eq_true_eq] at hb
    omega
  · rename_i h
    split at ht
    · rename_i h'
      rw [if_neg h, if_pos h'] at hb
      simp only [inB, Bool.and_eq_true, decide_eq_true_eq] at hb
      simp at ht
      rcases ht with rfl | rfl <;> omega
    · simp at ht
theorem hasI_append (xs : List Int) (a v : Int) : hasI (xs ++ [a]) v = (hasI xs v || decide (v = a)) := by simp [hasI]
theorem ch_ok {g : Graph} (hg : graphOk g = true) (l : List Int) : ∀ k, k ≤ g.Blocks.length → ChOk g l k ∧ (k < g.Blocks.length → Free g.Blocks.length (ch g l k).2 (chAt g l k)) ∧ (0 < k → k = g.Blocks.length → chAt g l k = -1) := by
  have hnb : 1 ≤ g.Blocks.length := by
    simp only [graphOk, Bool.and_eq_true] at hg
    exact (headOk_head hg.1.1).blocks.1
  have step : ∀ k, k ≤ g.Blocks.length → ChOk g l k → (k < g.Blocks.length → Free g.Blocks.length (ch g l k).2 (chAt g l k)) ∧ (0 < k → k = g.Blocks.length → chAt g l k = -1) := by
    intro k hk C
    by_cases h0 : k = 0
    · subst h0
      refine ⟨fun _ => ⟨by simp [chAt], by simp [chAt]; omega, ?_⟩, fun h => by omega⟩
      have hp : 0 < g.Blocks.length := by omega
      simp [chAt, ch, hp]
    · have hne : (ch g l k).1 ≠ [] := fun e => by have := C.len; rw [e] at this; simp at this; omega
      have hlast : (ch g l k).1.getLastD 0 ∈ (ch g l k).1 := by
        rw [List.getLastD_eq_getLast?, List.getLast?_eq_some_getLast hne]
        exact List.getLast_mem hne
      have hm := C.mem _ hlast
      obtain ⟨a, ha⟩ : ∃ a : Nat, (ch g l k).1.getLastD 0 = (a : Int) := ⟨((ch g l k).1.getLastD 0).toNat, by omega⟩
      have hal : a < g.Blocks.length := by omega
      have hblk : g.Blocks.getD a ⟨[], 0, 0, 0, 0⟩ = g.Blocks[a] := by simp [hal]
      have hb := bst_free (l := l) (th := (ch g l k).2) (nextL g.Blocks[a]) (-1) (next_ok hg hal) (.inl rfl)
      have hs : chAt g l k = if bst l (ch g l k).2 (nextL g.Blocks[a]) (-1) < 0 then idxOf (fun x => !x) (ch g l k).2 else bst l (ch g l k).2 (nextL g.Blocks[a]) (-1) := by
        unfold chAt chNext
        rw [if_neg h0, ha, Int.toNat_natCast, hblk]
      have hi := idx_free (th := (ch g l k).2)
      rw [C.tlen] at hi
      refine ⟨fun hlt => ?_, fun _ hkn => ?_⟩
      · rw [hs]
        rcases hb with hb | hb
        · rw [hb, if_pos (by omega)]
          rcases hi with ⟨_, hi⟩ | hi
          · exfalso
            have : (ch g l k).2.count true = (ch g l k).2.length := List.count_eq_length.2 fun b hb => (hi b hb).symm
            rw [C.cnt, C.tlen] at this
            omega
          · exact hi
        · rw [if_neg (by have := hb.1; omega)]
          exact hb
      · have hall : ∀ b ∈ (ch g l k).2, true = b := List.count_eq_length.1 (by rw [C.cnt, C.tlen]; exact hkn)
        have nofree : ∀ t, ¬ Free g.Blocks.length (ch g l k).2 t := fun t ⟨f1, f2, f3⟩ => by
          have hlt : t.toNat < (ch g l k).2.length := by rw [C.tlen]; omega
          have := hall _ (List.getElem_mem hlt)
          simp [hlt] at f3
          rw [f3] at this
          cases this
        rw [hs]
        rcases hb with hb | hb
        · rw [hb, if_pos (by omega)]
          rcases hi with ⟨hi, _⟩ | hi
          · exact hi
          · exact absurd hi (nofree _)
        · exact absurd hb (nofree _)
  intro k
  induction k with
  | zero =>
    intro hk
    have C : ChOk g l 0 := ⟨rfl, by simp [ch], by simp [ch, List.count_replicate], fun i hi => by simp [ch, hasI, hi], fun x hx => by simp [ch] at hx⟩
    exact ⟨C, step 0 hk C⟩
  | succ k ih =>
    intro hk
    obtain ⟨C, F, _⟩ := ih (by omega)
    obtain ⟨f1, f2, f3⟩ := F (by omega)
    obtain ⟨a, ha⟩ : ∃ a : Nat, chAt g l k = (a : Int) := ⟨(chAt g l k).toNat, by omega⟩
    rw [ha, Int.toNat_natCast] at f3
    have hal : a < (ch g l k).2.length := by rw [C.tlen]; omega
    have hfa : (ch g l k).2[a] = false := by simpa [hal] using f3
    have C' : ChOk g l (k + 1) := by
      refine ⟨by rw [ch_succ]; simp [C.len], by rw [ch_succ]; simp [C.tlen], ?_, fun i hi => ?_, fun x hx => ?_⟩
      · rw [ch_succ, ha]
        simp only [Int.toNat_natCast]
        rw [List.count_set hal]
        simp [hfa, C.cnt]
      · rw [ch_succ, ha]
        simp only [Int.toNat_natCast]
        rw [hasI_append, ← C.rel i hi]
        have hil : i < (ch g l k).2.length := by rw [C.tlen]; exact hi
        by_cases e : i = a
        · subst e
          simp [hil]
        · have e2 : ¬ (i : Int) = (a : Int) := by omega
          have e3 : ¬ a = i := fun h => e h.symm
          simp [hil, e2, List.getElem_set, e3]
      · rw [ch_succ] at hx
        simp only [List.mem_append, List.mem_singleton] at hx
        rcases hx with hx | rfl
        · exact C.mem x hx
        · exact ⟨f1, f2⟩
    exact ⟨C', step (k + 1) hk C'⟩
def chainR (g : Graph) (l : List Int) : List Int := if graphOk g = true ∧ l.length = g.Blocks.length then (ch g l g.Blocks.length).1 else []
end Go.Proofs.Ytlmlkkkgcbpaoaa.AM

/-
  A chain of blocks: what both sides call.
-/
set_option linter.unusedVariables false
set_option linter.unusedSimpArgs false
set_option maxRecDepth 4000
namespace Go.Proofs.Ytlmlkkkgcbpaoaa.AM
open Go.RowKit

private def MG18 : FuncId → Mode := fun f => .tree

def bools (b : Bool) (l : List Bool) : AV := .tr b (l.map fun x => [.bool x])
@[simp] theorem one_bools (b : Bool) (xs : List Bool) : (bools b xs).one = true := rfl
@[simp] theorem stored_bools (b : Bool) (xs : List Bool) : (bools b xs).stored = true := rfl
@[simp] theorem cells_bools (b : Bool) (xs : List Bool) : (bools b xs).cells = [bools b xs] := rfl
theorem lenA_bools {P : Program} {t : TypeId} (b : Bool) (xs : List Bool) (h : (telem P t).isSome = true) : lenA P t (bools b xs) = some (.int .i64 xs.length) := by
  unfold bools
  rw [lenA_tr b _ h]
  simp
attribute [simp] lenA_bools
theorem dr_row1 {c : Bool} {rows : Nm → Option Row} {n : Nm} {ver : Nat} {l : List (List AV)} (h : rows n = some ⟨ver, 1, l⟩) (hf : ∀ e ∈ l, ∀ x ∈ e, flatc x = true) : DR c rows (.sl n ver 0 l.length) (.tr c l) := by
  refine .sl n ver 0 l.length _ _ h rfl (by simp) rfl (fun i e t he ht => ?_) (fun i e t j x y he ht hx hy => ?_)
  · simp only [Nat.zero_add] at he
    rw [he] at ht; cases ht; rfl
  · simp only [Nat.zero_add] at he
    rw [he] at ht; cases ht
    rw [hx] at hy; cases hy
    exact dr_flatc (hf e (List.mem_of_getElem? he) x (List.mem_of_getElem? hx))
theorem dr_bools_sl {c : Bool} {rows : Nm → Option Row} {n : Nm} {ver : Nat} {l : List Bool} (h : rows n = some ⟨ver, 1, l.map fun x => [.bool x]⟩) : DR c rows (.sl n ver 0 l.length) (bools c l) := by
  have := dr_row1 (c := c) h (fun e he x hx => by obtain ⟨a, _, rfl⟩ := List.mem_map.1 he; simp at hx; subst hx; rfl)
  rw [List.length_map] at this
  exact this
theorem dr_ints_sl {c : Bool} {rows : Nm → Option Row} {n : Nm} {ver : Nat} {l : List Int} (h : rows n = some ⟨ver, 1, cl1 l⟩) : DR c rows (.sl n ver 0 l.length) (ints c l) := by
  have := dr_row1 (c := c) h (fun e he x hx => by simp [cl1] at he; obtain ⟨a, _, rfl⟩ := he; simp at hx; subst hx; rfl)
  unfold cl1 at this
  rw [List.length_map] at this
  exact this

theorem indexI (l : List Int) (v : Int) (hl : l.length ≤ 2 ^ 62) : Pure Try.prog 78 [ints true l, .int .i64 v] (.int .i64 (idxOf (fun x => decide (v = x)) l)) := by
  intro T
  refine enter mixed MG18 Try.func78 rfl (by kernel_rfl) rfl ?_
  repeat' (first
   | with_reducible refine stp ?_
   | with_reducible refine k_blk_o rfl ?_
   | with_reducible refine k_seq_n ?_
   | ((try (conv => arg 1; simp)); with_reducible refine evp ?_)
   | ((with_reducible refine apn ?na ?_); (case na => simp [appNames, ints, intss] <;> first | kernel_rfl | (refine ⟨?_, ?_⟩ <;> kernel_rfl)))
   | fail)
  refine st_loop (fun (i : Nat) σ h => i ≤ l.length ∧ σ 0 = ints true l ∧ σ 1 = .int .i64 v ∧ σ 7 = .int .i64 l.length ∧ σ 8 = .int .i64 i ∧ ∀ j (hj : j < l.length), j < i → decide (v = l[j]) = false) (fun i => l.length - i) 0 ?init ?step
  case init =>
    refine ⟨Nat.zero_le _, by simp, by simp, by simp, by simp, fun j hj h => by omega⟩
  case step =>
    rintro i σ h ⟨hi, h0, h1, h7, h8, hb4⟩
    by_cases hlt : i < l.length
    · have hlt2 : (i : Int) < l.length := by omega
      have hx : l[i]? = some l[i] := by simp
      have hw : IntKind.i64.wrap (i + 1) = i + 1 := wrap_id (by omega) (by omega)
      by_cases he : v = l[i]
      · skip
        repeat' (first
         | with_reducible refine stp ?_
         | with_reducible refine k_blk_o rfl ?_
         | with_reducible refine k_seq_n ?_
         | ((try (conv => arg 1; simp [ints, h0, h1, h7, h8, hlt2, hx, ← he])); with_reducible refine evp ?_)
         | ((with_reducible refine apn ?na ?_); (case na => simp [appNames, ints, intss] <;> first | kernel_rfl | (refine ⟨?_, ?_⟩ <;> kernel_rfl)))
         | fail)
        exact dr_int (idxOf_hit (p := fun x => decide (v = x)) hlt hb4 (by simpa using he)).symm
      · skip
        repeat' (first
         | with_reducible refine stp ?_
         | with_reducible refine k_blk_o rfl ?_
         | with_reducible refine k_seq_n ?_
         | ((try (conv => arg 1; simp [ints, h0, h1, h7, h8, hlt2, hx, he, hw])); with_reducible refine evp ?_)
         | ((with_reducible refine apn ?na ?_); (case na => simp [appNames, ints, intss] <;> first | kernel_rfl | (refine ⟨?_, ?_⟩ <;> kernel_rfl)))
         | fail)
        refine k_lp_n (i + 1) (by omega) ⟨by omega, by simp [h0], by simp [h1], by simp [h7], by simp, fun j hj hji => ?_⟩
        by_cases e : j = i
        · subst e; simpa using he
        · exact hb4 j hj (by omega)
    · have hlt2 : ¬ (i : Int) < l.length := by omega
      repeat' (first
       | with_reducible refine stp ?_
       | with_reducible refine k_blk_o rfl ?_
       | with_reducible refine k_seq_n ?_
       | ((try (conv => arg 1; simp [h7, h8, hlt2])); with_reducible refine evp ?_)
       | ((with_reducible refine apn ?na ?_); (case na => simp [appNames, ints, intss] <;> first | kernel_rfl | (refine ⟨?_, ?_⟩ <;> kernel_rfl)))
       | fail)
      exact dr_int (idxOf_miss (p := fun x => decide (v = x)) fun j hj => hb4 j hj (by omega)).symm
theorem containsI (l : List Int) (v : Int) (hl : l.length ≤ 2 ^ 62) : Pure Try.prog 49 [ints true l, .int .i64 v] (.bool (hasI l v)) := by
  intro T
  have I := indexI l v hl
  refine enter mixed MG18 Try.func49 rfl (by kernel_rfl) rfl ?_
  repeat' (first
   | with_reducible refine stp ?_
   | with_reducible refine k_blk_o rfl ?_
   | with_reducible refine k_seq_n ?_
   | ((try (conv => arg 1; simp)); with_reducible refine evp ?_)
   | ((with_reducible refine apn ?na ?_); (case na => simp [appNames, ints, intss] <;> first | kernel_rfl | (refine ⟨?_, ?_⟩ <;> kernel_rfl)))
   | ((with_reducible refine tcl ?_); first | ((apply tg (I)); (case e => rfl); (case d => (refine dq ?_); (repeat' (first | ((refine Da.mk ?_); first | assumption) | constructor)))))
   | fail)
  exact dr_bool (idxOf_any _ _)

theorem rgo : List.range 1 = [0] := rfl
theorem rg2 : List.range 2 = [0, 1] := rfl
theorem dr_new {c : Bool} {rows : Nm → Option Row} {n : Nm} {l : List Int} (h : rows n = some ⟨0, 1, l.map fun x => [.int .i64 x]⟩) : DR c rows (.sl n 0 0 l.length) (ints c l) := dr_ints_sl h
theorem nextOf (b : Block) : Pure Try.prog 76 [.agg (b.cells true)] (ints false (nextL b)) := by
  intro T
  refine enter mixed MG18 Try.func76 rfl (by kernel_rfl) rfl ?_
  by_cases h0 : b.Jump = 0
  · rw [show nextL b = [b.To] by simp [nextL, h0]]
    repeat' (first
     | with_reducible refine stp ?_
     | with_reducible refine k_blk_o rfl ?_
     | with_reducible refine k_seq_n ?_
     | ((try (conv => arg 1; simp [Block.cells, h0, rgo])); with_reducible refine evp ?_)
     | ((with_reducible refine apn ?na ?_); (case na => simp [appNames, ints, intss] <;> first | kernel_rfl | (refine ⟨?_, ?_⟩ <;> kernel_rfl)))
     | fail)
    exact dr_new (l := [b.To]) (by simp)
  · by_cases h1 : b.Jump = 1
    · rw [show nextL b = [b.To, b.Else] by simp [nextL, h1]]
      repeat' (first
       | with_reducible refine stp ?_
       | with_reducible refine k_blk_o rfl ?_
       | with_reducible refine k_seq_n ?_
       | ((try (conv => arg 1; simp [Block.cells, h0, h1, rg2])); with_reducible refine evp ?_)
       | ((with_reducible refine apn ?na ?_); (case na => simp [appNames, ints, intss] <;> first | kernel_rfl | (refine ⟨?_, ?_⟩ <;> kernel_rfl)))
       | fail)
      exact dr_new (l := [b.To, b.Else]) (by simp)
    · rw [show nextL b = [] by simp [nextL, h0, h1]]
      repeat' (first
       | with_reducible refine stp ?_
       | with_reducible refine k_blk_o rfl ?_
       | with_reducible refine k_seq_n ?_
       | ((try (conv => arg 1; simp [Block.cells, h0, h1])); with_reducible refine evp ?_)
       | ((with_reducible refine apn ?na ?_); (case na => simp [appNames, ints, intss] <;> first | kernel_rfl | (refine ⟨?_, ?_⟩ <;> kernel_rfl)))
       | fail)
      exact .nilsl
theorem l05Next (b : Block) : Pure Try.prog 75 [.agg (b.cells true)] (ints false (nextL b)) := by
  intro T
  refine enter mixed MG18 Try.func75 rfl (by kernel_rfl) rfl ?_
  by_cases h0 : b.Jump = 0
  · rw [show nextL b = [b.To] by simp [nextL, h0]]
    repeat' (first
     | with_reducible refine stp ?_
     | with_reducible refine k_blk_o rfl ?_
     | with_reducible refine k_seq_n ?_
     | ((try (conv => arg 1; simp [Block.cells, h0, rgo])); with_reducible refine evp ?_)
     | ((with_reducible refine apn ?na ?_); (case na => simp [appNames, ints, intss] <;> first | kernel_rfl | (refine ⟨?_, ?_⟩ <;> kernel_rfl)))
     | fail)
    exact dr_new (l := [b.To]) (by simp)
  · by_cases h1 : b.Jump = 1
    · rw [show nextL b = [b.To, b.Else] by simp [nextL, h1]]
      repeat' (first
       | with_reducible refine stp ?_
       | with_reducible refine k_blk_o rfl ?_
       | with_reducible refine k_seq_n ?_
       | ((try (conv => arg 1; simp [Block.cells, h0, h1, rg2])); with_reducible refine evp ?_)
       | ((with_reducible refine apn ?na ?_); (case na => simp [appNames, ints, intss] <;> first | kernel_rfl | (refine ⟨?_, ?_⟩ <;> kernel_rfl)))
       | fail)
      exact dr_new (l := [b.To, b.Else]) (by simp)
    · rw [show nextL b = [] by simp [nextL, h0, h1]]
      repeat' (first
       | with_reducible refine stp ?_
       | with_reducible refine k_blk_o rfl ?_
       | with_reducible refine k_seq_n ?_
       | ((try (conv => arg 1; simp [Block.cells, h0, h1])); with_reducible refine evp ?_)
       | ((with_reducible refine apn ?na ?_); (case na => simp [appNames, ints, intss] <;> first | kernel_rfl | (refine ⟨?_, ?_⟩ <;> kernel_rfl)))
       | fail)
      exact dr_new (l := []) (by simp)

theorem bst_drop {l : List Int} {th : List Bool} {ts : List Int} {i : Nat} {b : Int} (hi : i < ts.length) : bst l th (ts.drop i) b = bst l th (ts.drop (i + 1)) (if (!(th.getD ts[i].toNat true)) && (decide (b < 0) || decide (rdI l b < rdI l ts[i])) then ts[i] else b) := by
  rw [List.drop_eq_getElem_cons hi]
  rfl

set_option maxHeartbeats 4000000 in
theorem l16Best (g : Graph) (hg : graphOk g = true) (d : g.Small) (l : List Int) (hl : l.length = g.Blocks.length) (th : List Bool) (ht : th.length = g.Blocks.length) (a : Nat) (ha : a < g.Blocks.length) :
    Pure Try.prog 42 [.agg (g.cells true), .int .i64 a, ints true l, bools true th] (.int .i64 (chNext g l th a)) := by
  intro T
  have hln := d.len
  have hx := next_ok hg ha
  have hblk : g.Blocks[a]? = some g.Blocks[a] := by simp
  have hlen := block_len true g.Blocks[a]
  have N := l05Next g.Blocks[a]
  have hcn : chNext g l th a = if bst l th (nextL g.Blocks[a]) (-1) < 0 then idxOf (fun x => !x) th else bst l th (nextL g.Blocks[a]) (-1) := by
    unfold chNext
    rw [Int.toNat_natCast, show g.Blocks.getD a ⟨[], 0, 0, 0, 0⟩ = g.Blocks[a] by simp [ha]]
  have hn2 : (nextL g.Blocks[a]).length ≤ 2 := by
    unfold nextL
    split
    · simp
    · split <;> simp
  refine enter mixed MG18 Try.func42 rfl (by kernel_rfl) rfl ?_
  repeat' (first
   | with_reducible refine stp ?_
   | with_reducible refine k_blk_o rfl ?_
   | ((try (conv => arg 1; simp [Graph.cells])); with_reducible refine evp ?_)
   | ((with_reducible refine apn ?na ?_); (case na => simp [appNames, ints, intss] <;> first | kernel_rfl | (refine ⟨?_, ?_⟩ <;> kernel_rfl)))
   | fail)
  refine cx_k (Cx.mt.next.box_one (T := T) (i := 0) Cx.mt.off (by simp)) ?_
  intro h1 x1
  have b1 := x1.bxs
  simp only [Bxs] at b1
  repeat' (first
   | with_reducible refine stp ?_
   | with_reducible refine k_blk_o rfl ?_
   | with_reducible refine k_seq_n ?_
   | ((try (conv => arg 1; simp [b1, blocks, hblk, hlen, Block.cells, ltS, nm_ne])); with_reducible refine evp ?_)
   | ((with_reducible refine apn ?na ?_); (case na => simp [appNames, ints, intss] <;> first | kernel_rfl | (refine ⟨?_, ?_⟩ <;> kernel_rfl)))
   | ((with_reducible refine tcl ?_); first | ((apply tg (N)); (case e => rfl); (case d => (refine dq ?_); (repeat' (first | ((refine Da.mk ?_); first | exact dr_instrs (by simp) _ | assumption) | constructor)))))
   | fail)
  generalize hN : nextL g.Blocks[a] = ts at *
  refine st_loop (fun (i : Nat) σ h => i ≤ ts.length ∧ σ 2 = ints true l ∧ σ 3 = bools true th ∧ σ 10 = ints false ts ∧ σ 11 = .int .i64 i ∧ ∃ b, σ 9 = .int .i64 b ∧ (b = -1 ∨ Free g.Blocks.length th b) ∧ bst l th (ts.drop i) b = bst l th ts (-1)) (fun i => ts.length - i) 0 ?init ?step
  case init => exact ⟨Nat.zero_le _, by simp, by simp, by simp, by simp, -1, by simp, .inl rfl, rfl⟩
  case step =>
    rintro i σ h ⟨hi, s2, s3, s10, s11, b, s9, hb, hd⟩
    by_cases hlt : i < ts.length
    · have hlt2 : (i : Int) < ts.length := by omega
      have hti : ts[i]? = some ts[i] := by simp
      have hw : IntKind.i64.wrap (i + 1) = i + 1 := wrap_id (by omega) (by omega)
      obtain ⟨t, et⟩ : ∃ t : Nat, ts[i] = (t : Int) := ⟨ts[i].toNat, by have := hx _ (List.getElem_mem hlt); omega⟩
      have htl : t < g.Blocks.length := by have := hx _ (List.getElem_mem hlt); omega
      have htt : th[t]? = some th[t] := by simp [ht, htl]
      have hlt' : l[t]? = some l[t] := by simp [hl, htl]
      rw [bst_drop hlt, et, Int.toNat_natCast] at hd
      rw [show th.getD t true = th[t]'(by omega) by simp [ht, htl]] at hd
      rw [et] at hti
      have hbe : ∀ b', bst l th (ts.drop (i + 1)) b' = bst l th ts (-1) → (b' = -1 ∨ Free g.Blocks.length th b') → True := fun _ _ _ => trivial
      cases hv : th[t]'(by omega) with
      | true =>
        rw [hv] at hd htt
        repeat' (first
         | with_reducible refine stp ?_
         | with_reducible refine k_blk_o rfl ?_
         | with_reducible refine k_seq_n ?_
         | ((try (conv => arg 1; simp [s2, s3, s10, s11, hlt2])); with_reducible refine evp ?_)
         | ((with_reducible refine apn ?na ?_); (case na => simp [appNames, ints, intss] <;> first | kernel_rfl | (refine ⟨?_, ?_⟩ <;> kernel_rfl)))
         | fail)
        repeat (with_reducible first | refine stp ?_ | refine k_seq_n ?_)
        refine st_draw 26 (fun _ => false) (by kernel_rfl) ?_
        simp only [List.take_succ_cons, List.take_zero, List.drop_succ_cons, List.drop_zero, List.take_nil, List.drop_nil]
        repeat' (first
         | with_reducible refine stp ?_
         | with_reducible refine k_blk_o rfl ?_
         | with_reducible refine k_seq_n ?_
         | ((try (conv => arg 1; simp [s2, s3, s9, s10, s11, ints, bools, hti, htt, hw])); with_reducible refine evp ?_)
         | ((with_reducible refine apn ?na ?_); (case na => simp [appNames, ints, intss] <;> first | kernel_rfl | (refine ⟨?_, ?_⟩ <;> kernel_rfl)))
         | fail)
        refine k_lp_n (i + 1) (by omega) ⟨by omega, by simp [s2], by simp [s3], by simp [s10], by simp, b, by simp [s9], hb, by simpa using hd⟩
      | false =>
        rw [hv] at hd htt
        have hfr : Free g.Blocks.length th (t : Int) := ⟨by omega, by omega, by simp [ht, htl, hv]⟩
        rcases hb with rfl | hb
        · skip
          repeat' (first
           | with_reducible refine stp ?_
           | with_reducible refine k_blk_o rfl ?_
           | with_reducible refine k_seq_n ?_
           | ((try (conv => arg 1; simp [s2, s3, s10, s11, hlt2])); with_reducible refine evp ?_)
           | ((with_reducible refine apn ?na ?_); (case na => simp [appNames, ints, intss] <;> first | kernel_rfl | (refine ⟨?_, ?_⟩ <;> kernel_rfl)))
           | fail)
          repeat (with_reducible first | refine stp ?_ | refine k_seq_n ?_)
          refine st_draw 26 (fun _ => false) (by kernel_rfl) ?_
          simp only [List.take_succ_cons, List.take_zero, List.drop_succ_cons, List.drop_zero, List.take_nil, List.drop_nil]
          repeat' (first
           | with_reducible refine stp ?_
           | with_reducible refine k_blk_o rfl ?_
           | with_reducible refine k_seq_n ?_
           | ((try (conv => arg 1; simp [s2, s3, s9, s10, s11, ints, bools, hti, htt, hw])); with_reducible refine evp ?_)
           | ((with_reducible refine apn ?na ?_); (case na => simp [appNames, ints, intss] <;> first | kernel_rfl | (refine ⟨?_, ?_⟩ <;> kernel_rfl)))
           | fail)
          refine k_lp_n (i + 1) (by omega) ⟨by omega, by simp [s2], by simp [s3], by simp [s10], by simp, t, by simp, .inr hfr, by simpa using hd⟩
        · obtain ⟨c, rfl⟩ : ∃ c : Nat, b = (c : Int) := ⟨b.toNat, by have := hb.1; omega⟩
          have hcl : c < g.Blocks.length := by have := hb.2.1; omega
          have hlc : l[c]? = some (l[c]'(by omega)) := by simp [hl, hcl]
          have hc0 : ¬ (c : Int) < 0 := by omega
          rw [rdI_at (l := l) (i := c) (by omega), rdI_at (l := l) (i := t) (by omega)] at hd
          by_cases hcmp : l[c]'(by omega) < l[t]'(by omega)
          · skip
            repeat' (first
             | with_reducible refine stp ?_
             | with_reducible refine k_blk_o rfl ?_
             | with_reducible refine k_seq_n ?_
             | ((try (conv => arg 1; simp [s2, s3, s10, s11, hlt2])); with_reducible refine evp ?_)
             | ((with_reducible refine apn ?na ?_); (case na => simp [appNames, ints, intss] <;> first | kernel_rfl | (refine ⟨?_, ?_⟩ <;> kernel_rfl)))
             | fail)
            repeat (with_reducible first | refine stp ?_ | refine k_seq_n ?_)
            refine st_draw 26 (fun _ => false) (by kernel_rfl) ?_
            simp only [List.take_succ_cons, List.take_zero, List.drop_succ_cons, List.drop_zero, List.take_nil, List.drop_nil]
            repeat' (first
             | with_reducible refine stp ?_
             | with_reducible refine k_blk_o rfl ?_
             | with_reducible refine k_seq_n ?_
             | ((try (conv => arg 1; simp [s2, s3, s9, s10, s11, ints, bools, hti, htt, hlt', hlc, hc0, hcmp, hw])); with_reducible refine evp ?_)
             | ((with_reducible refine apn ?na ?_); (case na => simp [appNames, ints, intss] <;> first | kernel_rfl | (refine ⟨?_, ?_⟩ <;> kernel_rfl)))
             | fail)
            refine k_lp_n (i + 1) (by omega) ⟨by omega, by simp [s2], by simp [s3], by simp [s10], by simp, t, by simp, .inr hfr, by simpa [hcmp] using hd⟩
          · skip
            repeat' (first
             | with_reducible refine stp ?_
             | with_reducible refine k_blk_o rfl ?_
             | with_reducible refine k_seq_n ?_
             | ((try (conv => arg 1; simp [s2, s3, s10, s11, hlt2])); with_reducible refine evp ?_)
             | ((with_reducible refine apn ?na ?_); (case na => simp [appNames, ints, intss] <;> first | kernel_rfl | (refine ⟨?_, ?_⟩ <;> kernel_rfl)))
             | fail)
            repeat (with_reducible first | refine stp ?_ | refine k_seq_n ?_)
            refine st_draw 26 (fun _ => false) (by kernel_rfl) ?_
            simp only [List.take_succ_cons, List.take_zero, List.drop_succ_cons, List.drop_zero, List.take_nil, List.drop_nil]
            repeat' (first
             | with_reducible refine stp ?_
             | with_reducible refine k_blk_o rfl ?_
             | with_reducible refine k_seq_n ?_
             | ((try (conv => arg 1; simp [s2, s3, s9, s10, s11, ints, bools, hti, htt, hlt', hlc, hc0, hcmp, hw])); with_reducible refine evp ?_)
             | ((with_reducible refine apn ?na ?_); (case na => simp [appNames, ints, intss] <;> first | kernel_rfl | (refine ⟨?_, ?_⟩ <;> kernel_rfl)))
             | fail)
            refine k_lp_n (i + 1) (by omega) ⟨by omega, by simp [s2], by simp [s3], by simp [s10], by simp, c, by simp [s9], .inr hb, by simpa [hcmp, hc0] using hd⟩
    · have hlt2 : ¬ (i : Int) < ts.length := by omega
      rw [List.drop_of_length_le (by omega)] at hd
      have hd : b = bst l th ts (-1) := hd
      rw [← hd] at hcn
      by_cases hb0 : b < 0
      · have hb1 : ¬ (0 : Int) ≤ b := by omega
        rw [if_pos hb0] at hcn
        rw [hcn]
        repeat' (first
         | with_reducible refine stp ?_
         | with_reducible refine k_blk_o rfl ?_
         | with_reducible refine k_seq_n ?_
         | ((try (conv => arg 1; simp [s3, s9, s10, s11, hlt2, hb1])); with_reducible refine evp ?_)
         | ((with_reducible refine apn ?na ?_); (case na => simp [appNames, ints, intss] <;> first | kernel_rfl | (refine ⟨?_, ?_⟩ <;> kernel_rfl)))
         | fail)
        refine st_loop (fun (i : Nat) σ h => i ≤ th.length ∧ σ 3 = bools true th ∧ σ 12 = .int .i64 i ∧ ∀ j (hj : j < th.length), j < i → (!th[j]) = false) (fun i => th.length - i) 0 ?init ?step
        case init => exact ⟨Nat.zero_le _, by simp [s3], by simp, fun j hj h => by omega⟩
        case step =>
          rintro i σ h ⟨hi, s3, s12, hf⟩
          by_cases hlt : i < th.length
          · have hlt2 : (i : Int) < th.length := by omega
            have hx : th[i]? = some th[i] := by simp
            have hw : IntKind.i64.wrap (i + 1) = i + 1 := wrap_id (by omega) (by omega)
            cases hv : th[i] with
            | false =>
              rw [hv] at hx
              repeat' (first
               | with_reducible refine stp ?_
               | with_reducible refine k_blk_o rfl ?_
               | with_reducible refine k_seq_n ?_
               | ((try (conv => arg 1; simp [s3, s12, hlt2, hx, bools])); with_reducible refine evp ?_)
               | ((with_reducible refine apn ?na ?_); (case na => simp [appNames, ints, intss] <;> first | kernel_rfl | (refine ⟨?_, ?_⟩ <;> kernel_rfl)))
               | fail)
              exact dr_int (idxOf_hit (p := fun x => !x) hlt hf (by simp [hv])).symm
            | true =>
              rw [hv] at hx
              repeat' (first
               | with_reducible refine stp ?_
               | with_reducible refine k_blk_o rfl ?_
               | with_reducible refine k_seq_n ?_
               | ((try (conv => arg 1; simp [s3, s12, hlt2, hx, hw, bools])); with_reducible refine evp ?_)
               | ((with_reducible refine apn ?na ?_); (case na => simp [appNames, ints, intss] <;> first | kernel_rfl | (refine ⟨?_, ?_⟩ <;> kernel_rfl)))
               | fail)
              refine k_lp_n (i + 1) (by omega) ⟨by omega, by simp [s3], by simp, fun j hj hji => ?_⟩
              by_cases e : j = i
              · subst e; simp [hv]
              · exact hf j hj (by omega)
          · have hlt2 : ¬ (i : Int) < th.length := by omega
            repeat' (first
             | with_reducible refine stp ?_
             | with_reducible refine k_blk_o rfl ?_
             | with_reducible refine k_seq_n ?_
             | ((try (conv => arg 1; simp [s3, s12, hlt2])); with_reducible refine evp ?_)
             | ((with_reducible refine apn ?na ?_); (case na => simp [appNames, ints, intss] <;> first | kernel_rfl | (refine ⟨?_, ?_⟩ <;> kernel_rfl)))
             | fail)
            exact dr_int (idxOf_miss (p := fun x => !x) fun j hj => hf j hj (by omega)).symm
      · have hb1 : (0 : Int) ≤ b := by omega
        rw [if_neg hb0] at hcn
        rw [hcn]
        repeat' (first
         | with_reducible refine stp ?_
         | with_reducible refine k_blk_o rfl ?_
         | with_reducible refine k_seq_n ?_
         | ((try (conv => arg 1; simp [s3, s9, s10, s11, hlt2, hb1])); with_reducible refine evp ?_)
         | ((with_reducible refine apn ?na ?_); (case na => simp [appNames, ints, intss] <;> first | kernel_rfl | (refine ⟨?_, ?_⟩ <;> kernel_rfl)))
         | fail)
        exact .int _ _
end Go.Proofs.Ytlmlkkkgcbpaoaa.AM

/-
  A chain of blocks: the reference's.
-/
set_option linter.unusedVariables false
set_option linter.unusedSimpArgs false
set_option maxRecDepth 4000
namespace Go.Proofs.Ytlmlkkkgcbpaoaa.AM
open Go.RowKit

private def MG19 : FuncId → Mode := fun f => .tree

theorem dr_bools_sl' {c : Bool} {rows : Nm → Option Row} {n : Nm} {ver len : Nat} {l : List Bool} (hl : l.length = len) (h : rows n = some ⟨ver, 1, l.map fun x => [.bool x]⟩) : DR c rows (.sl n ver 0 len) (bools c l) := by
  subst hl
  exact dr_bools_sl h
theorem chAt_succ {g : Graph} {l : List Int} {k : Nat} : chAt g l (k + 1) = chNext g l (ch g l (k + 1)).2 (chAt g l k) := by
  unfold chAt
  rw [if_neg (by omega)]
  congr 1
  rw [ch_succ]
  simp [chAt]
theorem Cx.close_own {h : Hp} {bs : Bx} {os : Ox} {k : Nm} {ver : Nat} {xs : List Int} (x : Cx h ((k, ⟨ver, 1, cl1 xs⟩) :: bs) os) : Cx h bs ((.sl k ver 0 xs.length, (fun b => ints b xs), [k]) :: os) := by
  exact Cx.close_ints (pre := []) (sp := []) (by simpa [ir] using x) ⟨by simp, by simp, fun i e j x he => by simp at he, fun i e j x he => by simp at he⟩

set_option maxHeartbeats 4000000 in
theorem specChain (g : Graph) (d : g.Small) (l : List Int) (hl : l.length ≤ 2 ^ 20) : FreshW Try.prog 16 [.agg (g.cells true), ints true l] (fun b => ints b (chainR g l)) := by
  intro T
  have hln := d.len
  have G := graphOkSpec g d.fit
  refine enter mixed MG19 Try.func16 rfl (by kernel_rfl) rfl ?_
  repeat' (first
   | with_reducible refine stp ?_
   | with_reducible refine k_blk_o rfl ?_
   | ((try (conv => arg 1; simp [Graph.cells])); with_reducible refine evp ?_)
   | ((with_reducible refine apn ?na ?_); (case na => simp [appNames, ints, intss] <;> first | kernel_rfl | (refine ⟨?_, ?_⟩ <;> kernel_rfl)))
   | fail)
  refine cx_k (Cx.mt.next.box_one (T := T) (i := 0) Cx.mt.off (by simp)) ?_
  intro h1 x1
  have b1 := x1.bxs
  simp only [Bxs] at b1
  repeat' (first
   | with_reducible refine stp ?_
   | with_reducible refine k_blk_o rfl ?_
   | ((try (conv => arg 1; simp [b1])); with_reducible refine evp ?_)
   | ((with_reducible refine apn ?na ?_); (case na => simp [appNames, ints, intss] <;> first | kernel_rfl | (refine ⟨?_, ?_⟩ <;> kernel_rfl)))
   | fail)
  refine cx_k (x1.next.box_one (T := h1.tick) (i := 0) (r := ⟨0, 1, []⟩) x1.off (by simp)) ?_
  intro h2 x2
  have b2 := x2.bxs
  simp only [Bxs] at b2
  have x2' := x2
  by_cases hc : graphOk g = true ∧ l.length = g.Blocks.length
  · obtain ⟨hk, hlb⟩ := hc
    have hlb2 : (l.length : Int) = g.Blocks.length := by omega
    have hsm : (g.Blocks.length : Int) ≤ 4294967296 := by omega
    have hr : chainR g l = (ch g l g.Blocks.length).1 := by simp [chainR, hk, hlb]
    rw [hr]
    rw [hk] at G
    repeat' (first
     | with_reducible refine stp ?_
     | with_reducible refine k_blk_o rfl ?_
     | with_reducible refine k_seq_n ?_
     | ((try (conv => arg 1; simp [b2, hlb, hlb2, hsm, ltS, nm_ne])); with_reducible refine evp ?_)
     | ((with_reducible refine apn ?na ?_); (case na => simp [appNames, ints, intss] <;> first | kernel_rfl | (refine ⟨?_, ?_⟩ <;> kernel_rfl)))
     | ((with_reducible refine tcl ?_); first | ((apply tg (G)); (case e => rfl); (case d => (refine dq ?_); (repeat' (first | ((refine Da.mk ?_); first | exact dr_blocks (by simp) _ | assumption) | constructor)))))
     | fail)
    refine st_loop (fun (k : Nat) σ h => k ≤ g.Blocks.length ∧ σ 1 = ints true l ∧ σ 2 = .ptr (T, 0, 0) 0 0 0 ∧ σ 5 = .sl (h1.tick, 0, 0) k 0 k ∧ σ 6 = .sl (h2.tick + 1, 2, 0) 0 0 g.Blocks.length ∧ σ 7 = .int .i64 (chAt g l k) ∧
      Cx h [((h2.tick + 1, 2, 0), ⟨0, 1, (ch g l k).2.map fun x => [.bool x]⟩), ((h1.tick, 0, 0), ⟨k, 1, cl1 (ch g l k).1⟩), ((T, 0, 0), graphRow g)] []) (fun k => g.Blocks.length + 1 - k) 0 ?init ?step
    case init =>
      have x3 := x2.next.next.box_one (T := h2.tick + 1) (i := 2) (r := ⟨0, 1, List.replicate g.Blocks.length [.bool false]⟩) x2.next.off (by simp)
      have e0 : (ch g l 0).2.map (fun x => [AV.bool x]) = List.replicate g.Blocks.length [.bool false] := by simp [ch]
      refine ⟨Nat.zero_le _, by simp, by simp, by simp, by simp, by simp [chAt], ?_⟩
      rw [e0]
      exact Cx.to x3
    case step =>
      rintro k σ h ⟨hkn, s1, s2, s5, s6, s7, x⟩
      have b := x.bxs
      simp only [Bxs, graphRow] at b
      obtain ⟨C, F, E⟩ := ch_ok hk l k hkn
      have hw : IntKind.i64.wrap (k + 1) = k + 1 := wrap_id (by omega) (by omega)
      by_cases hlt : k < g.Blocks.length
      · obtain ⟨f1, f2, f3⟩ := F hlt
        obtain ⟨C', F', E'⟩ := ch_ok hk l (k + 1) (by omega)
        have hs := chAt_succ (g := g) (l := l) (k := k)
        have hcs := ch_succ g l k
        obtain ⟨a, ha⟩ : ∃ a : Nat, chAt g l k = (a : Int) := ⟨(chAt g l k).toNat, by omega⟩
        rw [ha] at s7 hs hcs f2
        have hal : a < g.Blocks.length := by omega
        have htl := C.tlen
        have hel : ((ch g l k).2.map fun x => [AV.bool x])[a]? = some [.bool ((ch g l k).2[a]'(by omega))] := by simp [htl, hal]
        have B := l16Best g hk d l hlb (ch g l (k + 1)).2 C'.tlen a hal
        have hlen := C.len
        have hT : ¬ h1.tick = h2.tick + 1 := by omega
        have e1 : ((ch g l k).2.map fun x => [AV.bool x]).set a [.bool true] = (ch g l (k + 1)).2.map fun x => [.bool x] := by rw [hcs]; simp [List.map_set]
        have e2 : cl1 (ch g l k).1 ++ [[AV.int .i64 a]] = cl1 (ch g l (k + 1)).1 := by rw [hcs]; simp [cl1]
        repeat' (first
         | with_reducible refine stp ?_
         | with_reducible refine k_blk_o rfl ?_
         | with_reducible refine k_seq_n ?_
         | ((try (conv => arg 1; simp [s1, s2, s5, s6, s7, b, hal, hel, htl, e1, hT, ltS, nm_ne])); with_reducible refine evp ?_)
         | ((with_reducible refine apn ?na ?_); (case na => simp [appNames, ints, intss] <;> first | kernel_rfl | (refine ⟨?_, ?_⟩ <;> kernel_rfl)))
         | fail)
        conv => arg 1; simp [s5]
        rw [appendA_snoc (s := 1) (l := cl1 (ch g l k).1) (e := [.int .i64 a]) (by kernel_rfl) ?hr (by simp [cl1, hlen]) ?hk rfl (by omega) ?hm]
        case hr => simp [b, hT]
        case hk => simp
        case hm => simp; omega
        refine ev2_some ?_
        rw [e2]
        have hT2 : ¬ T = h2.tick + 1 := by omega
        have hT3 : ¬ T = h1.tick := by omega
        have hT4 : ¬ h2.tick + 1 = h1.tick := by omega
        have hT5 : ¬ h2.tick = h.tick + 1 := by omega
        rw [← hs] at B
        repeat' (first
         | with_reducible refine stp ?_
         | with_reducible refine k_blk_o rfl ?_
         | with_reducible refine k_seq_n ?_
         | ((try (conv => arg 1; simp [s1, s2, s5, s6, s7, b, hT, hT2, hT3, hT4, ltS, nm_ne])); with_reducible refine evp ?_)
         | ((with_reducible refine apn ?na ?_); (case na => simp [appNames, ints, intss] <;> first | kernel_rfl | (refine ⟨?_, ?_⟩ <;> kernel_rfl)))
         | ((with_reducible refine tcl ?_); first | ((apply tg (B)); (case e => rfl); (case d => (refine dq ?_); (repeat' (first | ((refine Da.mk ?_); first | exact dr_blocks (by simp) _ | exact dr_bools_sl' C'.tlen (by simp [hT, hT4, hT5]) | assumption) | constructor)))))
         | fail)
        refine k_lp_n (k + 1) (by omega) ⟨by omega, by simp [s1], by simp [s2], by simp, by simp [s6], by simp, Cx.to x⟩
      · have hke : k = g.Blocks.length := by omega
        have hat := E (by have := (headOk_head (by simp only [graphOk, Bool.and_eq_true] at hk; exact hk.1.1)).blocks.1; omega) hke
        rw [hat] at s7
        repeat' (first
         | with_reducible refine stp ?_
         | with_reducible refine k_blk_o rfl ?_
         | with_reducible refine k_seq_n ?_
         | ((try (conv => arg 1; simp [s5, s7])); with_reducible refine evp ?_)
         | ((with_reducible refine apn ?na ?_); (case na => simp [appNames, ints, intss] <;> first | kernel_rfl | (refine ⟨?_, ?_⟩ <;> kernel_rfl)))
         | fail)
        have hr2 : (ch g l g.Blocks.length).1 = (ch g l k).1 := by rw [hke]
        rw [hr2]
        have z := Cx.close_own (x.bperm (List.Perm.swap _ _ _))
        rw [C.len] at z
        exact fin_own z.next.next
  · have hr : chainR g l = [] := by simp [chainR]; intro h1 h2; exact absurd ⟨h1, h2⟩ hc
    rw [hr]
    cases hk : graphOk g with
    | false =>
      rw [hk] at G
      repeat' (first
       | with_reducible refine stp ?_
       | with_reducible refine k_blk_o rfl ?_
       | with_reducible refine k_seq_n ?_
       | ((try (conv => arg 1; simp [b2, ltS, nm_ne])); with_reducible refine evp ?_)
       | ((with_reducible refine apn ?na ?_); (case na => simp [appNames, ints, intss] <;> first | kernel_rfl | (refine ⟨?_, ?_⟩ <;> kernel_rfl)))
       | ((with_reducible refine tcl ?_); first | ((apply tg (G)); (case e => rfl); (case d => (refine dq ?_); (repeat' (first | ((refine Da.mk ?_); first | exact dr_blocks (by simp) _ | assumption) | constructor)))))
       | fail)
      exact fin_own (Cx.close_own (xs := []) x2.next.next)
    | true =>
      have hlb : ¬ (l.length : Int) = g.Blocks.length := fun e => hc ⟨hk, by omega⟩
      have hlb2 : ¬ l.length = g.Blocks.length := fun e => hc ⟨hk, e⟩
      rw [hk] at G
      repeat' (first
       | with_reducible refine stp ?_
       | with_reducible refine k_blk_o rfl ?_
       | with_reducible refine k_seq_n ?_
       | ((try (conv => arg 1; simp [b2, hlb, hlb2, ltS, nm_ne])); with_reducible refine evp ?_)
       | ((with_reducible refine apn ?na ?_); (case na => simp [appNames, ints, intss] <;> first | kernel_rfl | (refine ⟨?_, ?_⟩ <;> kernel_rfl)))
       | ((with_reducible refine tcl ?_); first | ((apply tg (G)); (case e => rfl); (case d => (refine dq ?_); (repeat' (first | ((refine Da.mk ?_); first | exact dr_blocks (by simp) _ | assumption) | constructor)))))
       | fail)
      exact fin_own (Cx.close_own (xs := []) x2.next.next)
end Go.Proofs.Ytlmlkkkgcbpaoaa.AM

/-
  A chain of blocks: the program's.
-/
set_option linter.unusedVariables false
set_option linter.unusedSimpArgs false
set_option maxRecDepth 4000
namespace Go.Proofs.Ytlmlkkkgcbpaoaa.AM
open Go.RowKit

private def MG20 : FuncId → Mode := fun f => .tree

theorem dr_ints_sl' {c : Bool} {rows : Nm → Option Row} {n : Nm} {ver len : Nat} {l : List Int} (hl : l.length = len) (h : rows n = some ⟨ver, 1, cl1 l⟩) : DR c rows (.sl n ver 0 len) (ints c l) := by
  subst hl
  exact dr_ints_sl h
theorem nextL_len (b : Block) : (nextL b).length ≤ 2 := by
  unfold nextL
  split
  · simp
  · split <;> simp

theorem first_free {th : List Bool} {t : Int} {n : Nat} (hn : th.length = n) (hf : Free n th t) : ∃ q : Nat, idxOf (fun x => !x) th = (q : Int) ∧ ∃ hq : q < th.length, th[q] = false ∧ ∀ j (hj : j < th.length), j < q → th[j] = true := by
  obtain ⟨f1, f2, f3⟩ := hf
  have hlt : t.toNat < th.length := by omega
  have hff : th[t.toNat] = false := by simpa [hlt] using f3
  have ha : th.any (fun x => !x) = true := List.any_eq_true.2 ⟨_, List.getElem_mem hlt, by simp [hff]⟩
  have hq : (th.findIdx fun x => !x) < th.length := List.findIdx_lt_length.2 (List.any_eq_true.1 ha)
  refine ⟨th.findIdx fun x => !x, by simp [idxOf, ha], hq, ?_, fun j hj hlt => ?_⟩
  · have := List.findIdx_getElem (w := hq)
    simpa using this
  · have := List.not_of_lt_findIdx hlt
    simpa using this

set_option maxHeartbeats 8000000 in
theorem implchain (g : Graph) (d : g.Small) (hk : graphOk g = true) (l : List Int) (hlb : l.length = g.Blocks.length) : FreshW Try.prog 43 [.agg (g.cells true), ints true l] (fun b => ints b (ch g l g.Blocks.length).1) := by
  intro T
  have hln := d.len
  have hnb : 1 ≤ g.Blocks.length := (headOk_head (by simp only [graphOk, Bool.and_eq_true] at hk; exact hk.1.1)).blocks.1
  refine enter mixed MG20 Try.func43 rfl (by kernel_rfl) rfl ?_
  repeat' (first
   | with_reducible refine stp ?_
   | with_reducible refine k_blk_o rfl ?_
   | ((try (conv => arg 1; simp [Graph.cells])); with_reducible refine evp ?_)
   | ((with_reducible refine apn ?na ?_); (case na => simp [appNames, ints, intss] <;> first | kernel_rfl | (refine ⟨?_, ?_⟩ <;> kernel_rfl)))
   | fail)
  refine cx_k (Cx.mt.next.box_one (T := T) (i := 0) Cx.mt.off (by simp)) ?_
  intro h1 x1
  have b1 := x1.bxs
  simp only [Bxs] at b1
  repeat' (first
   | with_reducible refine stp ?_
   | with_reducible refine k_blk_o rfl ?_
   | ((try (conv => arg 1; simp [b1, rgo])); with_reducible refine evp ?_)
   | ((with_reducible refine apn ?na ?_); (case na => simp [appNames, ints, intss] <;> first | kernel_rfl | (refine ⟨?_, ?_⟩ <;> kernel_rfl)))
   | fail)
  refine cx_k (x1.next.box_one (T := h1.tick) (i := 0) (r := ⟨0, 1, [[.int .i64 0]]⟩) x1.off (by simp)) ?_
  intro h2 x2
  have b2 := x2.bxs
  simp only [Bxs] at b2
  repeat' (first
   | with_reducible refine stp ?_
   | with_reducible refine k_blk_o rfl ?_
   | with_reducible refine k_seq_n ?_
   | ((try (conv => arg 1; simp [b2, ltS, nm_ne])); with_reducible refine evp ?_)
   | ((with_reducible refine apn ?na ?_); (case na => simp [appNames, ints, intss] <;> first | kernel_rfl | (refine ⟨?_, ?_⟩ <;> kernel_rfl)))
   | fail)
  refine st_loop (fun (k : Nat) σ h => 1 ≤ k ∧ k ≤ g.Blocks.length ∧ σ 1 = ints true l ∧ σ 2 = .ptr (T, 0, 0) 0 0 0 ∧ σ 5 = .sl (h1.tick, 0, 0) (k - 1) 0 k ∧
    Cx h [((h1.tick, 0, 0), ⟨k - 1, 1, cl1 (ch g l k).1⟩), ((T, 0, 0), graphRow g)] []) (fun k => g.Blocks.length - k) 1 ?init ?step
  case init =>
    have e0 : cl1 (ch g l 1).1 = [[AV.int .i64 0]] := by simp [ch, cl1]
    refine ⟨Nat.le_refl _, hnb, by simp, by simp, by simp, ?_⟩
    rw [e0]
    exact Cx.to x2
  case step =>
    rintro k σ h ⟨hk1, hkn, s1, s2, s5, x⟩
    have b := x.bxs
    simp only [Bxs, graphRow] at b
    obtain ⟨C, F, E⟩ := ch_ok hk l k hkn
    have hw : IntKind.i64.wrap (k - 1) = ((k - 1 : Nat) : Int) := by rw [wrap_id (by omega) (by omega)]; omega
    have hk0 : 0 < k := hk1
    have hkk : k - 1 < k := by omega
    have hT1 : ¬ T = h.tick + 1 + 1 := by have := b.2.2.2.1; omega
    have hT2 : ¬ h1.tick = h.tick + 1 + 1 := by have := b.2.1; omega
    by_cases hlt : k < g.Blocks.length
    · obtain ⟨f1, f2, f3⟩ := F hlt
      obtain ⟨a, ha⟩ : ∃ a : Nat, (ch g l k).1.getLastD 0 = (a : Int) ∧ a < g.Blocks.length := by
        have hne : (ch g l k).1 ≠ [] := fun e => by have := C.len; rw [e] at this; simp at this; omega
        have hm := C.mem _ (show (ch g l k).1.getLastD 0 ∈ (ch g l k).1 by
          rw [List.getLastD_eq_getLast?, List.getLast?_eq_some_getLast hne]
          exact List.getLast_mem hne)
        exact ⟨((ch g l k).1.getLastD 0).toNat, by omega, by omega⟩
      obtain ⟨ha, hal⟩ := ha
      have hlen := C.len
      have hal2 : (cl1 (ch g l k).1)[k - 1]? = some [.int .i64 a] := by
        rw [← ha]
        simp only [cl1, List.getElem?_map]
        rw [List.getLastD_eq_getLast?, List.getLast?_eq_getElem?, hlen]
        have : k - 1 < (ch g l k).1.length := by omega
        simp [this]
      have hblk : g.Blocks[a]? = some g.Blocks[a] := by simp
      have hblen := block_len true g.Blocks[a]
      have N := nextOf g.Blocks[a]
      have hx := next_ok hk hal
      have hn2 := nextL_len g.Blocks[a]
      have hat : chAt g l k = if bst l (ch g l k).2 (nextL g.Blocks[a]) (-1) < 0 then idxOf (fun x => !x) (ch g l k).2 else bst l (ch g l k).2 (nextL g.Blocks[a]) (-1) := by
        unfold chAt chNext
        rw [if_neg (by omega), ha, Int.toNat_natCast, show g.Blocks.getD a ⟨[], 0, 0, 0, 0⟩ = g.Blocks[a] by simp [hal]]
      repeat' (first
       | with_reducible refine stp ?_
       | with_reducible refine k_blk_o rfl ?_
       | with_reducible refine k_seq_n ?_
       | ((try (conv => arg 1; simp [s1, s2, s5, b, hlt])); with_reducible refine evp ?_)
       | ((with_reducible refine apn ?na ?_); (case na => simp [appNames, ints, intss] <;> first | kernel_rfl | (refine ⟨?_, ?_⟩ <;> kernel_rfl)))
       | fail)
      repeat (with_reducible first | refine stp ?_ | refine k_seq_n ?_)
      refine st_draw 13 (fun _ => false) (by kernel_rfl) ?_
      simp only [List.take_succ_cons, List.take_zero, List.drop_succ_cons, List.drop_zero, List.take_nil, List.drop_nil]
      repeat' (first
       | with_reducible refine stp ?_
       | with_reducible refine k_blk_o rfl ?_
       | with_reducible refine k_seq_n ?_
       | ((try (conv => arg 1; simp [s1, s2, s5, b, maskR, hT1, hT2, hk0, hkk, hlt, hw, hal2, blocks, hblk, hblen, Block.cells, ltS, nm_ne])); with_reducible refine evp ?_)
       | ((with_reducible refine apn ?na ?_); (case na => simp [appNames, ints, intss] <;> first | kernel_rfl | (refine ⟨?_, ?_⟩ <;> kernel_rfl)))
       | ((with_reducible refine tcl ?_); first | ((apply tg (N)); (case e => rfl); (case d => (refine dq ?_); (repeat' (first | ((refine Da.mk ?_); first | exact dr_instrs (by simp) _ | assumption) | constructor)))))
       | fail)
      have hlt0 := hlt
      have f4 : Free g.Blocks.length (ch g l k).2 (chAt g l k) := ⟨f1, f2, f3⟩
      obtain ⟨q, hiq, hq, hqf, hqt⟩ := first_free C.tlen f4
      have tlen := C.tlen
      have K : ∀ j : Nat, (hj : j < g.Blocks.length) → Pure Try.prog 49 [ints true (ch g l k).1, .int .i64 j] (.bool ((ch g l k).2[j]'(by omega))) := fun j hj => by
        have := containsI (ch g l k).1 j (by omega)
        rw [← C.rel j hj, show (ch g l k).2.getD j true = (ch g l k).2[j]'(by omega) by simp [tlen, hj]] at this
        exact this
      generalize hN : nextL g.Blocks[a] = ts at *
      refine st_loop (fun (i : Nat) σ h => i ≤ ts.length ∧ σ 1 = ints true l ∧ σ 2 = .ptr (T, 0, 0) 0 0 0 ∧ σ 5 = .sl (h1.tick, 0, 0) (k - 1) 0 k ∧ σ 27 = ints false ts ∧ σ 28 = .int .i64 ts.length ∧ σ 29 = .int .i64 i ∧
        Cx h [((h1.tick, 0, 0), ⟨k - 1, 1, cl1 (ch g l k).1⟩), ((T, 0, 0), graphRow g)] [] ∧ ∃ b, σ 6 = .int .i64 b ∧ (b = -1 ∨ Free g.Blocks.length (ch g l k).2 b) ∧ bst l (ch g l k).2 (ts.drop i) b = bst l (ch g l k).2 ts (-1)) (fun i => ts.length - i) 0 ?init ?step
      case init => exact ⟨Nat.zero_le _, by simp [s1], by simp [s2], by simp [s5], by simp, by simp, by simp, Cx.to x, -1, by simp, .inl rfl, rfl⟩
      case step =>
        rintro i σ h ⟨hi, s1, s2, s5, s27, s28, s29, x, bb, s6, hbb, hd⟩
        have b := x.bxs
        simp only [Bxs, graphRow] at b
        have hT2 : ¬ h1.tick = h.tick + 1 + 1 := by have := b.2.1; omega
        by_cases hlt : i < ts.length
        · have hlt2 : (i : Int) < ts.length := by omega
          have hti : ts[i]? = some ts[i] := by simp
          have hw : IntKind.i64.wrap (i + 1) = i + 1 := wrap_id (by omega) (by omega)
          obtain ⟨t, et⟩ : ∃ t : Nat, ts[i] = (t : Int) := ⟨ts[i].toNat, by have := hx _ (List.getElem_mem hlt); omega⟩
          have htl : t < g.Blocks.length := by have := hx _ (List.getElem_mem hlt); omega
          have hlt' : l[t]? = some l[t] := by simp [hlb, htl]
          rw [bst_drop hlt, et, Int.toNat_natCast] at hd
          rw [show (ch g l k).2.getD t true = (ch g l k).2[t]'(by omega) by simp [tlen, htl]] at hd
          rw [et] at hti
          have Kt := K t htl
          cases hv : (ch g l k).2[t]'(by omega) with
          | true =>
            rw [hv] at hd Kt
            repeat' (first
             | with_reducible refine stp ?_
             | with_reducible refine k_blk_o rfl ?_
             | with_reducible refine k_seq_n ?_
             | ((try (conv => arg 1; simp [s1, s2, s5, s27, s28, s29, ints, hti, hlt2])); with_reducible refine evp ?_)
             | ((with_reducible refine apn ?na ?_); (case na => simp [appNames, ints, intss] <;> first | kernel_rfl | (refine ⟨?_, ?_⟩ <;> kernel_rfl)))
             | fail)
            repeat (with_reducible first | refine stp ?_ | refine k_seq_n ?_)
            refine st_draw 19 (fun _ => false) (by kernel_rfl) ?_
            simp only [List.take_succ_cons, List.take_zero, List.drop_succ_cons, List.drop_zero, List.take_nil, List.drop_nil]
            repeat' (first
             | with_reducible refine stp ?_
             | with_reducible refine k_blk_o rfl ?_
             | with_reducible refine k_seq_n ?_
             | ((try (conv => arg 1; simp [s1, s2, s5, s6, s27, s29, ints, hti, hw])); with_reducible refine evp ?_)
             | ((with_reducible refine apn ?na ?_); (case na => simp [appNames, ints, intss] <;> first | kernel_rfl | (refine ⟨?_, ?_⟩ <;> kernel_rfl)))
             | ((with_reducible refine tcl ?_); first | ((apply tg (Kt)); (case e => rfl); (case d => (refine dq ?_); (repeat' (first | ((refine Da.mk ?_); first | exact dr_ints_sl' C.len (by simp [maskR, b, hT2]) | assumption) | constructor)))))
             | fail)
            refine k_lp_n (i + 1) (by omega) ⟨by omega, by simp [s1], by simp [s2], by simp [s5], by simp [s27], by simp [s28], by simp, Cx.to x, bb, by simp [s6], hbb, by simpa using hd⟩
          | false =>
            rw [hv] at hd Kt
            have hfr : Free g.Blocks.length (ch g l k).2 (t : Int) := ⟨by omega, by omega, by simp [tlen, htl, hv]⟩
            rcases hbb with rfl | hbb
            · skip
              repeat' (first
               | with_reducible refine stp ?_
               | with_reducible refine k_blk_o rfl ?_
               | with_reducible refine k_seq_n ?_
               | ((try (conv => arg 1; simp [s1, s2, s5, s27, s28, s29, ints, hti, hlt2])); with_reducible refine evp ?_)
               | ((with_reducible refine apn ?na ?_); (case na => simp [appNames, ints, intss] <;> first | kernel_rfl | (refine ⟨?_, ?_⟩ <;> kernel_rfl)))
               | fail)
              repeat (with_reducible first | refine stp ?_ | refine k_seq_n ?_)
              refine st_draw 19 (fun _ => false) (by kernel_rfl) ?_
              simp only [List.take_succ_cons, List.take_zero, List.drop_succ_cons, List.drop_zero, List.take_nil, List.drop_nil]
              repeat' (first
               | with_reducible refine stp ?_
               | with_reducible refine k_blk_o rfl ?_
               | with_reducible refine k_seq_n ?_
               | ((try (conv => arg 1; simp [s1, s2, s5, s6, s27, s29, ints, hti, hw])); with_reducible refine evp ?_)
               | ((with_reducible refine apn ?na ?_); (case na => simp [appNames, ints, intss] <;> first | kernel_rfl | (refine ⟨?_, ?_⟩ <;> kernel_rfl)))
               | ((with_reducible refine tcl ?_); first | ((apply tg (Kt)); (case e => rfl); (case d => (refine dq ?_); (repeat' (first | ((refine Da.mk ?_); first | exact dr_ints_sl' C.len (by simp [maskR, b, hT2]) | assumption) | constructor)))))
               | fail)
              refine k_lp_n (i + 1) (by omega) ⟨by omega, by simp [s1], by simp [s2], by simp [s5], by simp [s27], by simp [s28], by simp, Cx.to x, t, by simp, .inr hfr, by simpa using hd⟩
            · obtain ⟨c, rfl⟩ : ∃ c : Nat, bb = (c : Int) := ⟨bb.toNat, by have := hbb.1; omega⟩
              have hcl : c < g.Blocks.length := by have := hbb.2.1; omega
              have hlc : l[c]? = some (l[c]'(by omega)) := by simp [hlb, hcl]
              have hc0 : ¬ (c : Int) < 0 := by omega
              rw [rdI_at (l := l) (i := c) (by omega), rdI_at (l := l) (i := t) (by omega)] at hd
              by_cases hcmp : l[c]'(by omega) < l[t]'(by omega)
              · skip
                repeat' (first
                 | with_reducible refine stp ?_
                 | with_reducible refine k_blk_o rfl ?_
                 | with_reducible refine k_seq_n ?_
                 | ((try (conv => arg 1; simp [s1, s2, s5, s27, s28, s29, ints, hti, hlt2])); with_reducible refine evp ?_)
                 | ((with_reducible refine apn ?na ?_); (case na => simp [appNames, ints, intss] <;> first | kernel_rfl | (refine ⟨?_, ?_⟩ <;> kernel_rfl)))
                 | fail)
                repeat (with_reducible first | refine stp ?_ | refine k_seq_n ?_)
                refine st_draw 19 (fun _ => false) (by kernel_rfl) ?_
                simp only [List.take_succ_cons, List.take_zero, List.drop_succ_cons, List.drop_zero, List.take_nil, List.drop_nil]
                repeat' (first
                 | with_reducible refine stp ?_
                 | with_reducible refine k_blk_o rfl ?_
                 | with_reducible refine k_seq_n ?_
                 | ((try (conv => arg 1; simp [s1, s2, s5, s6, s27, s29, ints, hti, hw, hlt', hlc, hc0, hcmp])); with_reducible refine evp ?_)
                 | ((with_reducible refine apn ?na ?_); (case na => simp [appNames, ints, intss] <;> first | kernel_rfl | (refine ⟨?_, ?_⟩ <;> kernel_rfl)))
                 | ((with_reducible refine tcl ?_); first | ((apply tg (Kt)); (case e => rfl); (case d => (refine dq ?_); (repeat' (first | ((refine Da.mk ?_); first | exact dr_ints_sl' C.len (by simp [maskR, b, hT2]) | assumption) | constructor)))))
                 | fail)
                refine k_lp_n (i + 1) (by omega) ⟨by omega, by simp [s1], by simp [s2], by simp [s5], by simp [s27], by simp [s28], by simp, Cx.to x, t, by simp, .inr hfr, by simpa [hcmp] using hd⟩
              · skip
                repeat' (first
                 | with_reducible refine stp ?_
                 | with_reducible refine k_blk_o rfl ?_
                 | with_reducible refine k_seq_n ?_
                 | ((try (conv => arg 1; simp [s1, s2, s5, s27, s28, s29, ints, hti, hlt2])); with_reducible refine evp ?_)
                 | ((with_reducible refine apn ?na ?_); (case na => simp [appNames, ints, intss] <;> first | kernel_rfl | (refine ⟨?_, ?_⟩ <;> kernel_rfl)))
                 | fail)
                repeat (with_reducible first | refine stp ?_ | refine k_seq_n ?_)
                refine st_draw 19 (fun _ => false) (by kernel_rfl) ?_
                simp only [List.take_succ_cons, List.take_zero, List.drop_succ_cons, List.drop_zero, List.take_nil, List.drop_nil]
                repeat' (first
                 | with_reducible refine stp ?_
                 | with_reducible refine k_blk_o rfl ?_
                 | with_reducible refine k_seq_n ?_
                 | ((try (conv => arg 1; simp [s1, s2, s5, s6, s27, s29, ints, hti, hw, hlt', hlc, hc0, hcmp])); with_reducible refine evp ?_)
                 | ((with_reducible refine apn ?na ?_); (case na => simp [appNames, ints, intss] <;> first | kernel_rfl | (refine ⟨?_, ?_⟩ <;> kernel_rfl)))
                 | ((with_reducible refine tcl ?_); first | ((apply tg (Kt)); (case e => rfl); (case d => (refine dq ?_); (repeat' (first | ((refine Da.mk ?_); first | exact dr_ints_sl' C.len (by simp [maskR, b, hT2]) | assumption) | constructor)))))
                 | fail)
                refine k_lp_n (i + 1) (by omega) ⟨by omega, by simp [s1], by simp [s2], by simp [s5], by simp [s27], by simp [s28], by simp, Cx.to x, c, by simp [s6], .inr hbb, by simpa [hcmp, hc0] using hd⟩
        · have hlt2 : ¬ (i : Int) < ts.length := by omega
          rw [List.drop_of_length_le (by omega)] at hd
          have hd : bb = bst l (ch g l k).2 ts (-1) := hd
          rw [← hd] at hat
          repeat' (first
           | with_reducible refine stp ?_
           | with_reducible refine k_blk_o rfl ?_
           | with_reducible refine k_seq_n ?_
           | ((try (conv => arg 1; simp [s28, s29, hlt2])); with_reducible refine evp ?_)
           | ((with_reducible refine apn ?na ?_); (case na => simp [appNames, ints, intss] <;> first | kernel_rfl | (refine ⟨?_, ?_⟩ <;> kernel_rfl)))
           | fail)
          refine st_loop (fun (i : Nat) σ h => σ 1 = ints true l ∧ σ 2 = .ptr (T, 0, 0) 0 0 0 ∧ σ 5 = .sl (h1.tick, 0, 0) (k - 1) 0 k ∧ σ 9 = .int .i64 i ∧
            Cx h [((h1.tick, 0, 0), ⟨k - 1, 1, cl1 (ch g l k).1⟩), ((T, 0, 0), graphRow g)] [] ∧ ∃ c, σ 6 = .int .i64 c ∧ ((c = -1 ∧ bb = -1 ∧ i ≤ q) ∨ c = chAt g l k)) (fun i => q + 1 - i) 0 ?init ?step
          case init => 
            refine ⟨by simp [s1], by simp [s2], by simp [s5], by simp, Cx.to x, bb, by simp [s6], ?_⟩
            rcases hbb with h | h
            · exact .inl ⟨h, h, Nat.zero_le _⟩
            · right
              rw [if_neg (by have := h.1; omega)] at hat
              exact hat.symm
          case step =>
            rintro i σ h ⟨s1, s2, s5, s9, x, c, s6, hc⟩
            have b := x.bxs
            simp only [Bxs, graphRow] at b
            rcases hc with ⟨rfl, hb1, hiq2⟩ | rfl
            · have hil : i < g.Blocks.length := by omega
              have Ki := K i hil
              have hw : IntKind.i64.wrap (i + 1) = i + 1 := wrap_id (by omega) (by omega)
              by_cases e : i = q
              · subst e
                rw [hqf] at Ki
                rw [if_pos (by omega), hiq] at hat
                repeat' (first
                 | with_reducible refine stp ?_
                 | with_reducible refine k_blk_o rfl ?_
                 | with_reducible refine k_seq_n ?_
                 | ((try (conv => arg 1; simp [s5, s6, s9, hw])); with_reducible refine evp ?_)
                 | ((with_reducible refine apn ?na ?_); (case na => simp [appNames, ints, intss] <;> first | kernel_rfl | (refine ⟨?_, ?_⟩ <;> kernel_rfl)))
                 | ((with_reducible refine tcl ?_); first | ((apply tg (Ki)); (case e => rfl); (case d => (refine dq ?_); (repeat' (first | ((refine Da.mk ?_); first | exact dr_ints_sl' C.len (by simp [b]) | assumption) | constructor)))))
                 | fail)
                refine k_lp_n (i + 1) (by omega) ⟨by simp [s1], by simp [s2], by simp [s5], by simp, Cx.to x, i, by simp, .inr hat.symm⟩
              · rw [hqt i (by omega) (by omega)] at Ki
                repeat' (first
                 | with_reducible refine stp ?_
                 | with_reducible refine k_blk_o rfl ?_
                 | with_reducible refine k_seq_n ?_
                 | ((try (conv => arg 1; simp [s5, s6, s9, hw])); with_reducible refine evp ?_)
                 | ((with_reducible refine apn ?na ?_); (case na => simp [appNames, ints, intss] <;> first | kernel_rfl | (refine ⟨?_, ?_⟩ <;> kernel_rfl)))
                 | ((with_reducible refine tcl ?_); first | ((apply tg (Ki)); (case e => rfl); (case d => (refine dq ?_); (repeat' (first | ((refine Da.mk ?_); first | exact dr_ints_sl' C.len (by simp [b]) | assumption) | constructor)))))
                 | fail)
                refine k_lp_n (i + 1) (by omega) ⟨by simp [s1], by simp [s2], by simp [s5], by simp, Cx.to x, -1, by simp [s6], .inl ⟨rfl, hb1, by omega⟩⟩
            · obtain ⟨z, hz⟩ : ∃ z : Nat, chAt g l k = (z : Int) := ⟨(chAt g l k).toNat, by omega⟩
              rw [hz] at s6
              have hcs := ch_succ g l k
              rw [hz] at hcs
              have e2 : cl1 (ch g l k).1 ++ [[AV.int .i64 z]] = cl1 (ch g l (k + 1)).1 := by rw [hcs]; simp [cl1]
              have hz0 : ¬ (z : Int) < 0 := by omega
              have hlen := C.len
              have hT : ¬ h1.tick = h.tick + 1 := by have := b.2.1; omega
              repeat' (first
               | with_reducible refine stp ?_
               | with_reducible refine k_blk_o rfl ?_
               | with_reducible refine k_seq_n ?_
               | ((try (conv => arg 1; simp [s5, s6, b, hz0, rgo, hT, ltS, nm_ne])); with_reducible refine evp ?_)
               | ((with_reducible refine apn ?na ?_); (case na => simp [appNames, ints, intss] <;> first | kernel_rfl | (refine ⟨?_, ?_⟩ <;> kernel_rfl)))
               | fail)
              conv => arg 1; simp [s5]
              rw [appendA_snoc (s := 1) (l := cl1 (ch g l k).1) (e := [.int .i64 z]) (by kernel_rfl) ?hr (by simp [cl1, hlen]) ?hk rfl (by omega) ?hm]
              case hr => simp [b, hT]
              case hk => simp
              case hm => simp; omega
              refine ev2_some ?_
              rw [e2]
              have hkk1 : k - 1 + 1 = k := by omega
              repeat' (first
               | with_reducible refine stp ?_
               | with_reducible refine k_blk_o rfl ?_
               | with_reducible refine k_seq_n ?_
               | ((try (conv => arg 1; simp [s5, s6, hkk1])); with_reducible refine evp ?_)
               | ((with_reducible refine apn ?na ?_); (case na => simp [appNames, ints, intss] <;> first | kernel_rfl | (refine ⟨?_, ?_⟩ <;> kernel_rfl)))
               | fail)
              refine k_lp_n (k + 1) (by omega) ⟨by omega, by omega, by simp [s1], by simp [s2], by simp, by rw [show k + 1 - 1 = k - 1 + 1 by omega]; exact Cx.to x⟩
    · have hke : k = g.Blocks.length := by omega
      have hr2 : (ch g l g.Blocks.length).1 = (ch g l k).1 := by rw [hke]
      rw [hr2]
      repeat' (first
       | with_reducible refine stp ?_
       | with_reducible refine k_blk_o rfl ?_
       | with_reducible refine k_seq_n ?_
       | ((try (conv => arg 1; simp [s1, s2, s5, b, hlt])); with_reducible refine evp ?_)
       | ((with_reducible refine apn ?na ?_); (case na => simp [appNames, ints, intss] <;> first | kernel_rfl | (refine ⟨?_, ?_⟩ <;> kernel_rfl)))
       | fail)
      have z := Cx.close_own x
      rw [C.len] at z
      exact fin_own z.next.next
end Go.Proofs.Ytlmlkkkgcbpaoaa.AM

/-
  A chain of blocks: the program's, from the door.
-/
set_option linter.unusedVariables false
set_option linter.unusedSimpArgs false
set_option maxRecDepth 4000
namespace Go.Proofs.Ytlmlkkkgcbpaoaa.AM
open Go.RowKit

private def MG21 : FuncId → Mode := fun f => if f = 43 then .fresh else .tree

theorem implChain (g : Graph) (d : g.Small) (l : List Int) (hl : l.length ≤ 2 ^ 20) : FreshW Try.prog 18 [.agg (g.cells true), ints true l] (fun b => ints b (chainR g l)) := by
  intro T
  have hln := d.len
  have G := isGraph g d
  refine enter mixed MG21 Try.func18 rfl (by kernel_rfl) rfl ?_
  repeat' (first
   | with_reducible refine stp ?_
   | with_reducible refine k_blk_o rfl ?_
   | ((try (conv => arg 1; simp [Graph.cells])); with_reducible refine evp ?_)
   | ((with_reducible refine apn ?na ?_); (case na => simp [appNames, ints, intss] <;> first | kernel_rfl | (refine ⟨?_, ?_⟩ <;> kernel_rfl)))
   | fail)
  refine cx_k (Cx.mt.next.box_one (T := T) (i := 0) Cx.mt.off (by simp)) ?_
  intro h1 x1
  have b1 := x1.bxs
  simp only [Bxs] at b1
  by_cases hc : graphOk g = true ∧ l.length = g.Blocks.length
  · obtain ⟨hk, hlb⟩ := hc
    have hlb2 : (l.length : Int) = g.Blocks.length := by omega
    have hr : chainR g l = (ch g l g.Blocks.length).1 := by simp [chainR, hk, hlb]
    rw [hr]
    rw [hk] at G
    have I := implchain g d hk l hlb
    repeat' (first
     | with_reducible refine stp ?_
     | with_reducible refine k_blk_o rfl ?_
     | with_reducible refine k_seq_n ?_
     | ((try (conv => arg 1; simp [b1, hlb, hlb2, ltS, nm_ne])); with_reducible refine evp ?_)
     | ((with_reducible refine apn ?na ?_); (case na => simp [appNames, ints, intss] <;> first | kernel_rfl | (refine ⟨?_, ?_⟩ <;> kernel_rfl)))
     | ((with_reducible refine tcl ?_); first | ((apply tg (G)); (case e => rfl); (case d => (refine dq ?_); (repeat' (first | ((refine Da.mk ?_); first | exact dr_blocks (by simp) _ | assumption) | constructor)))))
     | fail)
    refine st_freshw rfl I (.cons (dr_agg (drs_graphL g fun h => h)) (.cons (dr_ints (fun h => h) _) .nil)) ?_
    intro v h3 n o d f p t
    have q := own_one (ownV_ints (o true))
    repeat' (first
     | with_reducible refine stp ?_
     | with_reducible refine k_blk_o rfl ?_
     | with_reducible refine k_seq_n ?_
     | ((try (conv => arg 1; simp [q.1, q.2.1, q.2.2])); with_reducible refine evp ?_)
     | ((with_reducible refine apn ?na ?_); (case na => simp [appNames, ints, intss] <;> first | kernel_rfl | (refine ⟨?_, ?_⟩ <;> kernel_rfl)))
     | fail)
    have x3 := x1.next.next.fresh o d f p t
    exact fin_own x3
  · have hr : chainR g l = [] := by simp [chainR]; intro h1 h2; exact absurd ⟨h1, h2⟩ hc
    rw [hr]
    cases hk : graphOk g with
    | false =>
      rw [hk] at G
      repeat' (first
       | with_reducible refine stp ?_
       | with_reducible refine k_blk_o rfl ?_
       | with_reducible refine k_seq_n ?_
       | ((try (conv => arg 1; simp [b1, ltS, nm_ne])); with_reducible refine evp ?_)
       | ((with_reducible refine apn ?na ?_); (case na => simp [appNames, ints, intss] <;> first | kernel_rfl | (refine ⟨?_, ?_⟩ <;> kernel_rfl)))
       | ((with_reducible refine tcl ?_); first | ((apply tg (G)); (case e => rfl); (case d => (refine dq ?_); (repeat' (first | ((refine Da.mk ?_); first | exact dr_blocks (by simp) _ | assumption) | constructor)))))
       | fail)
      exact ⟨[], fun c => OwnV.one (.nilsl .nil), .nil, fun n hn => by cases hn⟩
    | true =>
      have hlb : ¬ (l.length : Int) = g.Blocks.length := fun e => hc ⟨hk, by omega⟩
      have hlb2 : ¬ l.length = g.Blocks.length := fun e => hc ⟨hk, e⟩
      rw [hk] at G
      repeat' (first
       | with_reducible refine stp ?_
       | with_reducible refine k_blk_o rfl ?_
       | with_reducible refine k_seq_n ?_
       | ((try (conv => arg 1; simp [b1, hlb, hlb2, ltS, nm_ne])); with_reducible refine evp ?_)
       | ((with_reducible refine apn ?na ?_); (case na => simp [appNames, ints, intss] <;> first | kernel_rfl | (refine ⟨?_, ?_⟩ <;> kernel_rfl)))
       | ((with_reducible refine tcl ?_); first | ((apply tg (G)); (case e => rfl); (case d => (refine dq ?_); (repeat' (first | ((refine Da.mk ?_); first | exact dr_blocks (by simp) _ | assumption) | constructor)))))
       | fail)
      exact ⟨[], fun c => OwnV.one (.nilsl .nil), .nil, fun n hn => by cases hn⟩
end Go.Proofs.Ytlmlkkkgcbpaoaa.AM

/-
  A chain of blocks: both sides, and its size.
-/
set_option linter.unusedVariables false
set_option maxRecDepth 4000
namespace Go.Proofs.Ytlmlkkkgcbpaoaa.AM
theorem chainR_len (g : Graph) (d : g.Small) (l : List Int) : (chainR g l).length ≤ 2 ^ 20 := by
  have hln := d.len
  unfold chainR
  split
  · rename_i h
    rw [(ch_ok h.1 l _ (Nat.le_refl _)).1.len]
    omega
  · simp
end Go.Proofs.Ytlmlkkkgcbpaoaa.AM

/-
  Graphs: the reference's copy.
-/
set_option linter.unusedVariables false
set_option linter.unusedSimpArgs false
set_option maxRecDepth 4000
namespace Go.Proofs.Ytlmlkkkgcbpaoaa.AM
open Go.RowKit

private def MG23 : FuncId → Mode := fun f => .tree

theorem srcElems_instrs (rows : Nm → Option Row) (b : Bool) (xs : List Instr) : srcElems rows (instrs b xs) = some (xs.map Instr.cells) := rfl
theorem appendA_mt_instrs {P : Program} {t : TypeId} {m n : Nm} {v : Nat} {h : Hp} (b : Bool) (xs : List Instr) (h0 : ((telem P t).bind fun e => (tsz P e).bind fun s => (tby P e).bind fun bb => (tzero P e).bind fun z => some (decide (s = 7 ∧ bb ≤ 32768 ∧ z.length = 7))) = some true)
    (hr : h.rows m = some ⟨v, 7, []⟩) (hl : xs.length ≤ 4294967296) (hm : decide (m.1 < h.tick) = true) :
    appendA P t (.sl m v 0 0) (instrs b xs) h n = some (.sl m (v + if xs.length = 0 then 0 else 1) 0 xs.length, h.put m ⟨v + if xs.length = 0 then 0 else 1, 7, xs.map Instr.cells⟩) := by
  simp only [Option.bind_eq_some_iff] at h0
  obtain ⟨e, he, s, hs, bb, hb, z, hz, hd⟩ := h0
  simp only [Option.some.injEq, decide_eq_true_eq] at hd
  obtain ⟨rfl, hd2, hd3⟩ := hd
  have := appendA_mt (n := n) (xs.map Instr.cells) he hs hb hz ⟨by omega, hd2, hd3⟩ hr (srcElems_instrs h.rows b xs) (fun e he => by simp at he; obtain ⟨a, _, rfl⟩ := he; rfl) (by simpa using hl) (of_decide_eq_true hm)
  simpa using this
attribute [simp] appendA_mt_instrs
theorem Cx.close_instrs {h : Hp} {bs : Bx} {os : Ox} {k : Nm} {ver : Nat} {xs : List Instr} (x : Cx h ((k, ⟨ver, 7, xs.map Instr.cells⟩) :: bs) os) : Cx h bs ((.sl k ver 0 xs.length, (fun b => instrs b xs), [k]) :: os) := by
  have := Cx.close_flat (l := xs.map Instr.cells) (sp := []) (s := 7) (by rw [List.append_nil]; exact x) (instrs_flat xs) (fun e he => by cases he) (fun i e j y he => by simp at he)
  rw [List.length_map] at this
  exact this

set_option maxHeartbeats 4000000 in
theorem l04Copy (g : Graph) (hs : g.Small) : FreshW Try.prog 45 [.agg (g.cells true)] (fun b => .agg (g.cells b)) := by
  intro T
  have z1 : g.Sizes.length ≤ 4294967296 := by have := hs.sizes; omega
  have hln := hs.len
  refine enter mixed MG23 Try.func45 rfl (by kernel_rfl) rfl ?_
  repeat' (first
   | with_reducible refine stp ?_
   | with_reducible refine k_blk_o rfl ?_
   | ((try (conv => arg 1; simp [Graph.cells])); with_reducible refine evp ?_)
   | ((with_reducible refine apn ?na ?_); (case na => simp [appNames, ints, intss] <;> first | kernel_rfl | (refine ⟨?_, ?_⟩ <;> kernel_rfl)))
   | fail)
  refine cx_k ((Cx.mt.next.box_one (T := T) (i := 0) Cx.mt.off (by simp)).box_add (n := (T, 1, 0)) (by simp [nms]) (by simp)) ?_
  intro h1 x1
  have b1 := x1.bxs
  simp only [Bxs] at b1
  repeat' (first
   | with_reducible refine stp ?_
   | with_reducible refine k_blk_o rfl ?_
   | ((try (conv => arg 1; simp [b1, ltS, nm_ne, tk_ne])); with_reducible refine evp ?_)
   | ((with_reducible refine apn ?na ?_); (case na => simp [appNames, ints, intss] <;> first | kernel_rfl | (refine ⟨?_, ?_⟩ <;> kernel_rfl)))
   | fail)
  refine cx_k (x1.next.box_new x1.off (by simp)) ?_
  intro h2 x2
  have b2 := x2.bxs
  simp only [Bxs] at b2
  repeat' (first
   | with_reducible refine stp ?_
   | with_reducible refine k_blk_o rfl ?_
   | ((try (conv => arg 1; simp [b2, z1, ltS, nm_ne, tk_ne])); with_reducible refine evp ?_)
   | ((with_reducible refine apn ?na ?_); (case na => simp [appNames, ints, intss] <;> first | kernel_rfl | (refine ⟨?_, ?_⟩ <;> kernel_rfl)))
   | fail)
  refine cx_k ((x2.next.new_ints x2.off (by simp)).box_set) ?_
  intro h3 x3
  generalize hw1 : AV.sl (h2.tick, 0, 0) _ 0 g.Sizes.length = w1 at x3
  have q1 := own_one (ownV_ints (x3.o0 true))
  have b3 := x3.bxs
  simp only [Bxs] at b3
  repeat' (first
   | with_reducible refine stp ?_
   | with_reducible refine k_blk_o rfl ?_
   | with_reducible refine k_seq_n ?_
   | ((try (conv => arg 1; simp [b3, q1.1, q1.2.1, q1.2.2, ltS, nm_ne, tk_ne])); with_reducible refine evp ?_)
   | ((with_reducible refine apn ?na ?_); (case na => simp [appNames, ints, intss] <;> first | kernel_rfl | (refine ⟨?_, ?_⟩ <;> kernel_rfl)))
   | fail)
  refine st_loop (fun (i : Nat) σ h => i ≤ g.Blocks.length ∧ σ 1 = .ptr (T, 0, 0) 0 0 0 ∧ σ 2 = .ptr (T, 1, 0) 0 0 0 ∧ σ 3 = .ptr (h1.tick, 1, 0) 0 0 0 ∧ σ 4 = .int .i64 i ∧ ∃ es ns, es.length = i ∧ (∀ e ∈ es, e.length = 5) ∧
    Cx h [((h3.tick, 0, 0), ⟨i, 5, es⟩), ((h1.tick, 1, 0), ⟨0, 5, [[w1, .int .i64 g.Params, .int .i64 g.Vars, .int .i64 g.Slots, .sl (h3.tick, 0, 0) i 0 i]]⟩), ((T, 1, 0), ⟨0, 5, [[.nilsl, .int .i64 0, .int .i64 0, .int .i64 0, .nilsl]]⟩), ((T, 0, 0), graphRow g)]
      [(.agg es.flatten, (fun b => .agg ((g.Blocks.take i).map (Block.cells b)).flatten), ns), (w1, (fun b => ints b g.Sizes), [(h2.tick, 0, 0)])]) (fun i => g.Blocks.length - i) 0 ?init ?step
  case init =>
    refine ⟨Nat.zero_le _, by simp, by simp, by simp, by simp, [], [], rfl, by simp, ?_⟩
    exact Cx.to ((x3.next.box_one (T := h3.tick) (i := 0) (r := ⟨0, 5, []⟩) x3.off (by simp)).agg_nil)
  case step =>
    rintro i σ h ⟨hi, s1, s2, s3, s4, es, ns, hle, he5, x⟩
    have b := x.bxs
    simp only [Bxs, graphRow] at b
    by_cases hlt : i < g.Blocks.length
    · have hlt2 : (i : Int) < g.Blocks.length := by omega
      have hx : g.Blocks[i]? = some g.Blocks[i] := by simp
      have hw : IntKind.i64.wrap (i + 1) = i + 1 := wrap_id (by omega) (by omega)
      have hlen := block_len true g.Blocks[i]
      have hcl : g.Blocks[i].Code.length ≤ 4294967296 := by have := hs.code _ (List.getElem_mem hlt); omega
      repeat' (first
       | with_reducible refine stp ?_
       | with_reducible refine k_blk_o rfl ?_
       | with_reducible refine k_seq_n ?_
       | ((try (conv => arg 1; simp [s1, s2, s3, s4, b, hlt2, ltS, nm_ne, tk_ne])); with_reducible refine evp ?_)
       | ((with_reducible refine apn ?na ?_); (case na => simp [appNames, ints, intss] <;> first | kernel_rfl | (refine ⟨?_, ?_⟩ <;> kernel_rfl)))
       | fail)
      repeat' (first
       | with_reducible refine stp ?_
       | with_reducible refine k_blk_o rfl ?_
       | ((try (conv => arg 1; simp [s1, s2, s3, s4, b, blocks, hlt2, hx, hlen, Block.cells, ltS, nm_ne, tk_ne])); with_reducible refine evp ?_)
       | ((with_reducible refine apn ?na ?_); (case na => simp [appNames, ints, intss] <;> first | kernel_rfl | (refine ⟨?_, ?_⟩ <;> kernel_rfl)))
       | fail)
      refine cx_k (Cx.to (x.next.next.box_one (T := h.tick + 1) (i := 5) (r := ⟨0, 5, [[.nilsl, .int .i64 0, .int .i64 0, .int .i64 0, .int .i64 0]]⟩) x.next.off (by simp))) ?_
      intro h4 x4
      have b4 := x4.bxs
      simp only [Bxs, graphRow] at b4
      repeat' (first
       | with_reducible refine stp ?_
       | with_reducible refine k_blk_o rfl ?_
       | ((try (conv => arg 1; simp [s1, s2, s3, s4, b4, hcl, ltS, nm_ne, tk_ne])); with_reducible refine evp ?_)
       | ((with_reducible refine apn ?na ?_); (case na => simp [appNames, ints, intss] <;> first | kernel_rfl | (refine ⟨?_, ?_⟩ <;> kernel_rfl)))
       | fail)
      refine cx_k (Cx.to (x4.next.box_one (T := h4.tick) (i := 0) (r := ⟨0, 7, []⟩) x4.off (by simp))) ?_
      intro h5 x5
      have x6 := x5.close_instrs
      generalize hw2 : AV.sl (h4.tick, 0, 0) _ 0 g.Blocks[i].Code.length = w2 at x6
      have q2 := own_one' (own_of (x6.o0 true) rfl)
      have b5 := x6.bxs
      simp only [Bxs, graphRow] at b5
      repeat' (first
       | with_reducible refine stp ?_
       | with_reducible refine k_blk_o rfl ?_
       | with_reducible refine k_seq_n ?_
       | ((try (conv => arg 1; simp [s1, s2, s3, s4, b5, q2.1, q2.2.1, q2.2.2, ltS, nm_ne, tk_ne])); with_reducible refine evp ?_)
       | ((with_reducible refine apn ?na ?_); (case na => simp [appNames, ints, intss] <;> first | kernel_rfl | (refine ⟨?_, ?_⟩ <;> kernel_rfl)))
       | fail)
      conv => arg 1; simp
      rw [appendA_snoc (s := 5) (l := es) (e := [w2, .int .i64 g.Blocks[i].Jump, .int .i64 g.Blocks[i].A, .int .i64 g.Blocks[i].To, .int .i64 g.Blocks[i].Else]) (by kernel_rfl) ?hr hle ?hk rfl (by omega) ?hm]
      case hr => simp [b5, tk_ne]
      case hk => simp [q2.1, q2.2.1, q2.2.2]
      case hm => simp [b5, ltS]
      refine ev2_some ?_
      repeat' (first
       | with_reducible refine stp ?_
       | with_reducible refine k_blk_o rfl ?_
       | with_reducible refine k_seq_n ?_
       | ((try (conv => arg 1; simp [s1, s2, s3, s4, b5, q1.1, q1.2.1, q1.2.2, hw, ltS, nm_ne, tk_ne])); with_reducible refine evp ?_)
       | ((with_reducible refine apn ?na ?_); (case na => simp [appNames, ints, intss] <;> first | kernel_rfl | (refine ⟨?_, ?_⟩ <;> kernel_rfl)))
       | fail)
      refine k_lp_n (i + 1) (by omega) ⟨by omega, by simp [s1], by simp [s2], by simp [s3], by simp, es ++ [[w2, .int .i64 g.Blocks[i].Jump, .int .i64 g.Blocks[i].A, .int .i64 g.Blocks[i].To, .int .i64 g.Blocks[i].Else]], ns ++ [(h4.tick, 0, 0)], by simp [hle], fun e he => ?_, ?_⟩
      · rcases List.mem_append.1 he with he | he
        · exact he5 e he
        · simp at he; subst he; rfl
      have y := (Cx.block_join (c := g.Blocks[i]) x6).agg_app
      have y2 := (Cx.box_drop y)
      have e1 : ∀ b, ((g.Blocks.take (i + 1)).map (Block.cells b)).flatten = ((g.Blocks.take i).map (Block.cells b)).flatten ++ g.Blocks[i].cells b := fun b => by rw [List.take_add_one, hx, Option.toList_some, List.map_append, List.flatten_append]; simp
      have e2 : (es ++ [[w2, .int .i64 g.Blocks[i].Jump, .int .i64 g.Blocks[i].A, .int .i64 g.Blocks[i].To, .int .i64 g.Blocks[i].Else]]).flatten = es.flatten ++ [w2, .int .i64 g.Blocks[i].Jump, .int .i64 g.Blocks[i].A, .int .i64 g.Blocks[i].To, .int .i64 g.Blocks[i].Else] := by simp
      simp only [e1, e2]
      exact Cx.to y2
    · have hge : i = g.Blocks.length := by omega
      have hlt2 : ¬ (i : Int) < g.Blocks.length := by omega
      repeat' (first
       | with_reducible refine stp ?_
       | with_reducible refine k_blk_o rfl ?_
       | with_reducible refine k_seq_n ?_
       | ((try (conv => arg 1; simp [s1, s2, s3, s4, b, q1.1, q1.2.1, q1.2.2, hlt2, ltS, nm_ne, tk_ne])); with_reducible refine evp ?_)
       | ((with_reducible refine apn ?na ?_); (case na => simp [appNames, ints, intss] <;> first | kernel_rfl | (refine ⟨?_, ?_⟩ <;> kernel_rfl)))
       | fail)
      rw [hge, List.take_length] at x
      have z := Cx.close_row (sp := []) (ts := fun b => g.Blocks.map (Block.cells b)) (by rw [List.append_nil]; exact x) he5 (fun b => by simp [hle, hge]) (fun b t ht => by simp at ht; obtain ⟨a, _, rfl⟩ := ht; rfl) (fun e he => by simp at he) (fun i e j x he => by simp at he)
      rw [show es.length = i by omega, ← hge] at z
      refine fin_own (os := []) (ns := [(h2.tick, 0, 0)] ++ ((h3.tick, 0, 0) :: (ns ++ []))) (bs := ?bs) ?y
      case y => exact Cx.to (Cx.graph_join (g := g) (Cx.rot1 z))
end Go.Proofs.Ytlmlkkkgcbpaoaa.AM

/-
  Graphs: the program's copy.
-/
set_option linter.unusedVariables false
set_option linter.unusedSimpArgs false
set_option maxRecDepth 4000
namespace Go.Proofs.Ytlmlkkkgcbpaoaa.AM
open Go.RowKit

private def MG24 : FuncId → Mode := fun f => .tree

set_option maxHeartbeats 4000000 in
theorem copyGraph (g : Graph) (hs : g.Small) : FreshW Try.prog 47 [.agg (g.cells true)] (fun b => .agg (g.cells b)) := by
  intro T
  have z1 : g.Sizes.length ≤ 4294967296 := by have := hs.sizes; omega
  have hln := hs.len
  refine enter mixed MG24 Try.func47 rfl (by kernel_rfl) rfl ?_
  repeat' (first
   | with_reducible refine stp ?_
   | with_reducible refine k_blk_o rfl ?_
   | ((try (conv => arg 1; simp [Graph.cells])); with_reducible refine evp ?_)
   | ((with_reducible refine apn ?na ?_); (case na => simp [appNames, ints, intss] <;> first | kernel_rfl | (refine ⟨?_, ?_⟩ <;> kernel_rfl)))
   | fail)
  refine cx_k ((Cx.mt.next.box_one (T := T) (i := 0) Cx.mt.off (by simp)).box_add (n := (T, 1, 0)) (by simp [nms]) (by simp)) ?_
  intro h1 x1
  have b1 := x1.bxs
  simp only [Bxs] at b1
  repeat' (first
   | with_reducible refine stp ?_
   | with_reducible refine k_blk_o rfl ?_
   | ((try (conv => arg 1; simp [b1, ltS, nm_ne, tk_ne])); with_reducible refine evp ?_)
   | ((with_reducible refine apn ?na ?_); (case na => simp [appNames, ints, intss] <;> first | kernel_rfl | (refine ⟨?_, ?_⟩ <;> kernel_rfl)))
   | fail)
  refine cx_k (x1.next.box_new x1.off (by simp)) ?_
  intro h2 x2
  have b2 := x2.bxs
  simp only [Bxs] at b2
  repeat' (first
   | with_reducible refine stp ?_
   | with_reducible refine k_blk_o rfl ?_
   | ((try (conv => arg 1; simp [b2, z1, ltS, nm_ne, tk_ne])); with_reducible refine evp ?_)
   | ((with_reducible refine apn ?na ?_); (case na => simp [appNames, ints, intss] <;> first | kernel_rfl | (refine ⟨?_, ?_⟩ <;> kernel_rfl)))
   | fail)
  refine cx_k ((x2.next.new_ints x2.off (by simp)).box_set) ?_
  intro h3 x3
  generalize hw1 : AV.sl (h2.tick, 0, 0) _ 0 g.Sizes.length = w1 at x3
  have q1 := own_one (ownV_ints (x3.o0 true))
  have b3 := x3.bxs
  simp only [Bxs] at b3
  repeat' (first
   | with_reducible refine stp ?_
   | with_reducible refine k_blk_o rfl ?_
   | with_reducible refine k_seq_n ?_
   | ((try (conv => arg 1; simp [b3, q1.1, q1.2.1, q1.2.2, ltS, nm_ne, tk_ne])); with_reducible refine evp ?_)
   | ((with_reducible refine apn ?na ?_); (case na => simp [appNames, ints, intss] <;> first | kernel_rfl | (refine ⟨?_, ?_⟩ <;> kernel_rfl)))
   | fail)
  refine st_loop (fun (i : Nat) σ h => i ≤ g.Blocks.length ∧ σ 1 = .ptr (T, 0, 0) 0 0 0 ∧ σ 2 = .ptr (T, 1, 0) 0 0 0 ∧ σ 3 = .ptr (h1.tick, 1, 0) 0 0 0 ∧ σ 14 = blocks true g.Blocks ∧ σ 15 = .int .i64 g.Blocks.length ∧ σ 16 = .int .i64 i ∧
    ((i = 0 ∧ Cx h [((h1.tick, 1, 0), ⟨0, 5, [[w1, .int .i64 g.Params, .int .i64 g.Vars, .int .i64 g.Slots, .nilsl]]⟩), ((T, 1, 0), ⟨0, 5, [[.nilsl, .int .i64 0, .int .i64 0, .int .i64 0, .nilsl]]⟩), ((T, 0, 0), graphRow g)] [(w1, (fun b => ints b g.Sizes), [(h2.tick, 0, 0)])]) ∨
     (0 < i ∧ ∃ k es ns, es.length = i ∧ (∀ e ∈ es, e.length = 5) ∧
    Cx h [(k, ⟨i - 1, 5, es⟩), ((h1.tick, 1, 0), ⟨0, 5, [[w1, .int .i64 g.Params, .int .i64 g.Vars, .int .i64 g.Slots, .sl k (i - 1) 0 i]]⟩), ((T, 1, 0), ⟨0, 5, [[.nilsl, .int .i64 0, .int .i64 0, .int .i64 0, .nilsl]]⟩), ((T, 0, 0), graphRow g)]
      [(.agg es.flatten, (fun b => .agg ((g.Blocks.take i).map (Block.cells b)).flatten), ns), (w1, (fun b => ints b g.Sizes), [(h2.tick, 0, 0)])]))) (fun i => g.Blocks.length - i) 0 ?init ?step
  case init =>
    refine ⟨Nat.zero_le _, by simp, by simp, by simp, by simp, by simp, by simp, .inl ⟨rfl, ?_⟩⟩
    exact Cx.to x3
  case step =>
    rintro i σ h ⟨hi, s1, s2, s3, s14, s15, s16, hst⟩
    by_cases hlt : i < g.Blocks.length
    · have hlt2 : (i : Int) < g.Blocks.length := by omega
      have hx : g.Blocks[i]? = some g.Blocks[i] := by simp
      have hw : IntKind.i64.wrap (i + 1) = i + 1 := wrap_id (by omega) (by omega)
      have hlen := block_len true g.Blocks[i]
      have hcl : g.Blocks[i].Code.length ≤ 4294967296 := by have := hs.code _ (List.getElem_mem hlt); omega
      rcases hst with ⟨hi0, x⟩ | ⟨hi0, k, es, ns, hle, he5, x⟩
      · have b := x.bxs
        simp only [Bxs, graphRow] at b
        repeat' (first
         | with_reducible refine stp ?_
         | with_reducible refine k_blk_o rfl ?_
         | with_reducible refine k_seq_n ?_
         | ((try (conv => arg 1; simp [s1, s2, s3, s14, s15, s16, b, hlt2, ltS, nm_ne, tk_ne])); with_reducible refine evp ?_)
         | ((with_reducible refine apn ?na ?_); (case na => simp [appNames, ints, intss] <;> first | kernel_rfl | (refine ⟨?_, ?_⟩ <;> kernel_rfl)))
         | fail)
        repeat' (first
         | with_reducible refine stp ?_
         | with_reducible refine k_blk_o rfl ?_
         | ((try (conv => arg 1; simp [s1, s2, s3, s14, s15, s16, b, blocks, hlt2, hx, hlen, Block.cells, ltS, nm_ne, tk_ne])); with_reducible refine evp ?_)
         | ((with_reducible refine apn ?na ?_); (case na => simp [appNames, ints, intss] <;> first | kernel_rfl | (refine ⟨?_, ?_⟩ <;> kernel_rfl)))
         | fail)
        refine cx_k (Cx.to (x.next.next.box_one (T := h.tick + 1) (i := 2) (r := ⟨0, 5, [[.nilsl, .int .i64 0, .int .i64 0, .int .i64 0, .int .i64 0]]⟩) x.next.off (by simp))) ?_
        intro h4 x4
        have b4 := x4.bxs
        simp only [Bxs, graphRow] at b4
        repeat' (first
         | with_reducible refine stp ?_
         | with_reducible refine k_blk_o rfl ?_
         | ((try (conv => arg 1; simp [s1, s2, s3, s14, s15, s16, b4, hcl, ltS, nm_ne, tk_ne])); with_reducible refine evp ?_)
         | ((with_reducible refine apn ?na ?_); (case na => simp [appNames, ints, intss] <;> first | kernel_rfl | (refine ⟨?_, ?_⟩ <;> kernel_rfl)))
         | fail)
        refine cx_k (Cx.to (x4.next.box_one (T := h4.tick) (i := 0) (r := ⟨0, 7, []⟩) x4.off (by simp))) ?_
        intro h5 x5
        have x6 := x5.close_instrs
        generalize hw2 : AV.sl (h4.tick, 0, 0) _ 0 g.Blocks[i].Code.length = w2 at x6
        have q2 := own_one' (own_of (x6.o0 true) rfl)
        have b5 := x6.bxs
        simp only [Bxs, graphRow] at b5
        repeat' (first
         | with_reducible refine stp ?_
         | with_reducible refine k_blk_o rfl ?_
         | with_reducible refine k_seq_n ?_
         | ((try (conv => arg 1; simp [s1, s2, s3, s14, s15, s16, b5, q2.1, q2.2.1, q2.2.2, ltS, nm_ne, tk_ne])); with_reducible refine evp ?_)
         | ((with_reducible refine apn ?na ?_); (case na => simp [appNames, ints, intss] <;> first | kernel_rfl | (refine ⟨?_, ?_⟩ <;> kernel_rfl)))
         | fail)
        conv => arg 1; simp
        rw [appendA_nil1 (s := 5) (e := [w2, .int .i64 g.Blocks[i].Jump, .int .i64 g.Blocks[i].A, .int .i64 g.Blocks[i].To, .int .i64 g.Blocks[i].Else]) (by kernel_rfl) ?hk rfl]
        case hk => simp [q2.1, q2.2.1, q2.2.2]
        refine ev2_some ?_
        repeat' (first
         | with_reducible refine stp ?_
         | with_reducible refine k_blk_o rfl ?_
         | with_reducible refine k_seq_n ?_
         | ((try (conv => arg 1; simp [s1, s2, s3, s14, s15, s16, b5, q1.1, q1.2.1, q1.2.2, hw, ltS, nm_ne, tk_ne])); with_reducible refine evp ?_)
         | ((with_reducible refine apn ?na ?_); (case na => simp [appNames, ints, intss] <;> first | kernel_rfl | (refine ⟨?_, ?_⟩ <;> kernel_rfl)))
         | fail)
        refine k_lp_n (i + 1) (by omega) ⟨by omega, by simp [s1], by simp [s2], by simp [s3], by simp [s14], by simp [s15], by simp, .inr ⟨by omega, (h5.tick, 4, 0), [[w2, .int .i64 g.Blocks[i].Jump, .int .i64 g.Blocks[i].A, .int .i64 g.Blocks[i].To, .int .i64 g.Blocks[i].Else]], [(h4.tick, 0, 0)], by simp [hi0], fun e he => ?_, ?_⟩⟩
        · simp at he; subst he; rfl
        subst hi0
        have y2 := Cx.box_drop (Cx.block_join (c := g.Blocks[0]) x6)
        have y4 : Cx (h5.next.put (h5.tick, 3, 0) ⟨0, 5, [[w2, .int .i64 g.Blocks[0].Jump, .int .i64 g.Blocks[0].A, .int .i64 g.Blocks[0].To, .int .i64 g.Blocks[0].Else]]⟩) _ _ := Cx.to y2
        have y3 := y4.box_one (T := h5.tick) (i := 4) (r := ⟨0, 5, [[w2, .int .i64 g.Blocks[0].Jump, .int .i64 g.Blocks[0].A, .int .i64 g.Blocks[0].To, .int .i64 g.Blocks[0].Else]]⟩) y2.off (by simp)
        have e1 : ∀ b, ((g.Blocks.take (0 + 1)).map (Block.cells b)).flatten = g.Blocks[0].cells b := fun b => by rw [List.take_add_one, hx]; simp
        have e2 : [[w2, .int .i64 g.Blocks[0].Jump, .int .i64 g.Blocks[0].A, .int .i64 g.Blocks[0].To, .int .i64 g.Blocks[0].Else]].flatten = [w2, .int .i64 g.Blocks[0].Jump, .int .i64 g.Blocks[0].A, .int .i64 g.Blocks[0].To, .int .i64 g.Blocks[0].Else] := by simp
        simp only [e1, e2]
        exact Cx.to y3
      · have b := x.bxs
        simp only [Bxs, graphRow] at b
        repeat' (first
         | with_reducible refine stp ?_
         | with_reducible refine k_blk_o rfl ?_
         | with_reducible refine k_seq_n ?_
         | ((try (conv => arg 1; simp [s1, s2, s3, s14, s15, s16, b, hlt2, ltS, nm_ne, tk_ne])); with_reducible refine evp ?_)
         | ((with_reducible refine apn ?na ?_); (case na => simp [appNames, ints, intss] <;> first | kernel_rfl | (refine ⟨?_, ?_⟩ <;> kernel_rfl)))
         | fail)
        repeat' (first
         | with_reducible refine stp ?_
         | with_reducible refine k_blk_o rfl ?_
         | ((try (conv => arg 1; simp [s1, s2, s3, s14, s15, s16, b, blocks, hlt2, hx, hlen, Block.cells, ltS, nm_ne, tk_ne])); with_reducible refine evp ?_)
         | ((with_reducible refine apn ?na ?_); (case na => simp [appNames, ints, intss] <;> first | kernel_rfl | (refine ⟨?_, ?_⟩ <;> kernel_rfl)))
         | fail)
        refine cx_k (Cx.to (x.next.next.box_one (T := h.tick + 1) (i := 2) (r := ⟨0, 5, [[.nilsl, .int .i64 0, .int .i64 0, .int .i64 0, .int .i64 0]]⟩) x.next.off (by simp))) ?_
        intro h4 x4
        have b4 := x4.bxs
        simp only [Bxs, graphRow] at b4
        repeat' (first
         | with_reducible refine stp ?_
         | with_reducible refine k_blk_o rfl ?_
         | ((try (conv => arg 1; simp [s1, s2, s3, s14, s15, s16, b4, hcl, ltS, nm_ne, tk_ne])); with_reducible refine evp ?_)
         | ((with_reducible refine apn ?na ?_); (case na => simp [appNames, ints, intss] <;> first | kernel_rfl | (refine ⟨?_, ?_⟩ <;> kernel_rfl)))
         | fail)
        refine cx_k (Cx.to (x4.next.box_one (T := h4.tick) (i := 0) (r := ⟨0, 7, []⟩) x4.off (by simp))) ?_
        intro h5 x5
        have x6 := x5.close_instrs
        generalize hw2 : AV.sl (h4.tick, 0, 0) _ 0 g.Blocks[i].Code.length = w2 at x6
        have q2 := own_one' (own_of (x6.o0 true) rfl)
        have b5 := x6.bxs
        simp only [Bxs, graphRow] at b5
        have hkg : ¬ (h1.tick, 1, 0) = k := by have ap := x6.aps; simp only [List.map_cons, List.map_nil, Aps] at ap; exact (ap.2.1 (h1.tick, 1, 0) (by simp)).2
        repeat' (first
         | with_reducible refine stp ?_
         | with_reducible refine k_blk_o rfl ?_
         | with_reducible refine k_seq_n ?_
         | ((try (conv => arg 1; simp [s1, s2, s3, s14, s15, s16, b5, q2.1, q2.2.1, q2.2.2, ltS, nm_ne, tk_ne])); with_reducible refine evp ?_)
         | ((with_reducible refine apn ?na ?_); (case na => simp [appNames, ints, intss] <;> first | kernel_rfl | (refine ⟨?_, ?_⟩ <;> kernel_rfl)))
         | fail)
        conv => arg 1; simp
        rw [appendA_snoc (s := 5) (l := es) (e := [w2, .int .i64 g.Blocks[i].Jump, .int .i64 g.Blocks[i].A, .int .i64 g.Blocks[i].To, .int .i64 g.Blocks[i].Else]) (by kernel_rfl) ?hr hle ?hk rfl (by omega) ?hm]
        case hr => simp [b5, nm_ne]
        case hk => simp [q2.1, q2.2.1, q2.2.2]
        case hm => simp [b5, ltS]
        refine ev2_some ?_
        have hkk1 : i - 1 + 1 = i := by omega
        repeat' (first
         | with_reducible refine stp ?_
         | with_reducible refine k_blk_o rfl ?_
         | with_reducible refine k_seq_n ?_
         | ((try (conv => arg 1; simp [s1, s2, s3, s14, s15, s16, b5, q1.1, q1.2.1, q1.2.2, hw, hkg, hkk1, ltS, nm_ne, tk_ne])); with_reducible refine evp ?_)
         | ((with_reducible refine apn ?na ?_); (case na => simp [appNames, ints, intss] <;> first | kernel_rfl | (refine ⟨?_, ?_⟩ <;> kernel_rfl)))
         | fail)
        refine k_lp_n (i + 1) (by omega) ⟨by omega, by simp [s1], by simp [s2], by simp [s3], by simp [s14], by simp [s15], by simp, .inr ⟨by omega, k, es ++ [[w2, .int .i64 g.Blocks[i].Jump, .int .i64 g.Blocks[i].A, .int .i64 g.Blocks[i].To, .int .i64 g.Blocks[i].Else]], ns ++ [(h4.tick, 0, 0)], by simp [hle], fun e he => ?_, ?_⟩⟩
        · rcases List.mem_append.1 he with he | he
          · exact he5 e he
          · simp at he; subst he; rfl
        have y := (Cx.block_join (c := g.Blocks[i]) x6).agg_app
        have y2 := (Cx.box_drop y)
        have e1 : ∀ b, ((g.Blocks.take (i + 1)).map (Block.cells b)).flatten = ((g.Blocks.take i).map (Block.cells b)).flatten ++ g.Blocks[i].cells b := fun b => by rw [List.take_add_one, hx, Option.toList_some, List.map_append, List.flatten_append]; simp
        have e2 : (es ++ [[w2, .int .i64 g.Blocks[i].Jump, .int .i64 g.Blocks[i].A, .int .i64 g.Blocks[i].To, .int .i64 g.Blocks[i].Else]]).flatten = es.flatten ++ [w2, .int .i64 g.Blocks[i].Jump, .int .i64 g.Blocks[i].A, .int .i64 g.Blocks[i].To, .int .i64 g.Blocks[i].Else] := by simp
        simp only [e1, e2]
        rw [show i + 1 - 1 = i by omega]
        exact Cx.to y2
    · have hge : i = g.Blocks.length := by omega
      have hlt2 : ¬ (i : Int) < g.Blocks.length := by omega
      rcases hst with ⟨hi0, x⟩ | ⟨hi0, k, es, ns, hle, he5, x⟩
      · have b := x.bxs
        simp only [Bxs, graphRow] at b
        repeat' (first
         | with_reducible refine stp ?_
         | with_reducible refine k_blk_o rfl ?_
         | with_reducible refine k_seq_n ?_
         | ((try (conv => arg 1; simp [s1, s2, s3, s14, s15, s16, b, q1.1, q1.2.1, q1.2.2, hlt2, ltS, nm_ne, tk_ne])); with_reducible refine evp ?_)
         | ((with_reducible refine apn ?na ?_); (case na => simp [appNames, ints, intss] <;> first | kernel_rfl | (refine ⟨?_, ?_⟩ <;> kernel_rfl)))
         | fail)
        have hB : g.Blocks = [] := List.length_eq_zero_iff.1 (by omega)
        have z : Cx h _ _ := x.add_own (v := .nilsl) (t := fun b => blocks b g.Blocks) (ns := []) (fun b => by rw [hB]; exact .one (.nilsl .nil)) .nil (fun n hn => by cases hn) (fun n _ => rfl) (Nat.le_refl _)
        refine fin_own (os := []) (ns := [(h2.tick, 0, 0)] ++ []) (bs := ?bs1) ?y1
        case y1 => exact Cx.to (Cx.graph_join (g := g) (Cx.rot1 z))
      · have b := x.bxs
        simp only [Bxs, graphRow] at b
        repeat' (first
         | with_reducible refine stp ?_
         | with_reducible refine k_blk_o rfl ?_
         | with_reducible refine k_seq_n ?_
         | ((try (conv => arg 1; simp [s1, s2, s3, s14, s15, s16, b, q1.1, q1.2.1, q1.2.2, hlt2, ltS, nm_ne, tk_ne])); with_reducible refine evp ?_)
         | ((with_reducible refine apn ?na ?_); (case na => simp [appNames, ints, intss] <;> first | kernel_rfl | (refine ⟨?_, ?_⟩ <;> kernel_rfl)))
         | fail)
        rw [hge, List.take_length] at x
        have z := Cx.close_row (sp := []) (ts := fun b => g.Blocks.map (Block.cells b)) (by rw [List.append_nil]; exact x) he5 (fun b => by simp [hle, hge]) (fun b t ht => by simp at ht; obtain ⟨a, _, rfl⟩ := ht; rfl) (fun e he => by simp at he) (fun i e j x he => by simp at he)
        rw [show es.length = i by omega, ← hge] at z
        refine fin_own (os := []) (ns := [(h2.tick, 0, 0)] ++ (k :: (ns ++ []))) (bs := ?bs) ?y
        case y => exact Cx.to (Cx.graph_join (g := g) (Cx.rot1 z))
end Go.Proofs.Ytlmlkkkgcbpaoaa.AM

/-
  Where a jump leads over blocks of no steps: the plain law, both sides.
-/
set_option linter.unusedVariables false
set_option linter.unusedSimpArgs false
set_option maxRecDepth 4000
namespace Go.Proofs.Ytlmlkkkgcbpaoaa.AM
open Go.RowKit

private def MG25 : FuncId → Mode := fun f => .tree

def aimN (g : Graph) : Nat → List Bool → Nat → Nat
  | 0, _, t => t
  | k + 1, th, t =>
    let b := g.Blocks.getD t ⟨[], 0, 0, 0, 0⟩
    if b.Code = [] ∧ b.Jump = 0 ∧ th.getD b.To.toNat true = false then aimN g k (th.set b.To.toNat true) b.To.toNat else t
def aimC (g : Graph) (th : List Bool) (t : Nat) : Nat := aimN g (th.count false) th t
def aim (g : Graph) (t : Nat) : Nat := aimC g ((List.replicate g.Blocks.length false).set t true) t
theorem count_set_f {th : List Bool} {u : Nat} (hu : u < th.length) (hf : th[u] = false) : (th.set u true).count false + 1 = th.count false := by
  have hp : 0 < th.count false := List.count_pos_iff.2 (by rw [← hf]; exact List.getElem_mem hu)
  rw [List.count_set hu]
  simp [hf]
  omega
theorem aim_step {g : Graph} {th : List Bool} {t u : Nat} (ht : t < g.Blocks.length) (hC : g.Blocks[t].Code = []) (hJ : g.Blocks[t].Jump = 0) (hT : g.Blocks[t].To = (u : Int)) (hu : u < th.length) (hf : th[u] = false) :
    aimC g th t = aimC g (th.set u true) u := by
  have hc := count_set_f hu hf
  have hb : g.Blocks.getD t ⟨[], 0, 0, 0, 0⟩ = g.Blocks[t] := by simp [ht]
  unfold aimC
  rw [← hc]
  rw [aimN.eq_2]
  simp only [hb, hC, hJ, hT, Int.toNat_natCast]
  rw [if_pos ⟨trivial, trivial, by simp [hu, hf]⟩]
theorem aim_end {g : Graph} {th : List Bool} {t : Nat} (ht : t < g.Blocks.length) (h : ¬ (g.Blocks[t].Code = [] ∧ g.Blocks[t].Jump = 0 ∧ th.getD g.Blocks[t].To.toNat true = false)) : aimC g th t = t := by
  have hb : g.Blocks.getD t ⟨[], 0, 0, 0, 0⟩ = g.Blocks[t] := by simp [ht]
  unfold aimC
  cases th.count false with
  | zero => rfl
  | succ k =>
    rw [aimN.eq_2]
    simp only [hb]
    rw [if_neg h]
theorem to_ok {g : Graph} (hg : graphOk g = true) {i : Nat} (hi : i < g.Blocks.length) (hJ : g.Blocks[i].Jump = 0) : ∃ u : Nat, g.Blocks[i].To = (u : Int) ∧ u < g.Blocks.length := by
  have := next_ok hg hi g.Blocks[i].To (by simp [nextL, hJ])
  exact ⟨g.Blocks[i].To.toNat, by omega, by omega⟩

set_option maxHeartbeats 4000000 in
theorem l16Aim (g : Graph) (hg : graphOk g = true) (d : g.Small) (a : Nat) (ha : a < g.Blocks.length) : Pure Try.prog 46 [.agg (g.cells true), .int .i64 a] (.int .i64 (aim g a)) := by
  intro T
  have hln := d.len
  have hnb : (g.Blocks.length : Int) ≤ 4294967296 := by omega
  refine enter mixed MG25 Try.func46 rfl (by kernel_rfl) rfl ?_
  repeat' (first
   | with_reducible refine stp ?_
   | with_reducible refine k_blk_o rfl ?_
   | ((try (conv => arg 1; simp [Graph.cells])); with_reducible refine evp ?_)
   | ((with_reducible refine apn ?na ?_); (case na => simp [appNames, ints, intss] <;> first | kernel_rfl | (refine ⟨?_, ?_⟩ <;> kernel_rfl)))
   | fail)
  refine cx_k (Cx.mt.next.box_one (T := T) (i := 0) Cx.mt.off (by simp)) ?_
  intro h1 x1
  have b1 := x1.bxs
  simp only [Bxs] at b1
  repeat' (first
   | with_reducible refine stp ?_
   | with_reducible refine k_blk_o rfl ?_
   | with_reducible refine k_seq_n ?_
   | ((try (conv => arg 1; simp [b1, hnb, ltS, nm_ne, tk_ne])); with_reducible refine evp ?_)
   | ((with_reducible refine apn ?na ?_); (case na => simp [appNames, ints, intss] <;> first | kernel_rfl | (refine ⟨?_, ?_⟩ <;> kernel_rfl)))
   | fail)
  refine st_loop (fun (k : Nat) σ h => ∃ (th : List Bool) (t : Nat) (L : List (List AV)), L = th.map (fun x => [.bool x]) ∧ k = th.count false ∧ th.length = g.Blocks.length ∧ t < g.Blocks.length ∧ th.getD t false = true ∧ aimC g th t = aim g a ∧ σ 1 = .int .i64 t ∧ σ 2 = .ptr (T, 0, 0) 0 0 0 ∧ σ 5 = .sl (h1.tick, 3, 0) 0 0 g.Blocks.length ∧
    Cx h [((h1.tick, 3, 0), ⟨0, 1, L.set t [.bool false]⟩), ((T, 0, 0), graphRow g)] []) (fun k => k) (((List.replicate g.Blocks.length false).set a true).count false) ?init ?step
  case init =>
    have x2 := x1.next.box_one (T := h1.tick) (i := 3) (r := ⟨0, 1, List.replicate g.Blocks.length [.bool false]⟩) x1.off (by simp)
    refine ⟨(List.replicate g.Blocks.length false).set a true, a, _, rfl, rfl, by simp, ha, by simp [ha], rfl, by simp, by simp, by simp, ?_⟩
    have e : (((List.replicate g.Blocks.length false).set a true).map fun x => [AV.bool x]).set a [.bool false] = List.replicate g.Blocks.length [.bool false] := by
      rw [← List.map_set (f := fun x => [AV.bool x]), List.set_set, ← List.map_replicate (f := fun x => [AV.bool x])]
      congr 1
      exact List.ext_getElem (by simp) fun i h1 h2 => by simp [List.getElem_set]
    rw [e]
    exact Cx.to x2
  case step =>
    rintro k σ h ⟨th, t, L, hL, hk, htl, ht, htt, hR, s1, s2, s5, x⟩
    have b := x.bxs
    simp only [Bxs, graphRow] at b
    have hblk : g.Blocks[t]? = some g.Blocks[t] := by simp
    have hblen := block_len true g.Blocks[t]
    have hLl : L.length = g.Blocks.length := by rw [hL, List.length_map, htl]
    by_cases hC : g.Blocks[t].Code = []
    · by_cases hJ : g.Blocks[t].Jump = 0
      · obtain ⟨u, hT, hu⟩ := to_ok hg ht hJ
        have hut : u < th.length := by omega
        have htt2 : t < th.length := by omega
        have htt3 : th[t] = true := by simpa [htt2] using htt
        have hst : L.set t [.bool true] = L := by
          rw [hL, ← List.map_set (f := fun x => [AV.bool x]), ← htt3, List.set_getElem_self]
        by_cases e : u = t
        · rw [aim_end ht (fun h => by have := h.2.2; rw [hT, e] at this; simp [htt2, htt3] at this)] at hR
          have hT : g.Blocks[t].To = (t : Int) := by rw [hT, e]
          have hel : (L.set t [.bool false])[t]? = some [.bool false] := by simp [hLl, ht]
          have hel2 : ∀ hh, L[t]'hh = [.bool true] := fun _ => by simp [hL, htt2, htt3]
          repeat' (first
           | with_reducible refine stp ?_
           | with_reducible refine k_blk_o rfl ?_
           | with_reducible refine k_seq_n ?_
           | ((try (conv => arg 1; simp [s1, s2, s5, b, blocks, hblk, hblen, hC, hJ, hT, hel, hel2, hst, hLl, ht, Block.cells, ltS, nm_ne, tk_ne])); with_reducible refine evp ?_)
           | ((with_reducible refine apn ?na ?_); (case na => simp [appNames, ints, intss] <;> first | kernel_rfl | (refine ⟨?_, ?_⟩ <;> kernel_rfl)))
           | fail)
          rw [hR]
          exact .int _ _
        · have e2 : ¬ t = u := fun h => e h.symm
          cases hv : th[u] with
          | true =>
            rw [aim_end ht (fun h => by have := h.2.2; rw [hT] at this; simp [hut, hv] at this)] at hR
            have hel : (L.set t [.bool false])[u]? = some [.bool true] := by simp [hL, hut, hv, e2, List.getElem_set, ← List.map_set]
            have hel2 : ∀ hh, L[u]'hh = [.bool true] := fun _ => by simp [hL, hut, hv]
            repeat' (first
             | with_reducible refine stp ?_
             | with_reducible refine k_blk_o rfl ?_
             | with_reducible refine k_seq_n ?_
             | ((try (conv => arg 1; simp [s1, s2, s5, b, blocks, hblk, hblen, hC, hJ, hT, hel, hel2, e2, hu, hLl, Block.cells, ltS, nm_ne, tk_ne])); with_reducible refine evp ?_)
             | ((with_reducible refine apn ?na ?_); (case na => simp [appNames, ints, intss] <;> first | kernel_rfl | (refine ⟨?_, ?_⟩ <;> kernel_rfl)))
             | fail)
            rw [hR]
            exact .int _ _
          | false =>
            rw [aim_step ht hC hJ hT hut hv] at hR
            have hcs := count_set_f hut hv
            have hel : (L.set t [.bool false])[u]? = some [.bool false] := by simp [hL, hut, hv, e2, List.getElem_set, ← List.map_set]
            have hel2 : ∀ hh, L[u]'hh = [.bool false] := fun _ => by simp [hL, hut, hv]
            have hel3 : (L.set t [.bool false])[t]? = some [.bool false] := by simp [hLl, ht]
            have e3 : (L.set u [.bool true]).set u [.bool false] = L := by
              rw [List.set_set, hL, ← List.map_set (f := fun x => [AV.bool x]), ← hv, List.set_getElem_self]
            repeat' (first
             | with_reducible refine stp ?_
             | with_reducible refine k_blk_o rfl ?_
             | with_reducible refine k_seq_n ?_
             | ((try (conv => arg 1; simp [s1, s2, s5, b, blocks, hblk, hblen, hC, hJ, hT, hel, hel2, hel3, e2, hst, hu, hLl, ht, Block.cells, ltS, nm_ne, tk_ne])); with_reducible refine evp ?_)
             | ((with_reducible refine apn ?na ?_); (case na => simp [appNames, ints, intss] <;> first | kernel_rfl | (refine ⟨?_, ?_⟩ <;> kernel_rfl)))
             | fail)
            refine k_lp_n ((th.set u true).count false) (by omega) ⟨th.set u true, u, L.set u [.bool true], by rw [hL, ← List.map_set (f := fun x => [AV.bool x])], rfl, by simp [htl], hu, by simp [hut], hR, by simp, by simp [s2], by simp [s5], ?_⟩
            rw [e3]
            exact Cx.to x
      · rw [aim_end ht (fun h => hJ h.2.1)] at hR
        repeat' (first
         | with_reducible refine stp ?_
         | with_reducible refine k_blk_o rfl ?_
         | with_reducible refine k_seq_n ?_
         | ((try (conv => arg 1; simp [s1, s2, s5, b, blocks, hblk, hblen, hC, hJ, Block.cells, ltS, nm_ne, tk_ne])); with_reducible refine evp ?_)
         | ((with_reducible refine apn ?na ?_); (case na => simp [appNames, ints, intss] <;> first | kernel_rfl | (refine ⟨?_, ?_⟩ <;> kernel_rfl)))
         | fail)
        rw [hR]
        exact .int _ _
    · rw [aim_end ht (fun h => hC h.1)] at hR
      have hC2 : ¬ g.Blocks[t].Code.length = 0 := fun h => hC (List.length_eq_zero_iff.1 h)
      repeat' (first
       | with_reducible refine stp ?_
       | with_reducible refine k_blk_o rfl ?_
       | with_reducible refine k_seq_n ?_
       | ((try (conv => arg 1; simp [s1, s2, s5, b, blocks, hblk, hblen, hC, hC2, Block.cells, ltS, nm_ne, tk_ne])); with_reducible refine evp ?_)
       | ((with_reducible refine apn ?na ?_); (case na => simp [appNames, ints, intss] <;> first | kernel_rfl | (refine ⟨?_, ?_⟩ <;> kernel_rfl)))
       | fail)
      rw [hR]
      exact .int _ _
end Go.Proofs.Ytlmlkkkgcbpaoaa.AM

/-
  Where a jump leads over blocks of no steps: the program's.
-/
set_option linter.unusedVariables false
set_option linter.unusedSimpArgs false
set_option maxRecDepth 4000
namespace Go.Proofs.Ytlmlkkkgcbpaoaa.AM
open Go.RowKit

private def MG26 : FuncId → Mode := fun f => .tree

set_option maxHeartbeats 4000000 in
theorem threads1 (g : Graph) (hg : graphOk g = true) (d : g.Small) (a : Nat) (ha : a < g.Blocks.length) : Pure Try.prog 48 [.int .i64 a, .tptr true (g.cells true)] (.int .i64 (aim g a)) := by
  intro T
  have hln := d.len
  refine enter mixed MG26 Try.func48 rfl (by kernel_rfl) rfl ?_
  repeat' (first
   | with_reducible refine stp ?_
   | with_reducible refine k_blk_o rfl ?_
   | ((try (conv => arg 1; simp [rgo])); with_reducible refine evp ?_)
   | ((with_reducible refine apn ?na ?_); (case na => simp [appNames, ints, intss] <;> first | kernel_rfl | (refine ⟨?_, ?_⟩ <;> kernel_rfl)))
   | fail)
  refine cx_k Cx.mt.next ?_
  intro h0 x0
  repeat' (first
   | with_reducible refine stp ?_
   | with_reducible refine k_blk_o rfl ?_
   | ((try (conv => arg 1; simp [rgo])); with_reducible refine evp ?_)
   | ((with_reducible refine apn ?na ?_); (case na => simp [appNames, ints, intss] <;> first | kernel_rfl | (refine ⟨?_, ?_⟩ <;> kernel_rfl)))
   | fail)
  refine cx_k (x0.next.box_one (T := h0.tick) (i := 1) (r := ⟨0, 1, [[.int .i64 a]]⟩) x0.off (by simp)) ?_
  intro h1 x1
  have b1 := x1.bxs
  simp only [Bxs] at b1
  repeat' (first
   | with_reducible refine stp ?_
   | with_reducible refine k_blk_o rfl ?_
   | with_reducible refine k_seq_n ?_
   | ((try (conv => arg 1; simp [hnil])); with_reducible refine evp ?_)
   | ((with_reducible refine apn ?na ?_); (case na => simp [appNames, ints, intss] <;> first | kernel_rfl | (refine ⟨?_, ?_⟩ <;> kernel_rfl)))
   | fail)
  refine st_loop (fun (k : Nat) σ h => ∃ (th : List Bool) (t : Nat) (vis : List Int), k = th.count false ∧ th.length = g.Blocks.length ∧ t < g.Blocks.length ∧ vis.length + th.count false = g.Blocks.length ∧ 0 < vis.length ∧ (∀ i, i < g.Blocks.length → th.getD i true = hasI vis i) ∧ aimC g th t = aim g a ∧ σ 0 = .int .i64 t ∧ σ 1 = .tptr true (g.cells true) ∧ σ 4 = .sl (h0.tick, 1, 0) (vis.length - 1) 0 vis.length ∧
    Cx h [((h0.tick, 1, 0), ⟨vis.length - 1, 1, cl1 vis⟩)] []) (fun k => k) (((List.replicate g.Blocks.length false).set a true).count false) ?init ?step
  case init =>
    have hal : a < (List.replicate g.Blocks.length false).length := by simpa using ha
    refine ⟨(List.replicate g.Blocks.length false).set a true, a, [(a : Int)], rfl, by simp, ha, ?_, by simp, fun i hi => ?_, rfl, by simp, by simp, by simp, ?_⟩
    · have := count_set_f hal (by simp)
      rw [List.count_replicate_self] at this
      simp only [List.length_singleton]
      omega
    · simp only [hasI, List.any_cons, List.any_nil, Bool.or_false]
      by_cases e : i = a
      · subst e; simp [hi]
      · have e2 : ¬ (i : Int) = (a : Int) := by omega
        have e3 : ¬ a = i := fun h => e h.symm
        simp [hi, e2, List.getElem_set, e3]
    · exact Cx.to x1
  case step =>
    rintro k σ h ⟨th, t, vis, hk, htl, ht, hvl, hv0, hrel, hR, s0, s1, s4, x⟩
    have b := x.bxs
    simp only [Bxs] at b
    have hblk : g.Blocks[t]? = some g.Blocks[t] := by simp
    have hblen := block_len true g.Blocks[t]
    by_cases hC : g.Blocks[t].Code = []
    · by_cases hJ : g.Blocks[t].Jump = 0
      · obtain ⟨u, hT, hu⟩ := to_ok hg ht hJ
        have hut : u < th.length := by omega
        have Ku := containsI vis u (by omega)
        rw [← hrel u hu, show th.getD u true = th[u] by simp [hut]] at Ku
        cases hv : th[u] with
        | true =>
          rw [hv] at Ku
          rw [aim_end ht (fun h => by have := h.2.2; rw [hT] at this; simp [hut, hv] at this)] at hR
          repeat' (first
           | with_reducible refine stp ?_
           | with_reducible refine k_blk_o rfl ?_
           | with_reducible refine k_seq_n ?_
           | ((try (conv => arg 1; simp [s0, s1, s4, b, blocks, hblk, hblen, hC, hJ, hT, hu, Graph.cells, Block.cells, ltS, nm_ne, tk_ne])); with_reducible refine evp ?_)
           | ((with_reducible refine apn ?na ?_); (case na => simp [appNames, ints, intss] <;> first | kernel_rfl | (refine ⟨?_, ?_⟩ <;> kernel_rfl)))
           | ((with_reducible refine tcl ?_); first | ((apply tg (Ku)); (case e => rfl); (case d => (refine dq ?_); (repeat' (first | ((refine Da.mk ?_); first | exact dr_ints_sl' rfl (by simp [b]) | assumption) | constructor)))))
           | fail)
          rw [hR]
          exact .int _ _
        | false =>
          rw [hv] at Ku
          rw [aim_step ht hC hJ hT hut hv] at hR
          have hcs := count_set_f hut hv
          have n4 : ¬ h0.tick = h.tick + 1 + 1 := by have := b.2.1; omega
          repeat' (first
           | with_reducible refine stp ?_
           | with_reducible refine k_blk_o rfl ?_
           | with_reducible refine k_seq_n ?_
           | ((try (conv => arg 1; simp [s0, s1, s4, b, blocks, hblk, hblen, hC, hJ, hT, hu, rgo, n4, Graph.cells, Block.cells, ltS, nm_ne, tk_ne])); with_reducible refine evp ?_)
           | ((with_reducible refine apn ?na ?_); (case na => simp [appNames, ints, intss] <;> first | kernel_rfl | (refine ⟨?_, ?_⟩ <;> kernel_rfl)))
           | ((with_reducible refine tcl ?_); first | ((apply tg (Ku)); (case e => rfl); (case d => (refine dq ?_); (repeat' (first | ((refine Da.mk ?_); first | exact dr_ints_sl' rfl (by simp [b]) | assumption) | constructor)))))
           | fail)
          conv => arg 1; simp [s4]
          rw [appendA_snoc (s := 1) (l := cl1 vis) (e := [.int .i64 u]) (by kernel_rfl) ?hr (by simp [cl1]) ?hk rfl (by omega) ?hm]
          case hr => simp [b, n4]
          case hk => simp
          case hm => simp [b, ltS]
          refine ev2_some ?_
          have hkk1 : vis.length - 1 + 1 = vis.length := by omega
          repeat' (first
           | with_reducible refine stp ?_
           | with_reducible refine k_blk_o rfl ?_
           | with_reducible refine k_seq_n ?_
           | ((try (conv => arg 1; simp [s0, s1, s4, hkk1])); with_reducible refine evp ?_)
           | ((with_reducible refine apn ?na ?_); (case na => simp [appNames, ints, intss] <;> first | kernel_rfl | (refine ⟨?_, ?_⟩ <;> kernel_rfl)))
           | fail)
          refine k_lp_n ((th.set u true).count false) (by omega) ⟨th.set u true, u, vis ++ [(u : Int)], rfl, by simp [htl], hu, by simp; omega, by simp, fun i hi => ?_, hR, by simp, by simp [s1], by simp, ?_⟩
          · rw [hasI_append, ← hrel i hi]
            have hil : i < th.length := by omega
            by_cases e : i = u
            · subst e; simp [hil]
            · have e2 : ¬ (i : Int) = (u : Int) := by omega
              have e3 : ¬ u = i := fun h => e h.symm
              simp [hil, e2, List.getElem_set, e3]
          · have e4 : cl1 (vis ++ [(u : Int)]) = cl1 vis ++ [[.int .i64 u]] := by simp [cl1]
            rw [e4, List.length_append, List.length_singleton, show vis.length + 1 - 1 = vis.length - 1 + 1 by omega]
            exact Cx.to x
      · rw [aim_end ht (fun h => hJ h.2.1)] at hR
        repeat' (first
         | with_reducible refine stp ?_
         | with_reducible refine k_blk_o rfl ?_
         | with_reducible refine k_seq_n ?_
         | ((try (conv => arg 1; simp [s0, s1, s4, b, blocks, hblk, hblen, hC, hJ, Graph.cells, Block.cells, ltS, nm_ne, tk_ne])); with_reducible refine evp ?_)
         | ((with_reducible refine apn ?na ?_); (case na => simp [appNames, ints, intss] <;> first | kernel_rfl | (refine ⟨?_, ?_⟩ <;> kernel_rfl)))
         | fail)
        rw [hR]
        exact .int _ _
    · rw [aim_end ht (fun h => hC h.1)] at hR
      have hC2 : ¬ g.Blocks[t].Code.length = 0 := fun h => hC (List.length_eq_zero_iff.1 h)
      repeat' (first
       | with_reducible refine stp ?_
       | with_reducible refine k_blk_o rfl ?_
       | with_reducible refine k_seq_n ?_
       | ((try (conv => arg 1; simp [s0, s1, s4, b, blocks, hblk, hblen, hC, hC2, Graph.cells, Block.cells, ltS, nm_ne, tk_ne])); with_reducible refine evp ?_)
       | ((with_reducible refine apn ?na ?_); (case na => simp [appNames, ints, intss] <;> first | kernel_rfl | (refine ⟨?_, ?_⟩ <;> kernel_rfl)))
       | fail)
      rw [hR]
      exact .int _ _
end Go.Proofs.Ytlmlkkkgcbpaoaa.AM

/-
  Threads: the reference's.
-/
set_option linter.unusedVariables false
set_option linter.unusedSimpArgs false
set_option maxRecDepth 4000
namespace Go.Proofs.Ytlmlkkkgcbpaoaa.AM
open Go.RowKit

private def MG27 : FuncId → Mode := fun f => if f = 45 then .fresh else .tree

/-- One block of a row that is open. -/
theorem Cx.blk_at {h : Hp} {bs : Bx} {os : Ox} {es : List (List AV)} {ys : List Block} {ns : List Nm} (x : Cx h bs ((.agg es.flatten, (fun b => .agg (ys.map (Block.cells b)).flatten), ns) :: os)) (he5 : ∀ e ∈ es, e.length = 5) (hle : es.length = ys.length) {i : Nat} (hi : i < ys.length) :
    ∃ w, es[i]? = some [w, .int .i64 ys[i].Jump, .int .i64 ys[i].A, .int .i64 ys[i].To, .int .i64 ys[i].Else] ∧ (w.one = true ∧ w.stored = true ∧ w.cells = [w]) ∧
      ∀ J A To El : Int, Cx h bs ((.agg (es.set i [w, .int .i64 J, .int .i64 A, .int .i64 To, .int .i64 El]).flatten, (fun b => .agg ((ys.set i ⟨ys[i].Code, J, A, To, El⟩).map (Block.cells b)).flatten), ns) :: os) := by
  have hie : i < es.length := by omega
  have ees : es = es.take i ++ (es[i] :: es.drop (i + 1)) := by rw [← List.drop_eq_getElem_cons hie, List.take_append_drop]
  have exs : ys = ys.take i ++ (ys[i] :: ys.drop (i + 1)) := by rw [← List.drop_eq_getElem_cons hi, List.take_append_drop]
  have f1 : es.flatten = (es.take i).flatten ++ (es[i] ++ (es.drop (i + 1)).flatten) := by
    have := congrArg List.flatten ees
    rw [List.flatten_append, List.flatten_cons] at this
    exact this
  have f2 : ∀ b, (ys.map (Block.cells b)).flatten = ((ys.take i).map (Block.cells b)).flatten ++ (ys[i].cells b ++ ((ys.drop (i + 1)).map (Block.cells b)).flatten) := fun b => by
    have := congrArg (fun l => (List.map (Block.cells b) l).flatten) exs
    simp only [List.map_append, List.flatten_append, List.map_cons, List.flatten_cons] at this
    exact this
  have y0 := x
  rw [f1] at y0
  simp only [f2] at y0
  have ht5 : (es.take i).flatten.length = i * 5 := by rw [flatten_len (s := 5) _ (fun e he => he5 e (List.mem_of_mem_take he))]; simp; omega
  obtain ⟨m1, m2, en1, y1⟩ := Cx.agg_split (t1 := fun b => ((ys.take i).map (Block.cells b)).flatten) (t2 := fun b => ys[i].cells b ++ ((ys.drop (i + 1)).map (Block.cells b)).flatten) (fun b => by rw [five_flat, ht5]; simp; omega) y0
  obtain ⟨m3, m4, en2, y2⟩ := Cx.agg_split (t1 := fun b => ys[i].cells b) (t2 := fun b => ((ys.drop (i + 1)).map (Block.cells b)).flatten) (fun b => by rw [block_len, he5 _ (List.getElem_mem _)]) y1
  obtain ⟨w, ew, y3⟩ := Cx.block_split y2.rot1
  have qw := own_one' (own_of (y3.o0 true) rfl)
  refine ⟨w, by rw [List.getElem?_eq_getElem hie, ew], qw, fun J A To El => ?_⟩
  have y5 := (y3.block_join (c := ⟨ys[i].Code, J, A, To, El⟩)).perm (List.Perm.swap _ _ _)
  have y6 := (Cx.agg_app y5).agg_app
  have f3 : (es.set i [w, .int .i64 J, .int .i64 A, .int .i64 To, .int .i64 El]).flatten = (es.take i).flatten ++ ([w, .int .i64 J, .int .i64 A, .int .i64 To, .int .i64 El] ++ (es.drop (i + 1)).flatten) := by
    rw [List.set_eq_take_append_cons_drop, if_pos hie]
    simp
  have f4 : ∀ b, ((ys.set i ⟨ys[i].Code, J, A, To, El⟩).map (Block.cells b)).flatten = ((ys.take i).map (Block.cells b)).flatten ++ (Block.cells b ⟨ys[i].Code, J, A, To, El⟩ ++ ((ys.drop (i + 1)).map (Block.cells b)).flatten) := fun b => by
    rw [List.set_eq_take_append_cons_drop, if_pos hi]
    simp
  rw [f3, en1, en2]
  simp only [f4]
  exact y6

def thB (g : Graph) (b : Block) : Block := ⟨b.Code, b.Jump, b.A, if b.Jump = 2 then b.To else aim g b.To.toNat, if b.Jump = 1 then aim g b.Else.toNat else b.Else⟩
def threadsR (g : Graph) : Graph := if graphOk g = true then { g with Blocks := g.Blocks.map (thB g) } else g
theorem blk_jump {g : Graph} (hg : graphOk g = true) {i : Nat} (hi : i < g.Blocks.length) : g.Blocks[i].Jump = 0 ∨ g.Blocks[i].Jump = 1 ∨ g.Blocks[i].Jump = 2 := by
  simp only [graphOk, Bool.and_eq_true, List.all_eq_true] at hg
  have hb := hg.2 _ (List.getElem_mem hi)
  unfold blockOk at hb
  simp only [Bool.and_eq_true] at hb
  have hb := hb.2
  split at hb
  · rename_i h; exact .inl h
  · split at hb
    · rename_i h; exact .inr (.inl h)
    · split at hb
      · rename_i h; exact .inr (.inr h)
      · cases hb
theorem aim_ok {g : Graph} (hg : graphOk g = true) {i : Nat} (hi : i < g.Blocks.length) {t : Int} (ht : t ∈ nextL g.Blocks[i]) : ∃ u : Nat, t = (u : Int) ∧ u < g.Blocks.length := by
  have := next_ok hg hi t ht
  exact ⟨t.toNat, by omega, by omega⟩
/-- As far as the loop has come. -/
def thMix (g : Graph) (i : Nat) : List Block := (g.Blocks.take i).map (thB g) ++ g.Blocks.drop i
theorem thMix_len (g : Graph) {i : Nat} (hi : i ≤ g.Blocks.length) : (thMix g i).length = g.Blocks.length := by simp [thMix]; omega
theorem thMix_at (g : Graph) {i : Nat} (hi : i < g.Blocks.length) : (thMix g i)[i]'(by rw [thMix_len g (by omega)]; exact hi) = g.Blocks[i] := by
  simp only [thMix]
  rw [List.getElem_append_right (by simp; omega)]
  simp [Nat.min_eq_left (Nat.le_of_lt hi)]
theorem thMix_succ (g : Graph) {i : Nat} (hi : i < g.Blocks.length) : thMix g (i + 1) = (thMix g i).set i (thB g g.Blocks[i]) := by
  unfold thMix
  rw [List.set_append_right _ _ (by simp; omega), List.length_map, List.length_take, Nat.min_eq_left (Nat.le_of_lt hi), Nat.sub_self, List.drop_eq_getElem_cons hi, List.set_cons_zero, List.take_add_one, List.getElem?_eq_getElem hi, Option.toList_some, List.map_append, List.append_assoc]
  rfl

set_option maxHeartbeats 4000000 in
theorem specThreads (g : Graph) (d : g.Small) : FreshW Try.prog 23 [.agg (g.cells true)] (fun b => .agg ((threadsR g).cells b)) := by
  intro T
  have hln := d.len
  have hnil : True := trivial
  have G := graphOkSpec g d.fit
  refine enter mixed MG27 Try.func23 rfl (by kernel_rfl) rfl ?_
  repeat' (first
   | with_reducible refine stp ?_
   | with_reducible refine k_blk_o rfl ?_
   | ((try (conv => arg 1; simp [Graph.cells])); with_reducible refine evp ?_)
   | ((with_reducible refine apn ?na ?_); (case na => simp [appNames, ints, intss] <;> first | kernel_rfl | (refine ⟨?_, ?_⟩ <;> kernel_rfl)))
   | fail)
  refine cx_k ((Cx.mt.next.box_one (T := T) (i := 0) Cx.mt.off (by simp)).box_add (n := (T, 1, 0)) (by simp [nms]) (by simp)) ?_
  intro h1 x1
  have b1 := x1.bxs
  simp only [Bxs] at b1
  repeat' (first
   | with_reducible refine stp ?_
   | with_reducible refine k_blk_o rfl ?_
   | with_reducible refine k_seq_n ?_
   | ((try (conv => arg 1; simp [b1, ltS, nm_ne, tk_ne])); with_reducible refine evp ?_)
   | ((with_reducible refine apn ?na ?_); (case na => simp [appNames, ints, intss] <;> first | kernel_rfl | (refine ⟨?_, ?_⟩ <;> kernel_rfl)))
   | fail)
  refine st_freshw rfl (l04Copy g d) (.cons (dr_agg (drs_graphL g fun h => h)) .nil) ?_
  intro v h2 n o e f p t
  have x2 := x1.next.fresh o e f p t
  have z2 : h1.tick < h2.tick := by simp only [hp_next_tick] at t; omega
  obtain ⟨w1, w2, _, _, rfl, _, q1, q2⟩ := ownV_graph (o true)
  have q1 := own_one q1
  have q2 := own_one' q2
  have b2 := x2.bxs
  simp only [Bxs] at b2
  repeat' (first
   | with_reducible refine stp ?_
   | with_reducible refine k_blk_o rfl ?_
   | ((try (conv => arg 1; simp [b2, z2, q1.1, q1.2.1, q1.2.2, q2.1, q2.2.1, q2.2.2, ltS, nm_ne, tk_ne])); with_reducible refine evp ?_)
   | ((with_reducible refine apn ?na ?_); (case na => simp [appNames, ints, intss] <;> first | kernel_rfl | (refine ⟨?_, ?_⟩ <;> kernel_rfl)))
   | fail)
  refine cx_k (x2.box_new (x1.off.fresh f (by simp [hp_next_tick])) z2) ?_
  intro h3 x3
  have b3 := x3.bxs
  simp only [Bxs] at b3
  cases hk : graphOk g with
  | false =>
    rw [hk] at G
    have hr : threadsR g = g := by simp [threadsR, hk]
    rw [hr]
    have hz : g.Blocks = [] ∨ (0 : Int) < g.Blocks.length := by
      cases hb : g.Blocks with
      | nil => exact .inl rfl
      | cons a l => exact .inr (by simp only [List.length_cons]; omega)
    repeat' (first
     | with_reducible refine stp ?_
     | with_reducible refine k_blk_o rfl ?_
     | with_reducible refine k_seq_n ?_
     | ((try (conv => arg 1; simp [b3, q1.1, q1.2.1, q1.2.2, q2.1, q2.2.1, q2.2.2, ltS, nm_ne, tk_ne])); with_reducible refine evp ?_)
     | ((with_reducible refine apn ?na ?_); (case na => simp [appNames, ints, intss] <;> first | kernel_rfl | (refine ⟨?_, ?_⟩ <;> kernel_rfl)))
     | fail)
    refine st_loop (fun (i : Nat) σ h => i = 0 ∧ σ 1 = .ptr (T, 0, 0) 0 0 0 ∧ σ 2 = .ptr (T, 1, 0) 0 0 0 ∧ σ 3 = .ptr (h1.tick, 2, 0) 0 0 0 ∧ σ 4 = .int .i64 0 ∧
      Cx h [((h1.tick, 2, 0), ⟨0, 5, [[w1, .int .i64 g.Params, .int .i64 g.Vars, .int .i64 g.Slots, w2]]⟩), ((T, 1, 0), ⟨0, 5, [[.nilsl, .int .i64 0, .int .i64 0, .int .i64 0, .nilsl]]⟩), ((T, 0, 0), graphRow g)]
        [(.agg [w1, .int .i64 g.Params, .int .i64 g.Vars, .int .i64 g.Slots, w2], (fun b => .agg (g.cells b)), n)]) (fun i => 0) 0 ?init ?step
    case init => exact ⟨rfl, by simp, by simp, by simp, by simp, Cx.to x3⟩
    case step =>
      rintro i σ h ⟨_, s1, s2, s3, s4, x⟩
      have b := x.bxs
      simp only [Bxs, graphRow] at b
      rcases hz with hz | hz
      · have hz2 : ¬ (0 : Int) < g.Blocks.length := by rw [hz]; simp
        repeat' (first
         | with_reducible refine stp ?_
         | with_reducible refine k_blk_o rfl ?_
         | with_reducible refine k_seq_n ?_
         | ((try (conv => arg 1; simp [s1, s2, s3, s4, b, hz, hz2, q1.1, q1.2.1, q1.2.2, q2.1, q2.2.1, q2.2.2, ltS, nm_ne, tk_ne])); with_reducible refine evp ?_)
         | ((with_reducible refine apn ?na ?_); (case na => simp [appNames, ints, intss] <;> first | kernel_rfl | (refine ⟨?_, ?_⟩ <;> kernel_rfl)))
         | fail)
        refine fin_own (os := []) (ns := n) (bs := ?bs1) ?y1
        case y1 => exact Cx.to x
      · have hzn : 0 < g.Blocks.length := by omega
        repeat' (first
         | with_reducible refine stp ?_
         | with_reducible refine k_blk_o rfl ?_
         | with_reducible refine k_seq_n ?_
         | ((try (conv => arg 1; simp [s1, s2, s3, s4, b, hz, hzn, q1.1, q1.2.1, q1.2.2, q2.1, q2.2.1, q2.2.2, ltS, nm_ne, tk_ne])); with_reducible refine evp ?_)
         | ((with_reducible refine apn ?na ?_); (case na => simp [appNames, ints, intss] <;> first | kernel_rfl | (refine ⟨?_, ?_⟩ <;> kernel_rfl)))
         | ((with_reducible refine tcl ?_); first | ((apply tg (G)); (case e => rfl); (case d => (refine dq ?_); (repeat' (first | ((refine Da.mk ?_); first | exact dr_blocks (by simp) _ | assumption) | constructor)))))
         | fail)
        refine fin_own (os := []) (ns := n) (bs := ?bs2) ?y2
        case y2 => exact Cx.to x
  | true =>
    rw [hk] at G
    have hr : threadsR g = { g with Blocks := g.Blocks.map (thB g) } := by simp [threadsR, hk]
    rw [hr]
    have hnb : 1 ≤ g.Blocks.length := (headOk_head (by simp only [graphOk, Bool.and_eq_true] at hk; exact hk.1.1)).blocks.1
    have hbne : (g.Blocks.map (Block.cells true)) ≠ [] := fun e => by have := List.map_eq_nil_iff.1 e; rw [this] at hnb; simp at hnb
    obtain ⟨u1, u2, n1, n2, eu, rfl, x4⟩ := x3.graph_split
    simp only [List.cons.injEq, true_and, and_true] at eu
    obtain ⟨rfl, rfl⟩ := eu
    obtain ⟨kk, ver, es, sp, n3, rfl, rfl, hel, he5, c1, c2, y⟩ := x4.rot1.open_row (s := 5) (ts := fun b => g.Blocks.map (Block.cells b)) (by omega) (fun b t ht => by simp at ht; obtain ⟨a, _, rfl⟩ := ht; rfl) hbne
    have hel2 : es.length = g.Blocks.length := by simpa using hel
    rw [hel2] at q2 b3 y
    repeat' (first
     | with_reducible refine stp ?_
     | with_reducible refine k_blk_o rfl ?_
     | with_reducible refine k_seq_n ?_
     | ((try (conv => arg 1; simp [b3, q1.1, q1.2.1, q1.2.2, q2.1, q2.2.1, q2.2.2, ltS, nm_ne, tk_ne])); with_reducible refine evp ?_)
     | ((with_reducible refine apn ?na ?_); (case na => simp [appNames, ints, intss] <;> first | kernel_rfl | (refine ⟨?_, ?_⟩ <;> kernel_rfl)))
     | fail)
    refine st_loop (fun (i : Nat) σ h => i ≤ g.Blocks.length ∧ σ 1 = .ptr (T, 0, 0) 0 0 0 ∧ σ 2 = .ptr (T, 1, 0) 0 0 0 ∧ σ 3 = .ptr (h1.tick, 2, 0) 0 0 0 ∧ σ 4 = .int .i64 i ∧ ∃ es, es.length = g.Blocks.length ∧ (∀ e ∈ es, e.length = 5) ∧
      Cx h [(kk, ⟨ver, 5, es ++ sp⟩), ((h1.tick, 2, 0), ⟨0, 5, [[w1, .int .i64 g.Params, .int .i64 g.Vars, .int .i64 g.Slots, .sl kk ver 0 g.Blocks.length]]⟩), ((T, 1, 0), ⟨0, 5, [[.nilsl, .int .i64 0, .int .i64 0, .int .i64 0, .nilsl]]⟩), ((T, 0, 0), graphRow g)]
        [(.agg es.flatten, (fun b => .agg ((thMix g i).map (Block.cells b)).flatten), n3), (w1, (fun b => ints b g.Sizes), n1)]) (fun i => g.Blocks.length - i) 0 ?init ?step
    case init => exact ⟨Nat.zero_le _, by simp, by simp, by simp, by simp, es, hel2, he5, Cx.to y⟩
    case step =>
      rintro i σ h ⟨hi, s1, s2, s3, s4, es, hle, he5, x⟩
      have b := x.bxs
      simp only [Bxs, graphRow] at b
      by_cases hlt : i < g.Blocks.length
      · have hlt2 : (i : Int) < g.Blocks.length := by omega
        have hw : IntKind.i64.wrap (i + 1) = i + 1 := wrap_id (by omega) (by omega)
        have hml := thMix_len g hi
        obtain ⟨w, hw1, qw, hx⟩ := x.blk_at he5 (by omega) (i := i) (by omega)
        have hma := thMix_at g hlt
        simp only [hma] at hw1 hx
        have hie : i < es.length := by omega
        have hat : (es ++ sp)[i]? = some [w, .int .i64 g.Blocks[i].Jump, .int .i64 g.Blocks[i].A, .int .i64 g.Blocks[i].To, .int .i64 g.Blocks[i].Else] := by
          rw [List.getElem?_append_left hie, hw1]
        have hset : ∀ e : List AV, (es ++ sp).set i e = es.set i e ++ sp := fun e => List.set_append_left _ _ hie
        have hsl : i < (es ++ sp).length := by simp; omega
        have hms := thMix_succ g hlt
        have fin : ∀ J A To El : Int, thB g g.Blocks[i] = ⟨g.Blocks[i].Code, J, A, To, El⟩ → ∀ h', Cx h' [(kk, ⟨ver, 5, (es ++ sp).set i [w, .int .i64 J, .int .i64 A, .int .i64 To, .int .i64 El]⟩), ((h1.tick, 2, 0), ⟨0, 5, [[w1, .int .i64 g.Params, .int .i64 g.Vars, .int .i64 g.Slots, .sl kk ver 0 g.Blocks.length]]⟩), ((T, 1, 0), ⟨0, 5, [[.nilsl, .int .i64 0, .int .i64 0, .int .i64 0, .nilsl]]⟩), ((T, 0, 0), graphRow g)]
            [(.agg (es.set i [w, .int .i64 J, .int .i64 A, .int .i64 To, .int .i64 El]).flatten, (fun b => .agg (((thMix g i).set i ⟨g.Blocks[i].Code, J, A, To, El⟩).map (Block.cells b)).flatten), n3), (w1, (fun b => ints b g.Sizes), n1)] →
            ∃ es, es.length = g.Blocks.length ∧ (∀ e ∈ es, e.length = 5) ∧
              Cx h' [(kk, ⟨ver, 5, es ++ sp⟩), ((h1.tick, 2, 0), ⟨0, 5, [[w1, .int .i64 g.Params, .int .i64 g.Vars, .int .i64 g.Slots, .sl kk ver 0 g.Blocks.length]]⟩), ((T, 1, 0), ⟨0, 5, [[.nilsl, .int .i64 0, .int .i64 0, .int .i64 0, .nilsl]]⟩), ((T, 0, 0), graphRow g)]
                [(.agg es.flatten, (fun b => .agg ((thMix g (i + 1)).map (Block.cells b)).flatten), n3), (w1, (fun b => ints b g.Sizes), n1)] := fun J A To El e h' z => by
          refine ⟨es.set i [w, .int .i64 J, .int .i64 A, .int .i64 To, .int .i64 El], by simp [hle], fun e he => ?_, ?_⟩
          · rcases List.mem_or_eq_of_mem_set he with he | rfl
            · exact he5 e he
            · rfl
          · rw [hms, e, ← hset]; exact z
        have apk : ¬ (h1.tick, 2, 0) = kk := by have ap := x.aps; simp only [List.map_cons, List.map_nil, Aps] at ap; exact (ap.1 (h1.tick, 2, 0) (by simp)).2
        have apk2 : ¬ (T, 0, 0) = kk := by have ap := x.aps; simp only [List.map_cons, List.map_nil, Aps] at ap; exact (ap.1 (T, 0, 0) (by simp)).2
        generalize hE : es ++ sp = E at *
        rcases blk_jump hk hlt with hJ | hJ | hJ
        · obtain ⟨u, hT, hu⟩ := aim_ok hk hlt (t := g.Blocks[i].To) (by simp [nextL, hJ])
          have A1 := l16Aim g hk d u hu
          rw [hJ, hT] at hat
          repeat' (first
           | with_reducible refine stp ?_
           | with_reducible refine k_blk_o rfl ?_
           | with_reducible refine k_seq_n ?_
           | ((try (conv => arg 1; simp [s1, s2, s3, s4, b, hlt, hlt2, hat, qw.1, qw.2.1, qw.2.2, hw, apk, apk2, ltS, nm_ne, tk_ne])); with_reducible refine evp ?_)
           | ((with_reducible refine apn ?na ?_); (case na => simp [appNames, ints, intss] <;> first | kernel_rfl | (refine ⟨?_, ?_⟩ <;> kernel_rfl)))
           | ((with_reducible refine tcl ?_); first | ((apply tg (G)); (case e => rfl); (case d => (refine dq ?_); (repeat' (first | ((refine Da.mk ?_); first | exact dr_blocks (by simp) _ | assumption) | constructor)))) | ((apply tg (A1)); (case e => rfl); (case d => (refine dq ?_); (repeat' (first | ((refine Da.mk ?_); first | exact dr_blocks (by simp) _ | assumption) | constructor)))))
           | fail)
          refine k_lp_n (i + 1) (by omega) ⟨by omega, by simp [s1], by simp [s2], by simp [s3], by simp, fin 0 g.Blocks[i].A (aim g u) g.Blocks[i].Else (by simp [thB, hJ, hT]) _ ?_⟩
          exact Cx.to (hx _ _ _ _)
        · obtain ⟨u, hT, hu⟩ := aim_ok hk hlt (t := g.Blocks[i].To) (by simp [nextL, hJ])
          obtain ⟨u', hT', hu'⟩ := aim_ok hk hlt (t := g.Blocks[i].Else) (by simp [nextL, hJ])
          have A1 := l16Aim g hk d u hu
          have A2 := l16Aim g hk d u' hu'
          rw [hJ, hT, hT'] at hat
          repeat' (first
           | with_reducible refine stp ?_
           | with_reducible refine k_blk_o rfl ?_
           | with_reducible refine k_seq_n ?_
           | ((try (conv => arg 1; simp [s1, s2, s3, s4, b, hlt, hlt2, hat, qw.1, qw.2.1, qw.2.2, hw, apk, apk2, ltS, nm_ne, tk_ne])); with_reducible refine evp ?_)
           | ((with_reducible refine apn ?na ?_); (case na => simp [appNames, ints, intss] <;> first | kernel_rfl | (refine ⟨?_, ?_⟩ <;> kernel_rfl)))
           | ((with_reducible refine tcl ?_); first | ((apply tg (G)); (case e => rfl); (case d => (refine dq ?_); (repeat' (first | ((refine Da.mk ?_); first | exact dr_blocks (by simp) _ | assumption) | constructor)))) | ((apply tg (A1)); (case e => rfl); (case d => (refine dq ?_); (repeat' (first | ((refine Da.mk ?_); first | exact dr_blocks (by simp) _ | assumption) | constructor)))) | ((apply tg (A2)); (case e => rfl); (case d => (refine dq ?_); (repeat' (first | ((refine Da.mk ?_); first | exact dr_blocks (by simp) _ | assumption) | constructor)))))
           | fail)
          refine k_lp_n (i + 1) (by omega) ⟨by omega, by simp [s1], by simp [s2], by simp [s3], by simp, fin 1 g.Blocks[i].A (aim g u) (aim g u') (by simp [thB, hJ, hT, hT']) _ ?_⟩
          exact Cx.to (hx _ _ _ _)
        · rw [hJ] at hat
          repeat' (first
           | with_reducible refine stp ?_
           | with_reducible refine k_blk_o rfl ?_
           | with_reducible refine k_seq_n ?_
           | ((try (conv => arg 1; simp [s1, s2, s3, s4, b, hlt, hlt2, hat, qw.1, qw.2.1, qw.2.2, hw, apk, apk2, ltS, nm_ne, tk_ne])); with_reducible refine evp ?_)
           | ((with_reducible refine apn ?na ?_); (case na => simp [appNames, ints, intss] <;> first | kernel_rfl | (refine ⟨?_, ?_⟩ <;> kernel_rfl)))
           | ((with_reducible refine tcl ?_); first | ((apply tg (G)); (case e => rfl); (case d => (refine dq ?_); (repeat' (first | ((refine Da.mk ?_); first | exact dr_blocks (by simp) _ | assumption) | constructor)))))
           | fail)
          refine k_lp_n (i + 1) (by omega) ⟨by omega, by simp [s1], by simp [s2], by simp [s3], by simp, fin 2 g.Blocks[i].A g.Blocks[i].To g.Blocks[i].Else (by simp [thB, hJ]) _ ?_⟩
          exact Cx.to (hx _ _ _ _)
      · have hge : i = g.Blocks.length := by omega
        have hlt2 : ¬ (i : Int) < g.Blocks.length := by omega
        repeat' (first
         | with_reducible refine stp ?_
         | with_reducible refine k_blk_o rfl ?_
         | with_reducible refine k_seq_n ?_
         | ((try (conv => arg 1; simp [s1, s2, s3, s4, b, hlt, hlt2, q1.1, q1.2.1, q1.2.2, ltS, nm_ne, tk_ne])); with_reducible refine evp ?_)
         | ((with_reducible refine apn ?na ?_); (case na => simp [appNames, ints, intss] <;> first | kernel_rfl | (refine ⟨?_, ?_⟩ <;> kernel_rfl)))
         | fail)
        have e1 : thMix g i = g.Blocks.map (thB g) := by unfold thMix; rw [hge, List.take_length, List.drop_length, List.append_nil]
        rw [e1] at x
        have z := Cx.close_row (ts := fun b => (g.Blocks.map (thB g)).map (Block.cells b)) x he5 (fun b => by simp [hle]) (fun b t ht => by simp at ht; obtain ⟨a, _, rfl⟩ := ht; rfl) c1 c2
        rw [hle] at z
        refine fin_own (os := []) (ns := n1 ++ (kk :: (n3 ++ []))) (bs := ?bs3) ?y3
        case y3 => exact Cx.to (Cx.graph_join (g := { g with Blocks := g.Blocks.map (thB g) }) (Cx.rot1 z))
end Go.Proofs.Ytlmlkkkgcbpaoaa.AM

/-
  Places: what they are; the tree functions under them.
-/
set_option linter.unusedVariables false
set_option linter.unusedSimpArgs false
set_option maxRecDepth 4000
namespace Go.Proofs.Ytlmlkkkgcbpaoaa.AM
open Go.RowKit

private def MG31 : FuncId → Mode := fun f => .tree

structure PV where
  base : Int
  off : Int
structure Plc where
  R : Int
  Lo : Int
  Hi : Int
  Off : Int
def PV.cells (x : PV) : List AV := [.int .i64 x.base, .int .i64 x.off]
def Plc.cells (x : Plc) : List AV := [.int .i64 x.R, .int .i64 x.Lo, .int .i64 x.Hi, .int .i64 x.Off]
def pvs (b : Bool) (l : List PV) : AV := .tr b (l.map PV.cells)
def plcs (b : Bool) (l : List Plc) : AV := .tr b (l.map Plc.cells)
@[simp] theorem one_pvs (b : Bool) (xs : List PV) : (pvs b xs).one = true := rfl
@[simp] theorem stored_pvs (b : Bool) (xs : List PV) : (pvs b xs).stored = true := rfl
@[simp] theorem cells_pvs (b : Bool) (xs : List PV) : (pvs b xs).cells = [pvs b xs] := rfl
@[simp] theorem one_plcs (b : Bool) (xs : List Plc) : (plcs b xs).one = true := rfl
@[simp] theorem stored_plcs (b : Bool) (xs : List Plc) : (plcs b xs).stored = true := rfl
@[simp] theorem cells_plcs (b : Bool) (xs : List Plc) : (plcs b xs).cells = [plcs b xs] := rfl
theorem lenA_pvs {P : Program} {t : TypeId} (b : Bool) (xs : List PV) (h : (telem P t).isSome = true) : lenA P t (pvs b xs) = some (.int .i64 xs.length) := by
  unfold pvs
  rw [lenA_tr b _ h]
  simp
theorem lenA_plcs {P : Program} {t : TypeId} (b : Bool) (xs : List Plc) (h : (telem P t).isSome = true) : lenA P t (plcs b xs) = some (.int .i64 xs.length) := by
  unfold plcs
  rw [lenA_tr b _ h]
  simp
attribute [simp] lenA_pvs lenA_plcs
theorem pv_flat (w : PV) : w.cells.length = 2 ∧ ∀ x ∈ w.cells, flatc x = true := ⟨rfl, by simp [PV.cells, flatc]⟩
theorem pvs_flat (ws : List PV) : ∀ e ∈ ws.map PV.cells, e.length = 2 ∧ ∀ x ∈ e, flatc x = true := fun e he => by
  obtain ⟨w, _, rfl⟩ := List.mem_map.1 he
  exact pv_flat w
theorem plc_flat (w : Plc) : w.cells.length = 4 ∧ ∀ x ∈ w.cells, flatc x = true := ⟨rfl, by simp [Plc.cells, flatc]⟩
theorem plcs_flat (ws : List Plc) : ∀ e ∈ ws.map Plc.cells, e.length = 4 ∧ ∀ x ∈ e, flatc x = true := fun e he => by
  obtain ⟨w, _, rfl⟩ := List.mem_map.1 he
  exact plc_flat w
theorem drs_pv {c : Bool} {rows : Nm → Option Row} (w : PV) : DRs c rows w.cells w.cells := drs_flat (pv_flat w).2
theorem drs_plc {c : Bool} {rows : Nm → Option Row} (w : Plc) : DRs c rows w.cells w.cells := drs_flat (plc_flat w).2
theorem dr_pvs {c b : Bool} {rows : Nm → Option Row} (hb : b = true → c = true) (ws : List PV) : DR c rows (pvs b ws) (pvs c ws) := dr_trflat hb fun e he => (pvs_flat ws e he).2
theorem dr_plcs {c b : Bool} {rows : Nm → Option Row} (hb : b = true → c = true) (ws : List Plc) : DR c rows (plcs b ws) (plcs c ws) := dr_trflat hb fun e he => (plcs_flat ws e he).2
/-- A row of plain cells, read as data. -/
theorem dr_flat_sl {c : Bool} {rows : Nm → Option Row} {n : Nm} {ver s : Nat} {l : List (List AV)} {sp : List (List AV)} (h : rows n = some ⟨ver, s, l ++ sp⟩) (hf : ∀ e ∈ l, ∀ x ∈ e, flatc x = true) : DR c rows (.sl n ver 0 l.length) (.tr c l) := by
  have hg : ∀ i, i < l.length → (l ++ sp)[0 + i]? = l[i]? := fun i hi => by rw [Nat.zero_add, List.getElem?_append_left hi]
  refine .sl n ver 0 l.length _ _ h rfl (by simp) rfl (fun i e t he ht => ?_) (fun i e t j x y he ht hx hy => ?_)
  · have hi : i < l.length := (List.getElem?_eq_some_iff.1 ht).1
    rw [hg i hi] at he
    rw [he] at ht; cases ht; rfl
  · have hi : i < l.length := (List.getElem?_eq_some_iff.1 ht).1
    rw [hg i hi] at he
    rw [he] at ht; cases ht
    rw [hx] at hy; cases hy
    exact dr_flatc (hf e (List.mem_of_getElem? he) x (List.mem_of_getElem? hx))
theorem dr_pvs_sl {c : Bool} {rows : Nm → Option Row} {n : Nm} {ver len : Nat} {l : List PV} (hl : l.length = len) (h : rows n = some ⟨ver, 2, l.map PV.cells⟩) : DR c rows (.sl n ver 0 len) (pvs c l) := by
  subst hl
  have := dr_flat_sl (c := c) (l := l.map PV.cells) (sp := []) (by rw [List.append_nil]; exact h) (fun e he => (pvs_flat l e he).2)
  rw [List.length_map] at this
  exact this
theorem dr_plcs_sl {c : Bool} {rows : Nm → Option Row} {n : Nm} {ver len : Nat} {l : List Plc} {sp : List (List AV)} (hl : l.length = len) (h : rows n = some ⟨ver, 4, l.map Plc.cells ++ sp⟩) : DR c rows (.sl n ver 0 len) (plcs c l) := by
  subst hl
  have := dr_flat_sl (c := c) (l := l.map Plc.cells) (sp := sp) h (fun e he => (plcs_flat l e he).2)
  rw [List.length_map] at this
  exact this

def w64 (a : Int) : Int := IntKind.i64.wrap a
def isT (op : ByteArray) (k : List UInt8) : Bool := op.toList == k
def binV (op : ByteArray) (a b : Int) : Int :=
  if isT op [43] then w64 (a + b) else if isT op [45] then w64 (a - b) else if isT op [42] then w64 (a * b)
  else if isT op [38] then w64 (BitVec.ofInt IntKind.i64.bits a &&& BitVec.ofInt IntKind.i64.bits b).toNat
  else if isT op [61, 61] then (if a = b then 1 else 0) else if isT op [60] then (if a < b then 1 else 0) else 0
def bin2 (op : ByteArray) (a b : PV) : Option PV :=
  if a.base = -1 ∧ b.base = -1 then some ⟨-1, binV op a.off b.off⟩
  else if isT op [43] = true ∧ a.base = -1 then some ⟨b.base, w64 (a.off + b.off)⟩
  else if isT op [43] = true ∧ b.base = -1 then some ⟨a.base, w64 (a.off + b.off)⟩
  else if isT op [45] = true ∧ b.base = -1 then some ⟨a.base, w64 (a.off - b.off)⟩
  else if isT op [45] = true ∧ a.base = b.base then some ⟨-1, w64 (a.off - b.off)⟩
  else none
def aliasV (p q : Plc) : Int := if p.R = q.R then (if p.Lo = q.Lo ∧ p.Hi = q.Hi then (if p.Off = q.Off then 2 else 0) else 1) else 0

theorem specAlias (p q : Plc) : Pure Try.prog 126 [.agg p.cells, .agg q.cells] (.int .i64 (aliasV p q)) := by
  intro T
  refine enter mixed MG31 Try.func126 rfl (by kernel_rfl) rfl ?_
  by_cases h1 : p.R = q.R
  · by_cases h2 : p.Lo = q.Lo
    · by_cases h3 : p.Hi = q.Hi
      · by_cases h4 : p.Off = q.Off
        · skip
          repeat' (first
           | with_reducible refine stp ?_
           | with_reducible refine k_blk_o rfl ?_
           | with_reducible refine k_seq_n ?_
           | ((try (conv => arg 1; simp [Plc.cells, h1, h2, h3, h4])); with_reducible refine evp ?_)
           | ((with_reducible refine apn ?na ?_); (case na => simp [appNames, ints, intss] <;> first | kernel_rfl | (refine ⟨?_, ?_⟩ <;> kernel_rfl)))
           | fail)
          exact dr_int (by simp [aliasV, h1, h2, h3, h4])
        · skip
          repeat' (first
           | with_reducible refine stp ?_
           | with_reducible refine k_blk_o rfl ?_
           | with_reducible refine k_seq_n ?_
           | ((try (conv => arg 1; simp [Plc.cells, h1, h2, h3, h4])); with_reducible refine evp ?_)
           | ((with_reducible refine apn ?na ?_); (case na => simp [appNames, ints, intss] <;> first | kernel_rfl | (refine ⟨?_, ?_⟩ <;> kernel_rfl)))
           | fail)
          exact dr_int (by simp [aliasV, h1, h2, h3, h4])
      · skip
        repeat' (first
         | with_reducible refine stp ?_
         | with_reducible refine k_blk_o rfl ?_
         | with_reducible refine k_seq_n ?_
         | ((try (conv => arg 1; simp [Plc.cells, h1, h2, h3])); with_reducible refine evp ?_)
         | ((with_reducible refine apn ?na ?_); (case na => simp [appNames, ints, intss] <;> first | kernel_rfl | (refine ⟨?_, ?_⟩ <;> kernel_rfl)))
         | fail)
        exact dr_int (by simp [aliasV, h1, h2, h3])
    · skip
      repeat' (first
       | with_reducible refine stp ?_
       | with_reducible refine k_blk_o rfl ?_
       | with_reducible refine k_seq_n ?_
       | ((try (conv => arg 1; simp [Plc.cells, h1, h2])); with_reducible refine evp ?_)
       | ((with_reducible refine apn ?na ?_); (case na => simp [appNames, ints, intss] <;> first | kernel_rfl | (refine ⟨?_, ?_⟩ <;> kernel_rfl)))
       | fail)
      exact dr_int (by simp [aliasV, h1, h2])
  · skip
    repeat' (first
     | with_reducible refine stp ?_
     | with_reducible refine k_blk_o rfl ?_
     | with_reducible refine k_seq_n ?_
     | ((try (conv => arg 1; simp [Plc.cells, h1])); with_reducible refine evp ?_)
     | ((with_reducible refine apn ?na ?_); (case na => simp [appNames, ints, intss] <;> first | kernel_rfl | (refine ⟨?_, ?_⟩ <;> kernel_rfl)))
     | fail)
    exact dr_int (by simp [aliasV, h1])
theorem eqP (a1 a2 a3 a4 b1 b2 b3 b4 : Int) : eqCells [.i, .i, .i, .i] [.int .i64 a1, .int .i64 a2, .int .i64 a3, .int .i64 a4] [.int .i64 b1, .int .i64 b2, .int .i64 b3, .int .i64 b4] =
    some (decide (a1 = b1) && (decide (a2 = b2) && (decide (a3 = b3) && (decide (a4 = b4) && true)))) := eqC_i (eqC_i (eqC_i (eqC_i rfl)))
theorem implAlias (p q : Plc) : Pure Try.prog 64 [.agg p.cells, .agg q.cells] (.int .i64 (aliasV p q)) := by
  intro T
  refine enter mixed MG31 Try.func64 rfl (by kernel_rfl) rfl ?_
  by_cases h1 : p.R = q.R
  · by_cases h2 : p.Lo = q.Lo
    · by_cases h3 : p.Hi = q.Hi
      · by_cases h4 : p.Off = q.Off
        · skip
          repeat' (first
           | with_reducible refine stp ?_
           | with_reducible refine k_blk_o rfl ?_
           | with_reducible refine k_seq_n ?_
           | ((try (conv => arg 1; simp [Plc.cells, eqP, h1, h2, h3, h4])); with_reducible refine evp ?_)
           | ((with_reducible refine apn ?na ?_); (case na => simp [appNames, ints, intss] <;> first | kernel_rfl | (refine ⟨?_, ?_⟩ <;> kernel_rfl)))
           | fail)
          exact dr_int (by simp [aliasV, h1, h2, h3, h4])
        · skip
          repeat' (first
           | with_reducible refine stp ?_
           | with_reducible refine k_blk_o rfl ?_
           | with_reducible refine k_seq_n ?_
           | ((try (conv => arg 1; simp [Plc.cells, eqP, h1, h2, h3, h4])); with_reducible refine evp ?_)
           | ((with_reducible refine apn ?na ?_); (case na => simp [appNames, ints, intss] <;> first | kernel_rfl | (refine ⟨?_, ?_⟩ <;> kernel_rfl)))
           | fail)
          exact dr_int (by simp [aliasV, h1, h2, h3, h4])
      · skip
        repeat' (first
         | with_reducible refine stp ?_
         | with_reducible refine k_blk_o rfl ?_
         | with_reducible refine k_seq_n ?_
         | ((try (conv => arg 1; simp [Plc.cells, eqP, h1, h2, h3])); with_reducible refine evp ?_)
         | ((with_reducible refine apn ?na ?_); (case na => simp [appNames, ints, intss] <;> first | kernel_rfl | (refine ⟨?_, ?_⟩ <;> kernel_rfl)))
         | fail)
        exact dr_int (by simp [aliasV, h1, h2, h3])
    · skip
      repeat' (first
       | with_reducible refine stp ?_
       | with_reducible refine k_blk_o rfl ?_
       | with_reducible refine k_seq_n ?_
       | ((try (conv => arg 1; simp [Plc.cells, eqP, h1, h2])); with_reducible refine evp ?_)
       | ((with_reducible refine apn ?na ?_); (case na => simp [appNames, ints, intss] <;> first | kernel_rfl | (refine ⟨?_, ?_⟩ <;> kernel_rfl)))
       | fail)
      exact dr_int (by simp [aliasV, h1, h2])
  · skip
    repeat' (first
     | with_reducible refine stp ?_
     | with_reducible refine k_blk_o rfl ?_
     | with_reducible refine k_seq_n ?_
     | ((try (conv => arg 1; simp [Plc.cells, eqP, h1])); with_reducible refine evp ?_)
     | ((with_reducible refine apn ?na ?_); (case na => simp [appNames, ints, intss] <;> first | kernel_rfl | (refine ⟨?_, ?_⟩ <;> kernel_rfl)))
     | fail)
    exact dr_int (by simp [aliasV, h1])
end Go.Proofs.Ytlmlkkkgcbpaoaa.AM
