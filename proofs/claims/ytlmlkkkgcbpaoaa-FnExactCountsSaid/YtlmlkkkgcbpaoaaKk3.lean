/- Lemmas: an abstract machine over named rows, and what single functions compute (parts G8, G9, G4, G12, G13, G14, G15, G7, G16, G80, G81, G83, G84, G85, G90, G91). -/
import Derived.Test.YtlmlkkkgcbpaoaaKk2
/-
  A block, a graph that is right: the reference's.
-/
set_option linter.unusedVariables false
set_option linter.unusedSimpArgs false
set_option maxRecDepth 4000
namespace Go.Proofs.Ytlmlkkkgcbpaoaa.AM
open Go.RowKit

private def MG8 : FuncId → Mode := fun f => .tree

theorem all_take {α : Type} {l : List α} {p : α → Bool} {i : Nat} (hi : i < l.length) : (l.take (i + 1)).all p = ((l.take i).all p && p l[i]) := by
  have hx : l[i]? = some l[i] := by simp
  rw [List.take_add_one, hx, List.all_append, Option.toList_some, List.all_cons, List.all_nil, Bool.and_true]
theorem all_false {α : Type} {l : List α} {p : α → Bool} {i : Nat} (hi : i < l.length) (h : p l[i] = false) : l.all p = false := by
  cases ha : l.all p with
  | false => rfl
  | true => rw [List.all_eq_true] at ha; rw [ha _ (List.getElem_mem hi)] at h; cases h

set_option maxHeartbeats 4000000 in
theorem l04BlockOk (g : Graph) (b : Block) (hs : 0 ≤ g.Slots ∧ g.Slots ≤ 1000) (hr : g.Sizes.length ≤ 2 ^ 20) (hb : g.Blocks.length ≤ 2 ^ 20) (hc : b.Code.length ≤ 2 ^ 20) : Pure Try.prog 69 [.agg (g.cells true), .agg (b.cells true)] (.bool (blockOk g b)) := by
  intro T
  have w1 : IntKind.i64.wrap (g.Slots - 1) = g.Slots - 1 := wrap_id (by omega) (by omega)
  have w2 : IntKind.i64.wrap ((g.Blocks.length : Int) - 1) = (g.Blocks.length : Int) - 1 := wrap_id (by omega) (by omega)
  refine enter mixed MG8 Try.func69 rfl (by kernel_rfl) rfl ?_
  repeat' (first
   | with_reducible refine stp ?_
   | with_reducible refine k_blk_o rfl ?_
   | ((try (conv => arg 1; simp [Graph.cells, Block.cells])); with_reducible refine evp ?_)
   | ((with_reducible refine apn ?na ?_); (case na => simp [appNames, ints, intss] <;> first | kernel_rfl | (refine ⟨?_, ?_⟩ <;> kernel_rfl)))
   | fail)
  refine cx_k ((Cx.mt.next.box_one (T := T) (i := 0) Cx.mt.off (by simp)).box_add (n := (T, 1, 0)) (by simp [nms]) (by simp)) ?_
  intro h1 x1
  have b1 := x1.bxs
  simp only [Bxs] at b1
  repeat' (first
   | with_reducible refine stp ?_
   | with_reducible refine k_blk_o rfl ?_
   | with_reducible refine k_seq_n ?_
   | ((try (conv => arg 1; simp [b1])); with_reducible refine evp ?_)
   | ((with_reducible refine apn ?na ?_); (case na => simp [appNames, ints, intss] <;> first | kernel_rfl | (refine ⟨?_, ?_⟩ <;> kernel_rfl)))
   | fail)
  refine st_loop (fun (i : Nat) σ h => i ≤ b.Code.length ∧ σ 2 = .ptr (T, 0, 0) 0 0 0 ∧ σ 3 = .ptr (T, 1, 0) 0 0 0 ∧ σ 5 = .int .i64 i ∧ (b.Code.take i).all (instrOk g.Slots g.Sizes.length) = true ∧
    Cx h [((T, 1, 0), ⟨0, 5, [[instrs true b.Code, .int .i64 b.Jump, .int .i64 b.A, .int .i64 b.To, .int .i64 b.Else]]⟩), ((T, 0, 0), ⟨0, 5, [[ints true g.Sizes, .int .i64 g.Params, .int .i64 g.Vars, .int .i64 g.Slots, blocks true g.Blocks]]⟩)] []) (fun i => b.Code.length - i) 0 ?init ?step
  case init => exact ⟨Nat.zero_le _, by simp, by simp, by simp, rfl, Cx.to x1⟩
  case step =>
    rintro i σ h ⟨hi, s2, s3, s5, ha, x⟩
    have b2 := x.bxs
    simp only [Bxs] at b2
    by_cases hlt : i < b.Code.length
    · have hlt2 : (i : Int) < b.Code.length := by omega
      have hx : b.Code[i]? = some b.Code[i] := by simp
      have hlen := instr_len b.Code[i]
      have hw : IntKind.i64.wrap (i + 1) = i + 1 := wrap_id (by omega) (by omega)
      have I := l04InstrOk g b.Code[i] hs hr
      have hT : ¬ T = h.tick + 1 := by omega
      repeat' (first
       | with_reducible refine stp ?_
       | with_reducible refine k_blk_o rfl ?_
       | with_reducible refine k_seq_n ?_
       | ((try (conv => arg 1; simp [s2, s3, s5, b2, hlt2])); with_reducible refine evp ?_)
       | ((with_reducible refine apn ?na ?_); (case na => simp [appNames, ints, intss] <;> first | kernel_rfl | (refine ⟨?_, ?_⟩ <;> kernel_rfl)))
       | fail)
      cases hv : instrOk g.Slots g.Sizes.length b.Code[i] with
      | false =>
        rw [hv] at I
        repeat (with_reducible first | refine stp ?_ | refine k_seq_n ?_)
        refine st_lz (by kernel_rfl) ?_
        have hF := And.intro s2 (And.intro s3 (And.intro s5 (And.intro b2 (And.intro hT (And.intro hx hlen)))))
        repeat' (first
         | with_reducible refine stp ?_
         | with_reducible refine k_blk_o rfl ?_
         | ((try (conv => arg 1; simp [instrs, Instr.cells, hF])); with_reducible refine evp ?_)
         | ((with_reducible refine apn ?na ?_); (case na => simp [appNames, ints, intss] <;> first | kernel_rfl | (refine ⟨?_, ?_⟩ <;> kernel_rfl)))
         | ((with_reducible refine tcl ?_); first | ((apply tg (I)); (case e => rfl); (case d => (refine dq ?_); (repeat' (first | ((refine Da.mk ?_); first | exact dr_blocks (by simp) _ | assumption) | constructor)))))
          | ((with_reducible refine la_id ?_); refine la_end rfl ?_; (repeat (first | refine pl_nil ?_ | refine pl_cons ?_)))
          | ((with_reducible refine la_id ?_); refine la_pick ?_; (conv => arg 1; whnf); (repeat ((fail_if_success (first | ((refine la_q0 rfl ?_); (try (conv => arg 1; simp [instrs, Instr.cells, hF])); with_reducible refine evp ?_) | ((refine la_n rfl rfl ?_); (try (conv => arg 1; simp [instrs, Instr.cells, hF])); with_reducible refine evp ?_) | ((refine la_q2 rfl (by decide +kernel) ?_); (repeat (first | refine bk_nil ?_ | refine bk_t (by decide +kernel) ?_ | refine bk_f (by decide +kernel) ?_)); (try (conv => arg 1; simp [instrs, Instr.cells, hF])); with_reducible refine evp ?_) | ((refine la_q1 rfl (by decide +kernel) ?_); (try (conv => arg 1; simp [instrs, Instr.cells, hF])); with_reducible refine evp ?_) | ((refine la_g0 rfl ?_); (try (conv => arg 1; simp [instrs, Instr.cells, hF])); with_reducible refine evp ?_; (with_reducible refine evp ?_); try ((try (conv => arg 1; simp [instrs, Instr.cells, hF])); with_reducible refine evp ?_)))); (refine la_there ?_); (conv => arg 1; whnf))); first | ((refine la_q0 rfl ?_); (try (conv => arg 1; simp [instrs, Instr.cells, hF])); with_reducible refine evp ?_) | ((refine la_n rfl rfl ?_); (try (conv => arg 1; simp [instrs, Instr.cells, hF])); with_reducible refine evp ?_) | ((refine la_q2 rfl (by decide +kernel) ?_); (repeat (first | refine bk_nil ?_ | refine bk_t (by decide +kernel) ?_ | refine bk_f (by decide +kernel) ?_)); (try (conv => arg 1; simp [instrs, Instr.cells, hF])); with_reducible refine evp ?_) | ((refine la_q1 rfl (by decide +kernel) ?_); (try (conv => arg 1; simp [instrs, Instr.cells, hF])); with_reducible refine evp ?_) | ((refine la_g0 rfl ?_); (try (conv => arg 1; simp [instrs, Instr.cells, hF])); with_reducible refine evp ?_; (with_reducible refine evp ?_); try ((try (conv => arg 1; simp [instrs, Instr.cells, hF])); with_reducible refine evp ?_)))
          | ((with_reducible refine la_id ?_); refine la_all rfl ?_)
          | ((with_reducible refine all_id ?_); (conv => arg 1; whnf); first | exact all_nil | refine all_cons ?_ ?_)
          | (refine la_op rfl (by first | exact frm_s (by decide +kernel) | exact frm_a (by repeat' (first | exact fa_nil | refine fa_cons (by decide +kernel) ?_))) (by intro hq; first | exact trivial | (cases hq; done) | simp [appT, instrs, Instr.cells, hF]) ?_; (repeat (first | refine bk_nil ?_ | refine bk_t (by decide +kernel) ?_ | refine bk_f (by decide +kernel) ?_)))
         | fail)
        repeat' (first
         | with_reducible refine stp ?_
         | with_reducible refine k_blk_o rfl ?_
         | with_reducible refine k_seq_n ?_
         | ((try (conv => arg 1; simp [s2, s3, s5, b2])); with_reducible refine evp ?_)
         | ((with_reducible refine apn ?na ?_); (case na => simp [appNames, ints, intss] <;> first | kernel_rfl | (refine ⟨?_, ?_⟩ <;> kernel_rfl)))
         | fail)
        have e : blockOk g b = false := by unfold blockOk; rw [all_false hlt hv, Bool.false_and]
        rw [e]
        exact .bool _
      | true =>
        rw [hv] at I
        repeat (with_reducible first | refine stp ?_ | refine k_seq_n ?_)
        refine st_lz (by kernel_rfl) ?_
        have hF := And.intro s2 (And.intro s3 (And.intro s5 (And.intro b2 (And.intro hT (And.intro hx hlen)))))
        repeat' (first
         | with_reducible refine stp ?_
         | with_reducible refine k_blk_o rfl ?_
         | ((try (conv => arg 1; simp [instrs, Instr.cells, hF])); with_reducible refine evp ?_)
         | ((with_reducible refine apn ?na ?_); (case na => simp [appNames, ints, intss] <;> first | kernel_rfl | (refine ⟨?_, ?_⟩ <;> kernel_rfl)))
         | ((with_reducible refine tcl ?_); first | ((apply tg (I)); (case e => rfl); (case d => (refine dq ?_); (repeat' (first | ((refine Da.mk ?_); first | exact dr_blocks (by simp) _ | assumption) | constructor)))))
          | ((with_reducible refine la_id ?_); refine la_end rfl ?_; (repeat (first | refine pl_nil ?_ | refine pl_cons ?_)))
          | ((with_reducible refine la_id ?_); refine la_pick ?_; (conv => arg 1; whnf); (repeat ((fail_if_success (first | ((refine la_q0 rfl ?_); (try (conv => arg 1; simp [instrs, Instr.cells, hF])); with_reducible refine evp ?_) | ((refine la_n rfl rfl ?_); (try (conv => arg 1; simp [instrs, Instr.cells, hF])); with_reducible refine evp ?_) | ((refine la_q2 rfl (by decide +kernel) ?_); (repeat (first | refine bk_nil ?_ | refine bk_t (by decide +kernel) ?_ | refine bk_f (by decide +kernel) ?_)); (try (conv => arg 1; simp [instrs, Instr.cells, hF])); with_reducible refine evp ?_) | ((refine la_q1 rfl (by decide +kernel) ?_); (try (conv => arg 1; simp [instrs, Instr.cells, hF])); with_reducible refine evp ?_) | ((refine la_g0 rfl ?_); (try (conv => arg 1; simp [instrs, Instr.cells, hF])); with_reducible refine evp ?_; (with_reducible refine evp ?_); try ((try (conv => arg 1; simp [instrs, Instr.cells, hF])); with_reducible refine evp ?_)))); (refine la_there ?_); (conv => arg 1; whnf))); first | ((refine la_q0 rfl ?_); (try (conv => arg 1; simp [instrs, Instr.cells, hF])); with_reducible refine evp ?_) | ((refine la_n rfl rfl ?_); (try (conv => arg 1; simp [instrs, Instr.cells, hF])); with_reducible refine evp ?_) | ((refine la_q2 rfl (by decide +kernel) ?_); (repeat (first | refine bk_nil ?_ | refine bk_t (by decide +kernel) ?_ | refine bk_f (by decide +kernel) ?_)); (try (conv => arg 1; simp [instrs, Instr.cells, hF])); with_reducible refine evp ?_) | ((refine la_q1 rfl (by decide +kernel) ?_); (try (conv => arg 1; simp [instrs, Instr.cells, hF])); with_reducible refine evp ?_) | ((refine la_g0 rfl ?_); (try (conv => arg 1; simp [instrs, Instr.cells, hF])); with_reducible refine evp ?_; (with_reducible refine evp ?_); try ((try (conv => arg 1; simp [instrs, Instr.cells, hF])); with_reducible refine evp ?_)))
          | ((with_reducible refine la_id ?_); refine la_all rfl ?_)
          | ((with_reducible refine all_id ?_); (conv => arg 1; whnf); first | exact all_nil | refine all_cons ?_ ?_)
          | (refine la_op rfl (by first | exact frm_s (by decide +kernel) | exact frm_a (by repeat' (first | exact fa_nil | refine fa_cons (by decide +kernel) ?_))) (by intro hq; first | exact trivial | (cases hq; done) | simp [appT, instrs, Instr.cells, hF]) ?_; (repeat (first | refine bk_nil ?_ | refine bk_t (by decide +kernel) ?_ | refine bk_f (by decide +kernel) ?_)))
         | fail)
        repeat' (first
         | with_reducible refine stp ?_
         | with_reducible refine k_blk_o rfl ?_
         | with_reducible refine k_seq_n ?_
         | ((try (conv => arg 1; simp [s2, s3, s5, b2, hw])); with_reducible refine evp ?_)
         | ((with_reducible refine apn ?na ?_); (case na => simp [appNames, ints, intss] <;> first | kernel_rfl | (refine ⟨?_, ?_⟩ <;> kernel_rfl)))
         | fail)
        refine k_lp_n (i + 1) (by omega) ⟨by omega, by simp [s2], by simp [s3], by simp, by rw [all_take hlt, ha, hv]; rfl, Cx.to x⟩
    · have hlt2 : ¬ (i : Int) < b.Code.length := by omega
      rw [List.take_of_length_le (by omega)] at ha
      have e : blockOk g b = (if b.Jump = 0 then inB b.To 0 ((g.Blocks.length : Int) - 1) && decide (b.A = 0) && decide (b.Else = 0)
        else if b.Jump = 1 then inB b.To 0 ((g.Blocks.length : Int) - 1) && inB b.Else 0 ((g.Blocks.length : Int) - 1) && inB b.A 0 (g.Slots - 1)
        else if b.Jump = 2 then inB b.A 0 (g.Slots - 1) && decide (b.To = 0) && decide (b.Else = 0)
        else false) := by unfold blockOk; rw [ha, Bool.true_and]
      rw [e]
      repeat' (first
        | (with_reducible first | refine st_seq ?_ | refine st_reg ?_ | refine st_block ?_ | refine st_nil ?_ | refine st_skip ?_ | refine st_ret ?_ | refine st_exit ?_ | refine fr_nil ?_ | refine k_seq_n ?_ | refine k_seq_r ?_ | refine k_seq_e ?_ | refine k_blk_n ?_ | refine k_blk_r ?_ | refine k_blk_s ?_ | refine k_blk_o rfl ?_ | refine k_fn_r ?_ | refine k_fn_n ?_ | refine k_lp_r ?_ | refine k_lp_e ?_)
        | ((with_reducible first | refine st_move ?_ | refine st_asg ?_ | refine st_c ?_ | refine fr_c ?_); (try (conv => arg 1; simp [s2, s3, s5, b2, hlt2, w1, w2, ltS, nm_ne])); (with_reducible refine at_mk ?_))
        | ((with_reducible first | refine st_g ?_ | refine fr_g ?_); (try (conv => arg 1; simp [s2, s3, s5, b2, hlt2, w1, w2, ltS, nm_ne])); (with_reducible refine at_mk ?_); with_reducible first | refine gd_tt ?_ | refine gd_ff ?_ | refine gd_tf ?_ | refine gd_ft ?_ | refine gd_no ?_)
        | ((with_reducible first | refine st_gm ?_ | refine fr_gm ?_); (try (conv => arg 1; simp [s2, s3, s5, b2, hlt2, w1, w2, ltS, nm_ne])); (with_reducible refine at_mk ?_); (with_reducible first | refine gm_bool ?_ | refine gm_gv ?_); refine ⟨_, (by intro hc; first | ((try simp only [Bool.and_eq_true] at hc); (try (conv => lhs; simp [hc, s2, s3, s5, b2, hlt2, w1, w2, ltS, nm_ne])); first | done | exact rfl) | ((try simp [gq] at hc); (try (conv => lhs; simp [gq, hc, s2, s3, s5, b2, hlt2, w1, w2, ltS, nm_ne])); first | done | exact rfl)), ?_⟩)
        | ((with_reducible refine st_gmc ?_); (try (conv => arg 1; simp [s2, s3, s5, b2, hlt2, w1, w2, ltS, nm_ne])); (with_reducible refine at_mk ?_); (with_reducible first | refine gm_bool ?_ | refine gm_gv ?_); refine ⟨_, _, _, (by intro hc; first | ((try simp only [Bool.and_eq_true] at hc); (try (conv => lhs; simp [hc, s2, s3, s5, b2, hlt2, w1, w2, ltS, nm_ne])); first | done | exact rfl) | ((try simp [gq] at hc); (try (conv => lhs; simp [gq, hc, s2, s3, s5, b2, hlt2, w1, w2, ltS, nm_ne])); first | done | exact rfl)), rfl, l01In _ _ _, (by intro hc; (try simp at hc); (repeat' (first | exact DRs.nil | refine DRs.cons ?_ ?_ | exact .int _ _ | exact .bool _ | exact .str _ | exact .nilsl | exact .nilp | exact dr_ints (by simp) _ | exact dr_intss (by simp) _ | refine dr_agg ?_ | refine dr_fn ?_ | refine dr_tptr' (by simp) ?_ | assumption))), ?_⟩)
        | ((with_reducible refine fr_gmc ?_); (try (conv => arg 1; simp [s2, s3, s5, b2, hlt2, w1, w2, ltS, nm_ne])); (with_reducible refine at_mk ?_); (with_reducible first | refine gm_bool ?_ | refine gm_gv ?_); refine ⟨_, _, _, (by intro hc; first | ((try simp only [Bool.and_eq_true] at hc); (try (conv => lhs; simp [hc, s2, s3, s5, b2, hlt2, w1, w2, ltS, nm_ne])); first | done | exact rfl) | ((try simp [gq] at hc); (try (conv => lhs; simp [gq, hc, s2, s3, s5, b2, hlt2, w1, w2, ltS, nm_ne])); first | done | exact rfl)), l01In _ _ _, (by intro hc; (try simp at hc); (repeat' (first | exact DRs.nil | refine DRs.cons ?_ ?_ | exact .int _ _ | exact .bool _ | exact .str _ | exact .nilsl | exact .nilp | exact dr_ints (by simp) _ | exact dr_intss (by simp) _ | refine dr_agg ?_ | refine dr_fn ?_ | refine dr_tptr' (by simp) ?_ | assumption))), ?_⟩)
        | ((with_reducible refine st_gmv ?_); (try (conv => arg 1; simp [s2, s3, s5, b2, hlt2, w1, w2, ltS, nm_ne])); (with_reducible refine at_mk ?_); (with_reducible first | refine gm_bool ?_ | refine gm_gv ?_); refine ⟨_, _, _, _, _, (by intro hc; first | ((try simp only [Bool.and_eq_true] at hc); (try (conv => lhs; simp [hc, s2, s3, s5, b2, hlt2, w1, w2, ltS, nm_ne])); first | done | exact rfl) | ((try simp [gq] at hc); (try (conv => lhs; simp [gq, hc, s2, s3, s5, b2, hlt2, w1, w2, ltS, nm_ne])); first | done | exact rfl)), (by intro hc; first | ((try simp only [Bool.and_eq_true] at hc); (try (conv => lhs; simp [hc, s2, s3, s5, b2, hlt2, w1, w2, ltS, nm_ne])); first | done | exact rfl) | ((try simp [gq] at hc); (try (conv => lhs; simp [gq, hc, s2, s3, s5, b2, hlt2, w1, w2, ltS, nm_ne])); first | done | exact rfl)), rfl, l01In _ _ _, (by intro hc; (try simp at hc); (repeat' (first | exact DRs.nil | refine DRs.cons ?_ ?_ | exact .int _ _ | exact .bool _ | exact .str _ | exact .nilsl | exact .nilp | exact dr_ints (by simp) _ | exact dr_intss (by simp) _ | refine dr_agg ?_ | refine dr_fn ?_ | refine dr_tptr' (by simp) ?_ | assumption))), ?_⟩)
        | ((with_reducible refine st_m rfl ?_); (try (conv => arg 1; simp [s2, s3, s5, b2, hlt2, w1, w2, ltS, nm_ne])); (with_reducible refine ev2_some ?_))
        | ((with_reducible refine fr_n rfl ?_); (try (conv => arg 1; simp [s2, s3, s5, b2, hlt2, w1, w2, ltS, nm_ne])); (with_reducible refine evn_some ?_))
        | ((with_reducible first | refine st_cv ?_ | refine fr_cv ?_); (try (conv => arg 1; simp [s2, s3, s5, b2, hlt2, w1, w2, ltS, nm_ne])); (with_reducible refine at_mk ?_); (with_reducible refine fn_mk ?_); (try (conv => arg 1; simp [s2, s3, s5, b2, hlt2, w1, w2, ltS, nm_ne])); (with_reducible refine at_mk ?_))
        | ((with_reducible refine fr_a ?_); (try (conv => arg 1; simp [s2, s3, s5, b2, hlt2, w1, w2, ltS, nm_ne])); (with_reducible refine at_mk ?_); (try (conv => arg 1; simp [s2, s3, s5, b2, hlt2, w1, w2, ltS, nm_ne])); (with_reducible refine at_mk ?_); refine ⟨?names, ?_⟩; (case names => (simp [appNames, ints, intss] <;> first | kernel_rfl | (refine ⟨?_, ?_⟩ <;> kernel_rfl))); (try (conv => arg 1; simp [s2, s3, s5, b2, hlt2, w1, w2, ltS, nm_ne])); (with_reducible refine ev2_some ?_))
        | ((with_reducible first | refine st_q ?_ | refine fr_q ?_ | refine st_res ?_); (try (conv => arg 1; simp [s2, s3, s5, b2, hlt2, w1, w2, ltS, nm_ne])); (with_reducible refine ev_some ?_))
        | ((with_reducible refine st_if ?_); (try (conv => arg 1; simp [s2, s3, s5, b2, hlt2, w1, w2, ltS, nm_ne])); (with_reducible refine at_mk ?_); with_reducible first | refine br_t ?_ | refine br_f ?_ | (refine br_b (fun hb => ?_) (fun hb => ?_) <;> ((try simp only [Bool.not_eq_eq_eq_not, Bool.not_true, Bool.not_false] at hb); (try simp only [hb]); (try simp at hb))))
        | ((with_reducible refine ct_id ?_); refine st_tree rfl (l01In _ _ _) (by (repeat' (first | exact DRs.nil | refine DRs.cons ?_ ?_ | exact .int _ _ | exact .bool _ | exact .str _ | exact .nilsl | exact .nilp | exact dr_ints (by simp) _ | exact dr_intss (by simp) _ | refine dr_agg ?_ | refine dr_fn ?_ | refine dr_tptr' (by simp) ?_ | assumption))) ?_)
        | ((with_reducible refine tw_id ?_); refine treeW_pure (l01In _ _ _) (by (repeat' (first | exact DRs.nil | refine DRs.cons ?_ ?_ | exact .int _ _ | exact .bool _ | exact .str _ | exact .nilsl | exact .nilp | exact dr_ints (by simp) _ | exact dr_intss (by simp) _ | refine dr_agg ?_ | refine dr_fn ?_ | refine dr_tptr' (by simp) ?_ | assumption))) ?_))
      all_goals refine dr_bool ?_
      all_goals rw [Bool.eq_iff_iff]
      all_goals (try simp_all)
      all_goals grind
end Go.Proofs.Ytlmlkkkgcbpaoaa.AM

/-
  A graph that is right: the reference's.
-/
set_option linter.unusedVariables false
set_option linter.unusedSimpArgs false
set_option maxRecDepth 4000
namespace Go.Proofs.Ytlmlkkkgcbpaoaa.AM
open Go.RowKit

private def MG9 : FuncId → Mode := fun f => .tree

/-- What the laws' sizes say of a graph. -/
structure Graph.Fit (g : Graph) : Prop where
  sizes : g.Sizes.length ≤ 2 ^ 20
  blocks : g.Blocks.length ≤ 2 ^ 20
  code : ∀ b ∈ g.Blocks, b.Code.length ≤ 2 ^ 20
theorem codeLen_le (xs : List Block) (i : Nat) : codeLen xs i ≤ codeLen xs xs.length := gsum_le _ xs i
theorem codeLen_succ {xs : List Block} {i : Nat} (h : i < xs.length) : codeLen xs (i + 1) = codeLen xs i + xs[i].Code.length := gsum_succ _ xs i h
def graphRow (g : Graph) : Row := ⟨0, 5, [[ints true g.Sizes, .int .i64 g.Params, .int .i64 g.Vars, .int .i64 g.Slots, blocks true g.Blocks]]⟩

set_option maxHeartbeats 4000000 in
theorem graphOkSpec (g : Graph) (d : g.Fit) : Pure Try.prog 38 [.agg (g.cells true)] (.bool (graphOk g)) := by
  intro T
  have d1 := d.sizes
  have d2 := d.blocks
  refine enter mixed MG9 Try.func38 rfl (by kernel_rfl) rfl ?_
  repeat' (first
   | with_reducible refine stp ?_
   | with_reducible refine k_blk_o rfl ?_
   | ((try (conv => arg 1; simp [Graph.cells])); with_reducible refine evp ?_)
   | ((with_reducible refine apn ?na ?_); (case na => simp [appNames, ints, intss] <;> first | kernel_rfl | (refine ⟨?_, ?_⟩ <;> kernel_rfl)))
   | fail)
  refine cx_k (Cx.mt.next.box_one (T := T) (i := 0) Cx.mt.off (by simp)) ?_
  intro h1 x1
  have b1 := x1.bxs
  simp only [Bxs] at b1
  repeat' (first
   | with_reducible refine stp ?_
   | with_reducible refine k_blk_o rfl ?_
   | with_reducible refine k_seq_n ?_
   | ((try (conv => arg 1; simp [b1])); with_reducible refine evp ?_)
   | ((with_reducible refine apn ?na ?_); (case na => simp [appNames, ints, intss] <;> first | kernel_rfl | (refine ⟨?_, ?_⟩ <;> kernel_rfl)))
   | fail)
  refine st_loop (fun (i : Nat) σ h => i ≤ g.Sizes.length ∧ σ 1 = .ptr (T, 0, 0) 0 0 0 ∧ σ 3 = .int .i64 i ∧ (g.Sizes.take i).all (fun n => inB n 1 16) = true ∧ Cx h [((T, 0, 0), graphRow g)] []) (fun i => g.Sizes.length - i) 0 ?init ?step
  case init => exact ⟨Nat.zero_le _, by simp, by simp, rfl, Cx.to x1⟩
  case step =>
    rintro i σ h ⟨hi, s1, s3, ha, x⟩
    have b2 := x.bxs
    simp only [Bxs, graphRow] at b2
    by_cases hlt : i < g.Sizes.length
    · have hlt2 : (i : Int) < g.Sizes.length := by omega
      have hx : g.Sizes[i]? = some g.Sizes[i] := by simp
      have hw : IntKind.i64.wrap (i + 1) = i + 1 := wrap_id (by omega) (by omega)
      cases hv : inB g.Sizes[i] 1 16 with
      | false =>
        repeat' (first
         | with_reducible refine stp ?_
         | with_reducible refine k_blk_o rfl ?_
         | with_reducible refine k_seq_n ?_
         | ((try (conv => arg 1; simp [s1, s3, b2, hlt2, hx, ints, hv, ltS, nm_ne])); with_reducible refine evp ?_)
         | ((with_reducible refine apn ?na ?_); (case na => simp [appNames, ints, intss] <;> first | kernel_rfl | (refine ⟨?_, ?_⟩ <;> kernel_rfl)))
         | ((with_reducible refine tcl ?_); first | ((apply tg (l01In _ _ _)); (case e => rfl); (case d => (refine dq ?_); (repeat' (first | ((refine Da.mk ?_); first | assumption) | constructor)))))
         | fail)
        have e : graphOk g = false := by unfold graphOk headOk; rw [all_false hlt hv]; simp
        rw [e]
        exact .bool _
      | true =>
        repeat' (first
         | with_reducible refine stp ?_
         | with_reducible refine k_blk_o rfl ?_
         | with_reducible refine k_seq_n ?_
         | ((try (conv => arg 1; simp [s1, s3, b2, hlt2, hx, ints, hv, hw, ltS, nm_ne])); with_reducible refine evp ?_)
         | ((with_reducible refine apn ?na ?_); (case na => simp [appNames, ints, intss] <;> first | kernel_rfl | (refine ⟨?_, ?_⟩ <;> kernel_rfl)))
         | ((with_reducible refine tcl ?_); first | ((apply tg (l01In _ _ _)); (case e => rfl); (case d => (refine dq ?_); (repeat' (first | ((refine Da.mk ?_); first | assumption) | constructor)))))
         | fail)
        refine k_lp_n (i + 1) (by omega) ⟨by omega, by simp [s1], by simp, by rw [all_take hlt, ha, hv]; rfl, Cx.to x⟩
    · have hlt2 : ¬ (i : Int) < g.Sizes.length := by omega
      rw [List.take_of_length_le (by omega)] at ha
      repeat' (first
       | with_reducible refine stp ?_
       | with_reducible refine k_blk_o rfl ?_
       | with_reducible refine k_seq_n ?_
       | ((try (conv => arg 1; simp [s1, s3, b2, hlt2, ltS, nm_ne])); with_reducible refine evp ?_)
       | ((with_reducible refine apn ?na ?_); (case na => simp [appNames, ints, intss] <;> first | kernel_rfl | (refine ⟨?_, ?_⟩ <;> kernel_rfl)))
       | fail)
      have x' := x.next
      generalize h.next = hq at *
      have b3 := x'.bxs
      simp only [Bxs, graphRow] at b3
      repeat' (first
        | (with_reducible first | refine st_seq ?_ | refine st_reg ?_ | refine st_block ?_ | refine st_nil ?_ | refine st_skip ?_ | refine st_ret ?_ | refine st_exit ?_ | refine fr_nil ?_ | refine k_seq_n ?_ | refine k_seq_r ?_ | refine k_seq_e ?_ | refine k_blk_n ?_ | refine k_blk_r ?_ | refine k_blk_s ?_ | refine k_blk_o rfl ?_ | refine k_fn_r ?_ | refine k_fn_n ?_ | refine k_lp_r ?_ | refine k_lp_e ?_)
        | ((with_reducible first | refine st_move ?_ | refine st_asg ?_ | refine st_c ?_ | refine fr_c ?_); (try (conv => arg 1; simp [s1, b3])); (with_reducible refine at_mk ?_))
        | ((with_reducible first | refine st_g ?_ | refine fr_g ?_); (try (conv => arg 1; simp [s1, b3])); (with_reducible refine at_mk ?_); with_reducible first | refine gd_tt ?_ | refine gd_ff ?_ | refine gd_tf ?_ | refine gd_ft ?_ | refine gd_no ?_)
        | ((with_reducible first | refine st_gm ?_ | refine fr_gm ?_); (try (conv => arg 1; simp [s1, b3])); (with_reducible refine at_mk ?_); (with_reducible first | refine gm_bool ?_ | refine gm_gv ?_); refine ⟨_, (by intro hc; first | ((try simp only [Bool.and_eq_true] at hc); (try (conv => lhs; simp [hc, s1, b3])); first | done | exact rfl) | ((try simp [gq] at hc); (try (conv => lhs; simp [gq, hc, s1, b3])); first | done | exact rfl)), ?_⟩)
        | ((with_reducible refine st_gmc ?_); (try (conv => arg 1; simp [s1, b3])); (with_reducible refine at_mk ?_); (with_reducible first | refine gm_bool ?_ | refine gm_gv ?_); refine ⟨_, _, _, (by intro hc; first | ((try simp only [Bool.and_eq_true] at hc); (try (conv => lhs; simp [hc, s1, b3])); first | done | exact rfl) | ((try simp [gq] at hc); (try (conv => lhs; simp [gq, hc, s1, b3])); first | done | exact rfl)), rfl, l01In _ _ _, (by intro hc; (try simp at hc); (repeat' (first | exact DRs.nil | refine DRs.cons ?_ ?_ | exact .int _ _ | exact .bool _ | exact .str _ | exact .nilsl | exact .nilp | exact dr_ints (by simp) _ | exact dr_intss (by simp) _ | refine dr_agg ?_ | refine dr_fn ?_ | refine dr_tptr' (by simp) ?_ | assumption))), ?_⟩)
        | ((with_reducible refine fr_gmc ?_); (try (conv => arg 1; simp [s1, b3])); (with_reducible refine at_mk ?_); (with_reducible first | refine gm_bool ?_ | refine gm_gv ?_); refine ⟨_, _, _, (by intro hc; first | ((try simp only [Bool.and_eq_true] at hc); (try (conv => lhs; simp [hc, s1, b3])); first | done | exact rfl) | ((try simp [gq] at hc); (try (conv => lhs; simp [gq, hc, s1, b3])); first | done | exact rfl)), l01In _ _ _, (by intro hc; (try simp at hc); (repeat' (first | exact DRs.nil | refine DRs.cons ?_ ?_ | exact .int _ _ | exact .bool _ | exact .str _ | exact .nilsl | exact .nilp | exact dr_ints (by simp) _ | exact dr_intss (by simp) _ | refine dr_agg ?_ | refine dr_fn ?_ | refine dr_tptr' (by simp) ?_ | assumption))), ?_⟩)
        | ((with_reducible refine st_gmv ?_); (try (conv => arg 1; simp [s1, b3])); (with_reducible refine at_mk ?_); (with_reducible first | refine gm_bool ?_ | refine gm_gv ?_); refine ⟨_, _, _, _, _, (by intro hc; first | ((try simp only [Bool.and_eq_true] at hc); (try (conv => lhs; simp [hc, s1, b3])); first | done | exact rfl) | ((try simp [gq] at hc); (try (conv => lhs; simp [gq, hc, s1, b3])); first | done | exact rfl)), (by intro hc; first | ((try simp only [Bool.and_eq_true] at hc); (try (conv => lhs; simp [hc, s1, b3])); first | done | exact rfl) | ((try simp [gq] at hc); (try (conv => lhs; simp [gq, hc, s1, b3])); first | done | exact rfl)), rfl, l01In _ _ _, (by intro hc; (try simp at hc); (repeat' (first | exact DRs.nil | refine DRs.cons ?_ ?_ | exact .int _ _ | exact .bool _ | exact .str _ | exact .nilsl | exact .nilp | exact dr_ints (by simp) _ | exact dr_intss (by simp) _ | refine dr_agg ?_ | refine dr_fn ?_ | refine dr_tptr' (by simp) ?_ | assumption))), ?_⟩)
        | ((with_reducible refine st_m rfl ?_); (try (conv => arg 1; simp [s1, b3])); (with_reducible refine ev2_some ?_))
        | ((with_reducible refine fr_n rfl ?_); (try (conv => arg 1; simp [s1, b3])); (with_reducible refine evn_some ?_))
        | ((with_reducible first | refine st_cv ?_ | refine fr_cv ?_); (try (conv => arg 1; simp [s1, b3])); (with_reducible refine at_mk ?_); (with_reducible refine fn_mk ?_); (try (conv => arg 1; simp [s1, b3])); (with_reducible refine at_mk ?_))
        | ((with_reducible refine fr_a ?_); (try (conv => arg 1; simp [s1, b3])); (with_reducible refine at_mk ?_); (try (conv => arg 1; simp [s1, b3])); (with_reducible refine at_mk ?_); refine ⟨?names, ?_⟩; (case names => (simp [appNames, ints, intss] <;> first | kernel_rfl | (refine ⟨?_, ?_⟩ <;> kernel_rfl))); (try (conv => arg 1; simp [s1, b3])); (with_reducible refine ev2_some ?_))
        | ((with_reducible first | refine st_q ?_ | refine fr_q ?_ | refine st_res ?_); (try (conv => arg 1; simp [s1, b3])); (with_reducible refine ev_some ?_))
        | ((with_reducible refine st_if ?_); (try (conv => arg 1; simp [s1, b3])); (with_reducible refine at_mk ?_); with_reducible first | refine br_t ?_ | refine br_f ?_)
        | ((with_reducible refine ct_id ?_); refine st_tree rfl (l01In _ _ _) (by (repeat' (first | exact DRs.nil | refine DRs.cons ?_ ?_ | exact .int _ _ | exact .bool _ | exact .str _ | exact .nilsl | exact .nilp | exact dr_ints (by simp) _ | exact dr_intss (by simp) _ | refine dr_agg ?_ | refine dr_fn ?_ | refine dr_tptr' (by simp) ?_ | assumption))) ?_)
        | ((with_reducible refine tw_id ?_); refine treeW_pure (l01In _ _ _) (by (repeat' (first | exact DRs.nil | refine DRs.cons ?_ ?_ | exact .int _ _ | exact .bool _ | exact .str _ | exact .nilsl | exact .nilp | exact dr_ints (by simp) _ | exact dr_intss (by simp) _ | refine dr_agg ?_ | refine dr_fn ?_ | refine dr_tptr' (by simp) ?_ | assumption))) ?_))
      (try with_reducible refine st_if ?_)
      (try (conv => arg 1; simp [d1]))
      (try with_reducible refine at_mk ?_)
      refine ⟨fun hb => ?_, fun hb => ?_⟩
      · have e : graphOk g = false := by
          have : headOk g = false := by
            cases hk : headOk g with
            | false => rfl
            | true =>
              have H := headOk_head hk
              have e1 := H.sizes
              have e2 := H.params
              have e3 := H.vars
              have e4 := H.slots
              have e5 := H.blocks
              exfalso
              simp only [Bool.or_eq_true, Bool.not_eq_true', inB, decide_eq_true_eq, Bool.and_eq_false_iff, decide_eq_false_iff_not] at hb
              omega
          simp [graphOk, this]
        repeat' (first
         | with_reducible refine stp ?_
         | with_reducible refine k_blk_o rfl ?_
         | with_reducible refine k_seq_n ?_
         | ((try (conv => arg 1; simp [d1])); with_reducible refine evp ?_)
         | ((with_reducible refine apn ?na ?_); (case na => simp [appNames, ints, intss] <;> first | kernel_rfl | (refine ⟨?_, ?_⟩ <;> kernel_rfl)))
         | fail)
        rw [e]
        exact .bool _
      have hk : headOk g = true := by
        simp only [headOk, inB, Bool.and_eq_true, decide_eq_true_eq]
        simp only [Bool.not_eq_true, Bool.or_eq_false_iff, Bool.not_eq_false', inB, Bool.and_eq_true, decide_eq_true_eq, decide_eq_false_iff_not] at hb
        repeat' apply And.intro
        all_goals first | exact ha | omega
      have H := headOk_head hk
      have e4 := H.slots
      have e2 := H.params
      have e5 := H.blocks
      repeat' (first
       | with_reducible refine stp ?_
       | with_reducible refine k_blk_o rfl ?_
       | with_reducible refine k_seq_n ?_
       | ((try (conv => arg 1; simp [d1])); with_reducible refine evp ?_)
       | ((with_reducible refine apn ?na ?_); (case na => simp [appNames, ints, intss] <;> first | kernel_rfl | (refine ⟨?_, ?_⟩ <;> kernel_rfl)))
       | fail)
      refine st_loop (fun (i : Nat) σ h => i ≤ g.Blocks.length ∧ σ 1 = .ptr (T, 0, 0) 0 0 0 ∧ σ 4 = .int .i64 (codeLen g.Blocks i) ∧ σ 5 = .int .i64 i ∧ codeLen g.Blocks i ≤ 1000 ∧ (g.Blocks.take i).all (blockOk g) = true ∧ Cx h [((T, 0, 0), graphRow g)] []) (fun i => g.Blocks.length - i) 0 ?init ?step
      case init => exact ⟨Nat.zero_le _, by simp [s1], by simp [codeLen, gsum_zero], by simp, by simp [codeLen, gsum_zero], rfl, Cx.to x'⟩
      case step =>
        rintro i σ h ⟨hi, s1, s4, s5, hn, ha2, x⟩
        have b2 := x.bxs
        simp only [Bxs, graphRow] at b2
        by_cases hlt : i < g.Blocks.length
        · have hlt2 : (i : Int) < g.Blocks.length := by omega
          have hx : g.Blocks[i]? = some g.Blocks[i] := by simp
          have hlen := block_len true g.Blocks[i]
          have hc := d.code _ (List.getElem_mem hlt)
          have hw : IntKind.i64.wrap (i + 1) = i + 1 := wrap_id (by omega) (by omega)
          have hs := codeLen_succ hlt
          have hw2 : IntKind.i64.wrap ((codeLen g.Blocks i : Int) + g.Blocks[i].Code.length) = codeLen g.Blocks (i + 1) := by rw [wrap_id (by omega) (by omega)]; omega
          have B := l04BlockOk g g.Blocks[i] (by omega) d1 d2 hc
          have hT : ¬ T = h.tick + 1 + 1 := by omega
          repeat' (first
           | with_reducible refine stp ?_
           | with_reducible refine k_blk_o rfl ?_
           | with_reducible refine k_seq_n ?_
           | ((try (conv => arg 1; simp [s1, s4, s5, b2, hlt2, hx, hlen, blocks, Block.cells, hw2, ltS, nm_ne])); with_reducible refine evp ?_)
           | ((with_reducible refine apn ?na ?_); (case na => simp [appNames, ints, intss] <;> first | kernel_rfl | (refine ⟨?_, ?_⟩ <;> kernel_rfl)))
           | fail)
          by_cases h1000 : codeLen g.Blocks (i + 1) > 1000
          · have h2 : (1000 : Int) < codeLen g.Blocks (i + 1) := by omega
            have e : graphOk g = false := by
              have := codeLen_le g.Blocks (i + 1)
              simp only [graphOk]
              rw [show decide (codeLen g.Blocks g.Blocks.length ≤ 1000) = false by simp; omega]
              simp
            repeat (with_reducible first | refine stp ?_ | refine k_seq_n ?_)
            refine st_draw 12 (fun _ => false) (by kernel_rfl) ?_
            simp only [List.take_succ_cons, List.take_zero, List.drop_succ_cons, List.drop_zero, List.take_nil, List.drop_nil]
            repeat' (first
             | with_reducible refine stp ?_
             | with_reducible refine k_blk_o rfl ?_
             | with_reducible refine k_seq_n ?_
             | ((try (conv => arg 1; simp [s1, s5, b2, h2, hT])); with_reducible refine evp ?_)
             | ((with_reducible refine apn ?na ?_); (case na => simp [appNames, ints, intss] <;> first | kernel_rfl | (refine ⟨?_, ?_⟩ <;> kernel_rfl)))
             | fail)
            rw [e]
            exact .bool _
          · have h2 : ¬ (1000 : Int) < codeLen g.Blocks (i + 1) := by omega
            cases hv : blockOk g g.Blocks[i] with
            | false =>
              rw [hv] at B
              repeat (with_reducible first | refine stp ?_ | refine k_seq_n ?_)
              refine st_draw 12 (fun _ => false) (by kernel_rfl) ?_
              simp only [List.take_succ_cons, List.take_zero, List.drop_succ_cons, List.drop_zero, List.take_nil, List.drop_nil]
              repeat' (first
               | with_reducible refine stp ?_
               | with_reducible refine k_blk_o rfl ?_
               | with_reducible refine k_seq_n ?_
               | ((try (conv => arg 1; simp [s1, s5, b2, h2, hT, hx, hlen, hw, blocks, Block.cells, Graph.cells])); with_reducible refine evp ?_)
               | ((with_reducible refine apn ?na ?_); (case na => simp [appNames, ints, intss] <;> first | kernel_rfl | (refine ⟨?_, ?_⟩ <;> kernel_rfl)))
               | ((with_reducible refine tcl ?_); first | ((apply tg (B)); (case e => rfl); (case d => (refine dq ?_); (repeat' (first | ((refine Da.mk ?_); first | exact dr_blocks (by simp) _ | exact dr_instrs (by simp) _ | assumption) | constructor)))))
               | fail)
              have e : graphOk g = false := by simp only [graphOk]; rw [all_false hlt hv, Bool.and_false]
              rw [e]
              exact .bool _
            | true =>
              rw [hv] at B
              repeat (with_reducible first | refine stp ?_ | refine k_seq_n ?_)
              refine st_draw 12 (fun _ => false) (by kernel_rfl) ?_
              simp only [List.take_succ_cons, List.take_zero, List.drop_succ_cons, List.drop_zero, List.take_nil, List.drop_nil]
              repeat' (first
               | with_reducible refine stp ?_
               | with_reducible refine k_blk_o rfl ?_
               | with_reducible refine k_seq_n ?_
               | ((try (conv => arg 1; simp [s1, s5, b2, h2, hT, hx, hlen, hw, blocks, Block.cells, Graph.cells])); with_reducible refine evp ?_)
               | ((with_reducible refine apn ?na ?_); (case na => simp [appNames, ints, intss] <;> first | kernel_rfl | (refine ⟨?_, ?_⟩ <;> kernel_rfl)))
               | ((with_reducible refine tcl ?_); first | ((apply tg (B)); (case e => rfl); (case d => (refine dq ?_); (repeat' (first | ((refine Da.mk ?_); first | exact dr_blocks (by simp) _ | exact dr_instrs (by simp) _ | assumption) | constructor)))))
               | fail)
              refine k_lp_n (i + 1) (by omega) ⟨by omega, by simp [s1], by simp, by simp, by omega, by rw [all_take hlt, ha2, hv]; rfl, Cx.to x⟩
        · have hlt2 : ¬ (i : Int) < g.Blocks.length := by omega
          rw [List.take_of_length_le (by omega)] at ha2
          have hi2 : i = g.Blocks.length := by omega
          rw [hi2] at hn
          repeat' (first
           | with_reducible refine stp ?_
           | with_reducible refine k_blk_o rfl ?_
           | with_reducible refine k_seq_n ?_
           | ((try (conv => arg 1; simp [s1, s5, b2, hlt2, ltS, nm_ne])); with_reducible refine evp ?_)
           | ((with_reducible refine apn ?na ?_); (case na => simp [appNames, ints, intss] <;> first | kernel_rfl | (refine ⟨?_, ?_⟩ <;> kernel_rfl)))
           | fail)
          have e : graphOk g = true := by simp [graphOk, hk, hn, ha2]
          rw [e]
          exact .bool _
end Go.Proofs.Ytlmlkkkgcbpaoaa.AM

/-
  Graphs: copies, equal.
-/
set_option linter.unusedVariables false
set_option linter.unusedSimpArgs false
set_option maxRecDepth 4000
namespace Go.Proofs.Ytlmlkkkgcbpaoaa.AM
open Go.RowKit

private def MG4 : FuncId → Mode := fun f => if f = 17 ∨ f = 39 then .fresh else .tree

theorem Graph.Small.code {g : Graph} (h : g.Small) : ∀ x ∈ g.Blocks, x.Code.length ≤ 2 ^ 20 := fun x hx => by
  have := wtBS_mem hx
  have := h.blocks
  omega
theorem Graph.Small.len {g : Graph} (h : g.Small) : g.Blocks.length ≤ 2 ^ 20 := by
  have := wtBS_len (xs := g.Blocks)
  have := h.blocks
  omega

theorem Cx.graph_join {h : Hp} {bs : Bx} {os : Ox} {w1 w2 : AV} {n1 n2 : List Nm} {g : Graph} (x : Cx h bs ((w1, (fun b => ints b g.Sizes), n1) :: (w2, (fun b => blocks b g.Blocks), n2) :: os)) :
    Cx h bs ((.agg [w1, .int .i64 g.Params, .int .i64 g.Vars, .int .i64 g.Slots, w2], (fun b => .agg (g.cells b)), n1 ++ n2) :: os) := by
  refine ⟨x.box, fun y hy b => ?_, ?_, fun m hm => x.lt m ?_⟩
  · simp only [List.mem_cons] at hy
    rcases hy with rfl | hy
    · exact .agg (Own.append (own_of (x.o0 b) rfl) (.int _ _ (.int _ _ (.int _ _ (own_of (x.o1 b) rfl)))))
    · exact x.own y (by simp [hy]) b
  · have := x.nd
    simpa [nms, List.append_assoc] using this
  · simpa [nms, List.append_assoc] using hm
theorem ownV_graph {rows : Nm → Option Row} {b : Bool} {v : AV} {g : Graph} {ns : List Nm} (h : OwnV rows b v (.agg (g.cells b)) ns) : ∃ w1 w2 n1 n2, v = .agg [w1, .int .i64 g.Params, .int .i64 g.Vars, .int .i64 g.Slots, w2] ∧ ns = n1 ++ n2 ∧ Own rows b [w1] [ints b g.Sizes] n1 ∧ Own rows b [w2] [blocks b g.Blocks] n2 := by
  generalize ht : AV.agg (g.cells b) = t at h
  cases h with
  | one h => subst ht; unfold Graph.cells at h; cases h
  | tup2 => cases ht
  | @agg l _ _ h =>
    cases ht
    unfold Graph.cells at h
    obtain ⟨w1, l1, n1, m1, rfl, rfl, o1, h⟩ := own_cons1 h
    cases h with
    | int _ _ h => cases h with
      | int _ _ h => cases h with
        | int _ _ h =>
          obtain ⟨w2, l2, n2, m2, rfl, rfl, o2, h⟩ := own_cons1 h
          cases h with
          | nil => exact ⟨w1, w2, n1, n2, rfl, by simp, o1, o2⟩

theorem toGraph (g : Graph) (hs : g.Small) : FreshW Try.prog 13 [.agg (g.cells true)] (fun b => .agg (g.cells b)) := by
  intro T
  have hnil : True := trivial
  refine enter mixed MG4 Try.func13 rfl (by kernel_rfl) rfl ?_
  repeat' (first
   | with_reducible refine stp ?_
   | with_reducible refine k_blk_o rfl ?_
   | ((try (conv => arg 1; simp [Graph.cells])); with_reducible refine evp ?_)
   | ((with_reducible refine apn ?na ?_); (case na => simp [appNames, ints, intss] <;> first | kernel_rfl | (refine ⟨?_, ?_⟩ <;> kernel_rfl)))
   | fail)
  refine cx_k ((Cx.mt.next.box_one (T := T) (i := 0) Cx.mt.off (by simp)).box_add (n := (T, 1, 0)) (by simp [nms]) (by simp)) ?_
  intro h1 x1
  have hT := x1.l0
  have hT2 : ¬ h1.tick = T := fun e => hT e.symm
  repeat' (first
   | with_reducible refine stp ?_
   | with_reducible refine k_blk_o rfl ?_
   | ((try (conv => arg 1; simp [hnil])); with_reducible refine evp ?_)
   | ((with_reducible refine apn ?na ?_); (case na => simp [appNames, ints, intss] <;> first | kernel_rfl | (refine ⟨?_, ?_⟩ <;> kernel_rfl)))
   | fail)
  refine cx_k (x1.next.box_one (T := h1.tick) (i := 0) x1.off (by simp)) ?_
  intro h2 x2
  have b2 := x2.bxs
  simp only [Bxs] at b2
  repeat' (first
   | with_reducible refine stp ?_
   | with_reducible refine k_blk_o rfl ?_
   | with_reducible refine k_seq_n ?_
   | ((try (conv => arg 1; simp [hT, hT2, b2, nm_ne, ltS])); with_reducible refine evp ?_)
   | ((with_reducible refine apn ?na ?_); (case na => simp [appNames, ints, intss] <;> first | kernel_rfl | (refine ⟨?_, ?_⟩ <;> kernel_rfl)))
   | fail)
  refine st_fresh rfl (toIntS g.Sizes hs.sizes) (.cons (dr_ints (fun h => h) _) .nil) ?_
  intro v h3 n o d f p t
  have x3 := x2.next.fresh o d f p t
  have q := own_one (ownV_ints (o true))
  have b3 := x3.bxs
  simp only [Bxs] at b3
  have x3' := x3.box_set (r' := ⟨0, 5, [[v, .int .i64 0, .int .i64 0, .int .i64 0, .nilsl]]⟩)
  repeat' (first
   | with_reducible refine stp ?_
   | with_reducible refine k_blk_o rfl ?_
   | ((try (conv => arg 1; simp [hT, hT2, b3, q.1, q.2.1, q.2.2, nm_ne, ltS])); with_reducible refine evp ?_)
   | ((with_reducible refine apn ?na ?_); (case na => simp [appNames, ints, intss] <;> first | kernel_rfl | (refine ⟨?_, ?_⟩ <;> kernel_rfl)))
   | fail)
  refine cx_k x3' ?_
  intro h4 x4
  have b4 := x4.bxs
  simp only [Bxs] at b4
  repeat' (first
   | with_reducible refine stp ?_
   | with_reducible refine k_blk_o rfl ?_
   | ((try (conv => arg 1; simp [hT, hT2, b4, q.1, q.2.1, q.2.2, nm_ne, ltS])); with_reducible refine evp ?_)
   | ((with_reducible refine apn ?na ?_); (case na => simp [appNames, ints, intss] <;> first | kernel_rfl | (refine ⟨?_, ?_⟩ <;> kernel_rfl)))
   | fail)
  refine cx_k (x4.next.box_set (r' := ⟨0, 5, [[v, .int .i64 g.Params, .int .i64 0, .int .i64 0, .nilsl]]⟩)) ?_
  intro h5 x5
  have b5 := x5.bxs
  simp only [Bxs] at b5
  repeat' (first
   | with_reducible refine stp ?_
   | with_reducible refine k_blk_o rfl ?_
   | ((try (conv => arg 1; simp [hT, hT2, b5, q.1, q.2.1, q.2.2, nm_ne, ltS])); with_reducible refine evp ?_)
   | ((with_reducible refine apn ?na ?_); (case na => simp [appNames, ints, intss] <;> first | kernel_rfl | (refine ⟨?_, ?_⟩ <;> kernel_rfl)))
   | fail)
  refine cx_k (x5.next.box_set (r' := ⟨0, 5, [[v, .int .i64 g.Params, .int .i64 g.Vars, .int .i64 0, .nilsl]]⟩)) ?_
  intro h6 x6
  have b6 := x6.bxs
  simp only [Bxs] at b6
  repeat' (first
   | with_reducible refine stp ?_
   | with_reducible refine k_blk_o rfl ?_
   | ((try (conv => arg 1; simp [hT, hT2, b6, q.1, q.2.1, q.2.2, nm_ne, ltS])); with_reducible refine evp ?_)
   | ((with_reducible refine apn ?na ?_); (case na => simp [appNames, ints, intss] <;> first | kernel_rfl | (refine ⟨?_, ?_⟩ <;> kernel_rfl)))
   | fail)
  refine cx_k (x6.next.box_set (r' := ⟨0, 5, [[v, .int .i64 g.Params, .int .i64 g.Vars, .int .i64 g.Slots, .nilsl]]⟩)) ?_
  intro h7 x7
  have b7 := x7.bxs
  simp only [Bxs] at b7
  repeat' (first
   | with_reducible refine stp ?_
   | with_reducible refine k_blk_o rfl ?_
   | with_reducible refine k_seq_n ?_
   | ((try (conv => arg 1; simp [hT, hT2, b7, q.1, q.2.1, q.2.2, nm_ne, ltS])); with_reducible refine evp ?_)
   | ((with_reducible refine apn ?na ?_); (case na => simp [appNames, ints, intss] <;> first | kernel_rfl | (refine ⟨?_, ?_⟩ <;> kernel_rfl)))
   | fail)
  refine st_freshw rfl (toBlockS g.Blocks hs.len hs.code) (.cons (dr_blocks (fun h => h) _) .nil) ?_
  intro v2 h8 n2 o2 d2 f2 p2 t2
  have x8 := x7.next.fresh o2 d2 f2 p2 t2
  have q2 := own_one' (own_of (o2 true) rfl)
  have b8 := x8.bxs
  simp only [Bxs] at b8
  repeat' (first
   | with_reducible refine stp ?_
   | with_reducible refine k_blk_o rfl ?_
   | with_reducible refine k_seq_n ?_
   | ((try (conv => arg 1; simp [hT, hT2, b8, q.1, q.2.1, q.2.2, q2.1, q2.2.1, q2.2.2, nm_ne, ltS])); with_reducible refine evp ?_)
   | ((with_reducible refine apn ?na ?_); (case na => simp [appNames, ints, intss] <;> first | kernel_rfl | (refine ⟨?_, ?_⟩ <;> kernel_rfl)))
   | fail)
  refine fin_own (os := []) (ns := n ++ n2) (bs := ?bs) (Cx.graph_join (g := g) (w1 := v) (w2 := v2) (n1 := n) (n2 := n2) (Cx.rot1 ?y))
  case y => exact Cx.to x8

theorem eqGraph (g : Graph) (hs : g.Small) : Pure Try.prog 15 [.agg (g.cells true), .agg (g.cells true)] (.bool true) := by
  intro T
  refine enter mixed MG4 Try.func15 rfl (by kernel_rfl) rfl ?_
  repeat' (first
   | with_reducible refine stp ?_
   | with_reducible refine k_blk_o rfl ?_
   | with_reducible refine k_seq_n ?_
   | ((try (conv => arg 1; simp [Graph.cells])); with_reducible refine evp ?_)
   | ((with_reducible refine apn ?na ?_); (case na => simp [appNames, ints, intss] <;> first | kernel_rfl | (refine ⟨?_, ?_⟩ <;> kernel_rfl)))
   | ((with_reducible refine tcl ?_); first | ((apply tg (eqIntS g.Sizes (by have := hs.sizes; omega))); (case e => rfl); (case d => (refine dq ?_); (repeat' (first | ((refine Da.mk ?_); first | exact dr_blocks (by simp) _ | assumption) | constructor)))) | ((apply tg (eqBlockS g.Blocks (by have := hs.len; omega) (fun x hx => by have := hs.code x hx; omega))); (case e => rfl); (case d => (refine dq ?_); (repeat' (first | ((refine Da.mk ?_); first | exact dr_blocks (by simp) _ | assumption) | constructor)))))
   | fail)
  exact .bool true
end Go.Proofs.Ytlmlkkkgcbpaoaa.AM

/-
  A block, a graph that is right: the program's.
-/
set_option linter.unusedVariables false
set_option linter.unusedSimpArgs false
set_option maxRecDepth 4000
namespace Go.Proofs.Ytlmlkkkgcbpaoaa.AM
open Go.RowKit

private def MG12 : FuncId → Mode := fun f => .tree

theorem Graph.Small.fit {g : Graph} (h : g.Small) : g.Fit := ⟨h.sizes, h.len, h.code⟩
theorem gsum_mono {α : Type} {f e : α → Nat} (h : ∀ a, f a ≤ e a) (l : List α) (i : Nat) : gsum f l i ≤ gsum e l i := by
  unfold gsum
  generalize List.take i l = k
  induction k with
  | nil => simp
  | cons a k ih =>
    have := h a
    simp
    omega
theorem codeLen_small {g : Graph} (h : g.Small) (i : Nat) : codeLen g.Blocks i ≤ 2 ^ 20 := by
  have h1 := codeLen_le g.Blocks i
  have h2 : codeLen g.Blocks g.Blocks.length ≤ gsum wtB g.Blocks g.Blocks.length := gsum_mono (fun b => wtIS_len) _ _
  have h3 := h.blocks
  unfold wtBS at h3
  omega

theorem notInstr (g : Graph) (x : Instr) (hs : 0 ≤ g.Slots ∧ g.Slots ≤ 1000) (hr : g.Sizes.length ≤ 2 ^ 20) : Pure Try.prog 114 [.agg x.cells, .tptr true (g.cells true)] (.bool (!instrOk g.Slots g.Sizes.length x)) := by
  intro T
  have I := isInstr g x hs hr
  refine enter mixed MG12 Try.func114 rfl (by kernel_rfl) rfl ?_
  repeat' (first
   | with_reducible refine stp ?_
   | with_reducible refine k_blk_o rfl ?_
   | with_reducible refine k_seq_n ?_
   | ((try (conv => arg 1; simp [Graph.cells, Instr.cells])); with_reducible refine evp ?_)
   | ((with_reducible refine apn ?na ?_); (case na => simp [appNames, ints, intss] <;> first | kernel_rfl | (refine ⟨?_, ?_⟩ <;> kernel_rfl)))
   | ((with_reducible refine tcl ?_); first | ((apply tg (I)); (case e => rfl); (case d => (refine dq ?_); (repeat' (first | ((refine Da.mk ?_); first | exact dr_blocks (by simp) _ | assumption) | constructor)))))
   | fail)
  exact .bool _

set_option maxHeartbeats 8000000 in
theorem isBlock (g : Graph) (b : Block) (hs : 0 ≤ g.Slots ∧ g.Slots ≤ 1000) (hr : g.Sizes.length ≤ 2 ^ 20) (hb : g.Blocks.length ≤ 2 ^ 20) (hc : b.Code.length ≤ 2 ^ 20) : Pure Try.prog 73 [.agg (g.cells true), .agg (b.cells true)] (.bool (blockOk g b)) := by
  intro T
  have w1 : IntKind.i64.wrap (g.Slots - 1) = g.Slots - 1 := wrap_id (by omega) (by omega)
  have w2 : IntKind.i64.wrap ((g.Blocks.length : Int) - 1) = (g.Blocks.length : Int) - 1 := wrap_id (by omega) (by omega)
  have hs0 : ¬ g.Slots < 0 := by omega
  have H := containsFuncW b.Code 114 [.tptr true (g.cells true)] (fun x => !instrOk g.Slots g.Sizes.length x) (fun x _ => notInstr g x hs hr) (fun _ => .cons (dr_tptr' (fun h => h) (drs_graph (fun h => h) g)) .nil) (by omega)
  have e1 : (b.Code.any fun x => !instrOk g.Slots g.Sizes.length x) = !(b.Code.all (instrOk g.Slots g.Sizes.length)) := by rw [List.all_eq_not_any_not, Bool.not_not]
  rw [e1] at H
  refine enter mixed MG12 Try.func73 rfl (by kernel_rfl) rfl ?_
  cases ha : b.Code.all (instrOk g.Slots g.Sizes.length) with
  | false =>
    rw [ha] at H
    repeat' (first
     | with_reducible refine stp ?_
     | with_reducible refine k_blk_o rfl ?_
     | with_reducible refine k_seq_n ?_
     | ((try (conv => arg 1; simp [Graph.cells, Block.cells])); with_reducible refine evp ?_)
     | ((with_reducible refine apn ?na ?_); (case na => simp [appNames, ints, intss] <;> first | kernel_rfl | (refine ⟨?_, ?_⟩ <;> kernel_rfl)))
     | ((with_reducible refine tcl ?_); first | ((apply tg (H)); (case e => rfl); (case d => (refine dq ?_); (repeat' (first | ((refine Da.mk ?_); first | exact dr_instrs (by simp) _ | exact dr_ptr0 (r := ⟨0, 5, [g.cells true]⟩) (by simp [Graph.cells]) rfl rfl (drs_graph (by simp) _) | assumption) | constructor)))))
     | fail)
    have e : blockOk g b = false := by unfold blockOk; rw [ha, Bool.false_and]
    rw [e]
    exact .bool _
  | true =>
    rw [ha] at H
    repeat' (first
     | with_reducible refine stp ?_
     | with_reducible refine k_blk_o rfl ?_
     | with_reducible refine k_seq_n ?_
     | ((try (conv => arg 1; simp [Graph.cells, Block.cells])); with_reducible refine evp ?_)
     | ((with_reducible refine apn ?na ?_); (case na => simp [appNames, ints, intss] <;> first | kernel_rfl | (refine ⟨?_, ?_⟩ <;> kernel_rfl)))
     | ((with_reducible refine tcl ?_); first | ((apply tg (H)); (case e => rfl); (case d => (refine dq ?_); (repeat' (first | ((refine Da.mk ?_); first | exact dr_instrs (by simp) _ | exact dr_ptr0 (r := ⟨0, 5, [g.cells true]⟩) (by simp [Graph.cells]) rfl rfl (drs_graph (by simp) _) | assumption) | constructor)))))
     | fail)
    have e : blockOk g b = (if b.Jump = 0 then inB b.To 0 ((g.Blocks.length : Int) - 1) && decide (b.A = 0) && decide (b.Else = 0)
        else if b.Jump = 1 then inB b.To 0 ((g.Blocks.length : Int) - 1) && inB b.Else 0 ((g.Blocks.length : Int) - 1) && inB b.A 0 (g.Slots - 1)
        else if b.Jump = 2 then inB b.A 0 (g.Slots - 1) && decide (b.To = 0) && decide (b.Else = 0)
        else false) := by unfold blockOk; rw [ha, Bool.true_and]
    rw [e]
    repeat (with_reducible first | refine stp ?_ | refine k_seq_n ?_)
    refine st_draw 27 (fun _ => false) (by kernel_rfl) ?_
    simp only [List.take_succ_cons, List.take_zero, List.drop_succ_cons, List.drop_zero, List.take_nil, List.drop_nil]
    repeat' (first
      | (with_reducible first | refine st_seq ?_ | refine st_reg ?_ | refine st_block ?_ | refine st_nil ?_ | refine st_skip ?_ | refine st_ret ?_ | refine st_exit ?_ | refine fr_nil ?_ | refine k_seq_n ?_ | refine k_seq_r ?_ | refine k_seq_e ?_ | refine k_blk_n ?_ | refine k_blk_r ?_ | refine k_blk_s ?_ | refine k_blk_o rfl ?_ | refine k_fn_r ?_ | refine k_fn_n ?_ | refine k_lp_r ?_ | refine k_lp_e ?_)
      | ((with_reducible first | refine st_move ?_ | refine st_asg ?_ | refine st_c ?_ | refine fr_c ?_); (try (conv => arg 1; simp [w1, w2, hs0])); (with_reducible refine at_mk ?_))
      | ((with_reducible first | refine st_g ?_ | refine fr_g ?_); (try (conv => arg 1; simp [w1, w2, hs0])); (with_reducible refine at_mk ?_); with_reducible first | refine gd_tt ?_ | refine gd_ff ?_ | refine gd_tf ?_ | refine gd_ft ?_ | refine gd_no ?_)
      | ((with_reducible first | refine st_gm ?_ | refine fr_gm ?_); (try (conv => arg 1; simp [w1, w2, hs0])); (with_reducible refine at_mk ?_); (with_reducible first | refine gm_bool ?_ | refine gm_gv ?_); refine ⟨_, (by intro hc; first | ((try simp only [Bool.and_eq_true] at hc); (try (conv => lhs; simp [hc, w1, w2, hs0])); first | done | exact rfl) | ((try simp [gq] at hc); (try (conv => lhs; simp [gq, hc, w1, w2, hs0])); first | done | exact rfl)), ?_⟩)
      | ((with_reducible refine st_gmc ?_); (try (conv => arg 1; simp [w1, w2, hs0])); (with_reducible refine at_mk ?_); (with_reducible first | refine gm_bool ?_ | refine gm_gv ?_); refine ⟨_, _, _, (by intro hc; first | ((try simp only [Bool.and_eq_true] at hc); (try (conv => lhs; simp [hc, w1, w2, hs0])); first | done | exact rfl) | ((try simp [gq] at hc); (try (conv => lhs; simp [gq, hc, w1, w2, hs0])); first | done | exact rfl)), rfl, in_ _ _ _, (by intro hc; (try simp at hc); (repeat' (first | exact DRs.nil | refine DRs.cons ?_ ?_ | exact .int _ _ | exact .bool _ | exact .str _ | exact .nilsl | exact .nilp | exact dr_ints (by simp) _ | exact dr_intss (by simp) _ | refine dr_agg ?_ | refine dr_fn ?_ | refine dr_tptr' (by simp) ?_ | assumption))), ?_⟩)
      | ((with_reducible refine fr_gmc ?_); (try (conv => arg 1; simp [w1, w2, hs0])); (with_reducible refine at_mk ?_); (with_reducible first | refine gm_bool ?_ | refine gm_gv ?_); refine ⟨_, _, _, (by intro hc; first | ((try simp only [Bool.and_eq_true] at hc); (try (conv => lhs; simp [hc, w1, w2, hs0])); first | done | exact rfl) | ((try simp [gq] at hc); (try (conv => lhs; simp [gq, hc, w1, w2, hs0])); first | done | exact rfl)), in_ _ _ _, (by intro hc; (try simp at hc); (repeat' (first | exact DRs.nil | refine DRs.cons ?_ ?_ | exact .int _ _ | exact .bool _ | exact .str _ | exact .nilsl | exact .nilp | exact dr_ints (by simp) _ | exact dr_intss (by simp) _ | refine dr_agg ?_ | refine dr_fn ?_ | refine dr_tptr' (by simp) ?_ | assumption))), ?_⟩)
      | ((with_reducible refine st_gmv ?_); (try (conv => arg 1; simp [w1, w2, hs0])); (with_reducible refine at_mk ?_); (with_reducible first | refine gm_bool ?_ | refine gm_gv ?_); refine ⟨_, _, _, _, _, (by intro hc; first | ((try simp only [Bool.and_eq_true] at hc); (try (conv => lhs; simp [hc, w1, w2, hs0])); first | done | exact rfl) | ((try simp [gq] at hc); (try (conv => lhs; simp [gq, hc, w1, w2, hs0])); first | done | exact rfl)), (by intro hc; first | ((try simp only [Bool.and_eq_true] at hc); (try (conv => lhs; simp [hc, w1, w2, hs0])); first | done | exact rfl) | ((try simp [gq] at hc); (try (conv => lhs; simp [gq, hc, w1, w2, hs0])); first | done | exact rfl)), rfl, in_ _ _ _, (by intro hc; (try simp at hc); (repeat' (first | exact DRs.nil | refine DRs.cons ?_ ?_ | exact .int _ _ | exact .bool _ | exact .str _ | exact .nilsl | exact .nilp | exact dr_ints (by simp) _ | exact dr_intss (by simp) _ | refine dr_agg ?_ | refine dr_fn ?_ | refine dr_tptr' (by simp) ?_ | assumption))), ?_⟩)
      | ((with_reducible refine st_m rfl ?_); (try (conv => arg 1; simp [w1, w2, hs0])); (with_reducible refine ev2_some ?_))
      | ((with_reducible refine fr_n rfl ?_); (try (conv => arg 1; simp [w1, w2, hs0])); (with_reducible refine evn_some ?_))
      | ((with_reducible first | refine st_cv ?_ | refine fr_cv ?_); (try (conv => arg 1; simp [w1, w2, hs0])); (with_reducible refine at_mk ?_); (with_reducible refine fn_mk ?_); (try (conv => arg 1; simp [w1, w2, hs0])); (with_reducible refine at_mk ?_))
      | ((with_reducible refine fr_a ?_); (try (conv => arg 1; simp [w1, w2, hs0])); (with_reducible refine at_mk ?_); (try (conv => arg 1; simp [w1, w2, hs0])); (with_reducible refine at_mk ?_); refine ⟨?names, ?_⟩; (case names => (simp [appNames, ints, intss] <;> first | kernel_rfl | (refine ⟨?_, ?_⟩ <;> kernel_rfl))); (try (conv => arg 1; simp [w1, w2, hs0])); (with_reducible refine ev2_some ?_))
      | ((with_reducible first | refine st_q ?_ | refine fr_q ?_ | refine st_res ?_); (try (conv => arg 1; simp [w1, w2, hs0])); (with_reducible refine ev_some ?_))
      | ((with_reducible refine st_if ?_); (try (conv => arg 1; simp [w1, w2, hs0])); (with_reducible refine at_mk ?_); with_reducible first | refine br_t ?_ | refine br_f ?_ | (refine br_b (fun hb => ?_) (fun hb => ?_) <;> ((try simp only [Bool.not_eq_eq_eq_not, Bool.not_true, Bool.not_false] at hb); (try simp only [hb]); (try simp at hb))))
      | ((with_reducible refine ct_id ?_); refine st_tree rfl (in_ _ _ _) (by (repeat' (first | exact DRs.nil | refine DRs.cons ?_ ?_ | exact .int _ _ | exact .bool _ | exact .str _ | exact .nilsl | exact .nilp | exact dr_ints (by simp) _ | exact dr_intss (by simp) _ | refine dr_agg ?_ | refine dr_fn ?_ | refine dr_tptr' (by simp) ?_ | assumption))) ?_)
      | ((with_reducible refine tw_id ?_); refine treeW_pure (in_ _ _ _) (by (repeat' (first | exact DRs.nil | refine DRs.cons ?_ ?_ | exact .int _ _ | exact .bool _ | exact .str _ | exact .nilsl | exact .nilp | exact dr_ints (by simp) _ | exact dr_intss (by simp) _ | refine dr_agg ?_ | refine dr_fn ?_ | refine dr_tptr' (by simp) ?_ | assumption))) ?_))
    all_goals refine dr_bool ?_
    all_goals rw [Bool.eq_iff_iff]
    all_goals (try simp_all [inB])
    all_goals grind

theorem isSize (n : Int) : Pure Try.prog 111 [.int .i64 n] (.bool (!inB n 1 16)) := by
  intro T
  refine enter mixed MG12 Try.func111 rfl (by kernel_rfl) rfl ?_
  repeat' (first
   | with_reducible refine stp ?_
   | with_reducible refine k_blk_o rfl ?_
   | with_reducible refine k_seq_n ?_
   | ((try (conv => arg 1; simp)); with_reducible refine evp ?_)
   | ((with_reducible refine apn ?na ?_); (case na => simp [appNames, ints, intss] <;> first | kernel_rfl | (refine ⟨?_, ?_⟩ <;> kernel_rfl)))
   | ((with_reducible refine tcl ?_); first | ((apply tg (in_ _ _ _)); (case e => rfl); (case d => (refine dq ?_); (repeat' (first | ((refine Da.mk ?_); first | assumption) | constructor)))))
   | fail)
  exact .bool _
theorem areStmts0 (sizes : List Int) (P V : Int) : Pure Try.prog 112 [.agg [ints true sizes, .int .i64 P, .int .i64 V, .tr true []], .tr true [], .int .i64 0] (.bool true) := by
  intro T
  refine enter mixed MG12 Try.func112 rfl (by kernel_rfl) rfl ?_
  repeat' (first
    | (with_reducible first | refine st_seq ?_ | refine st_reg ?_ | refine st_block ?_ | refine st_nil ?_ | refine st_skip ?_ | refine st_ret ?_ | refine st_exit ?_ | refine fr_nil ?_ | refine k_seq_n ?_ | refine k_seq_r ?_ | refine k_seq_e ?_ | refine k_blk_n ?_ | refine k_blk_r ?_ | refine k_blk_s ?_ | refine k_blk_o rfl ?_ | refine k_fn_r ?_ | refine k_fn_n ?_ | refine k_lp_r ?_ | refine k_lp_e ?_)
    | ((with_reducible first | refine st_move ?_ | refine st_asg ?_ | refine st_c ?_ | refine fr_c ?_); (try (conv => arg 1; simp)); (with_reducible refine at_mk ?_))
    | ((with_reducible first | refine st_g ?_ | refine fr_g ?_); (try (conv => arg 1; simp)); (with_reducible refine at_mk ?_); with_reducible first | refine gd_tt ?_ | refine gd_ff ?_ | refine gd_tf ?_ | refine gd_ft ?_ | refine gd_no ?_)
    | ((with_reducible first | refine st_gm ?_ | refine fr_gm ?_); (try (conv => arg 1; simp)); (with_reducible refine at_mk ?_); (with_reducible first | refine gm_bool ?_ | refine gm_gv ?_); refine ⟨_, (by intro hc; first | ((try simp only [Bool.and_eq_true] at hc); (try (conv => lhs; simp [hc])); first | done | exact rfl) | ((try simp [gq] at hc); (try (conv => lhs; simp [gq, hc])); first | done | exact rfl)), ?_⟩)
    | ((with_reducible refine st_m rfl ?_); (try (conv => arg 1; simp)); (with_reducible refine ev2_some ?_))
    | ((with_reducible refine fr_n rfl ?_); (try (conv => arg 1; simp)); (with_reducible refine evn_some ?_))
    | ((with_reducible first | refine st_cv ?_ | refine fr_cv ?_); (try (conv => arg 1; simp)); (with_reducible refine at_mk ?_); (with_reducible refine fn_mk ?_); (try (conv => arg 1; simp)); (with_reducible refine at_mk ?_))
    | ((with_reducible refine fr_a ?_); (try (conv => arg 1; simp)); (with_reducible refine at_mk ?_); (try (conv => arg 1; simp)); (with_reducible refine at_mk ?_); refine ⟨?names, ?_⟩; (case names => (simp [appNames, ints, intss] <;> first | kernel_rfl | (refine ⟨?_, ?_⟩ <;> kernel_rfl))); (try (conv => arg 1; simp)); (with_reducible refine ev2_some ?_))
    | ((with_reducible first | refine st_q ?_ | refine fr_q ?_ | refine st_res ?_); (try (conv => arg 1; simp)); (with_reducible refine ev_some ?_))
    | ((with_reducible refine st_if ?_); (try (conv => arg 1; simp)); (with_reducible refine at_mk ?_); with_reducible first | refine br_t ?_ | refine br_f ?_))
  refine st_loop (fun (i : Nat) σ h => σ 24 = .int .i64 0 ∧ σ 25 = .int .i64 0) (fun i => 0) 0 ?init ?step
  case init =>
    simp
  case step =>
    rintro i σ h ⟨h0, h1⟩
    repeat' (first
     | with_reducible refine stp ?_
     | with_reducible refine k_blk_o rfl ?_
     | with_reducible refine k_seq_n ?_
     | ((try (conv => arg 1; simp [h0, h1])); with_reducible refine evp ?_)
     | ((with_reducible refine apn ?na ?_); (case na => simp [appNames, ints, intss] <;> first | kernel_rfl | (refine ⟨?_, ?_⟩ <;> kernel_rfl)))
     | fail)
    exact .bool _
def progOk (sizes : List Int) (P V : Int) : Bool := (inB sizes.length 1 4 && sizes.all fun n => inB n 1 16) && inB P 0 (if V < 6 then V else 6) && decide (V ≤ 20)
theorem isProgram0 (sizes : List Int) (P V : Int) (hl : sizes.length ≤ 2 ^ 62) : Pure Try.prog 71 [.agg [ints true sizes, .int .i64 P, .int .i64 V, .tr true []]] (.bool (progOk sizes P V)) := by
  intro T
  have hc := containsFuncI sizes 111 [] (fun n => !inB n 1 16) (fun w _ => isSize w) (fun _ => .nil) hl
  have hA := areStmts0 sizes P V
  refine enter mixed MG12 Try.func71 rfl (by kernel_rfl) rfl ?_
  repeat' (first
    | (with_reducible first | refine st_seq ?_ | refine st_reg ?_ | refine st_block ?_ | refine st_nil ?_ | refine st_skip ?_ | refine st_ret ?_ | refine st_exit ?_ | refine fr_nil ?_ | refine k_seq_n ?_ | refine k_seq_r ?_ | refine k_seq_e ?_ | refine k_blk_n ?_ | refine k_blk_r ?_ | refine k_blk_s ?_ | refine k_blk_o rfl ?_ | refine k_fn_r ?_ | refine k_fn_n ?_ | refine k_lp_r ?_ | refine k_lp_e ?_)
    | ((with_reducible first | refine st_move ?_ | refine st_asg ?_ | refine st_c ?_ | refine fr_c ?_); (try (conv => arg 1; simp [mmA])); (with_reducible refine at_mk ?_))
    | ((with_reducible first | refine st_g ?_ | refine fr_g ?_); (try (conv => arg 1; simp [mmA])); (with_reducible refine at_mk ?_); with_reducible first | refine gd_tt ?_ | refine gd_ff ?_ | refine gd_tf ?_ | refine gd_ft ?_ | refine gd_no ?_)
    | ((with_reducible first | refine st_gm ?_ | refine fr_gm ?_); (try (conv => arg 1; simp [mmA])); (with_reducible refine at_mk ?_); (with_reducible first | refine gm_bool ?_ | refine gm_gv ?_); refine ⟨_, (by intro hc; first | ((try simp only [Bool.and_eq_true] at hc); (try (conv => lhs; simp [hc, mmA])); first | done | exact rfl) | ((try simp [gq] at hc); (try (conv => lhs; simp [gq, hc, mmA])); first | done | exact rfl)), ?_⟩)
    | ((with_reducible refine st_gmc ?_); (try (conv => arg 1; simp [mmA])); (with_reducible refine at_mk ?_); (with_reducible first | refine gm_bool ?_ | refine gm_gv ?_); refine ⟨_, _, _, (by intro hc; first | ((try simp only [Bool.and_eq_true] at hc); (try (conv => lhs; simp [hc, mmA])); first | done | exact rfl) | ((try simp [gq] at hc); (try (conv => lhs; simp [gq, hc, mmA])); first | done | exact rfl)), rfl, hc, (by intro hc; (try simp at hc); (repeat' (first | exact DRs.nil | refine DRs.cons ?_ ?_ | exact .int _ _ | exact .bool _ | exact .str _ | exact .nilsl | exact .nilp | exact dr_ints (by simp) _ | exact dr_intss (by simp) _ | refine dr_agg ?_ | refine dr_fn ?_ | refine dr_tptr' (by simp) ?_ | assumption | exact .tr0 _))), ?_⟩)
    | ((with_reducible refine fr_gmc ?_); (try (conv => arg 1; simp [mmA])); (with_reducible refine at_mk ?_); (with_reducible first | refine gm_bool ?_ | refine gm_gv ?_); refine ⟨_, _, _, (by intro hc; first | ((try simp only [Bool.and_eq_true] at hc); (try (conv => lhs; simp [hc, mmA])); first | done | exact rfl) | ((try simp [gq] at hc); (try (conv => lhs; simp [gq, hc, mmA])); first | done | exact rfl)), hc, (by intro hc; (try simp at hc); (repeat' (first | exact DRs.nil | refine DRs.cons ?_ ?_ | exact .int _ _ | exact .bool _ | exact .str _ | exact .nilsl | exact .nilp | exact dr_ints (by simp) _ | exact dr_intss (by simp) _ | refine dr_agg ?_ | refine dr_fn ?_ | refine dr_tptr' (by simp) ?_ | assumption | exact .tr0 _))), ?_⟩)
    | ((with_reducible refine st_gmv ?_); (try (conv => arg 1; simp [mmA])); (with_reducible refine at_mk ?_); (with_reducible first | refine gm_bool ?_ | refine gm_gv ?_); refine ⟨_, _, _, _, _, (by intro hc; first | ((try simp only [Bool.and_eq_true] at hc); (try (conv => lhs; simp [hc, mmA])); first | done | exact rfl) | ((try simp [gq] at hc); (try (conv => lhs; simp [gq, hc, mmA])); first | done | exact rfl)), (by intro hc; first | ((try simp only [Bool.and_eq_true] at hc); (try (conv => lhs; simp [hc, mmA])); first | done | exact rfl) | ((try simp [gq] at hc); (try (conv => lhs; simp [gq, hc, mmA])); first | done | exact rfl)), rfl, hc, (by intro hc; (try simp at hc); (repeat' (first | exact DRs.nil | refine DRs.cons ?_ ?_ | exact .int _ _ | exact .bool _ | exact .str _ | exact .nilsl | exact .nilp | exact dr_ints (by simp) _ | exact dr_intss (by simp) _ | refine dr_agg ?_ | refine dr_fn ?_ | refine dr_tptr' (by simp) ?_ | assumption | exact .tr0 _))), ?_⟩)
    | ((with_reducible refine st_gmc ?_); (try (conv => arg 1; simp [mmA])); (with_reducible refine at_mk ?_); (with_reducible first | refine gm_bool ?_ | refine gm_gv ?_); refine ⟨_, _, _, (by intro hc; first | ((try simp only [Bool.and_eq_true] at hc); (try (conv => lhs; simp [hc, mmA])); first | done | exact rfl) | ((try simp [gq] at hc); (try (conv => lhs; simp [gq, hc, mmA])); first | done | exact rfl)), rfl, in_ _ _ _, (by intro hc; (try simp at hc); (repeat' (first | exact DRs.nil | refine DRs.cons ?_ ?_ | exact .int _ _ | exact .bool _ | exact .str _ | exact .nilsl | exact .nilp | exact dr_ints (by simp) _ | exact dr_intss (by simp) _ | refine dr_agg ?_ | refine dr_fn ?_ | refine dr_tptr' (by simp) ?_ | assumption | exact .tr0 _))), ?_⟩)
    | ((with_reducible refine fr_gmc ?_); (try (conv => arg 1; simp [mmA])); (with_reducible refine at_mk ?_); (with_reducible first | refine gm_bool ?_ | refine gm_gv ?_); refine ⟨_, _, _, (by intro hc; first | ((try simp only [Bool.and_eq_true] at hc); (try (conv => lhs; simp [hc, mmA])); first | done | exact rfl) | ((try simp [gq] at hc); (try (conv => lhs; simp [gq, hc, mmA])); first | done | exact rfl)), in_ _ _ _, (by intro hc; (try simp at hc); (repeat' (first | exact DRs.nil | refine DRs.cons ?_ ?_ | exact .int _ _ | exact .bool _ | exact .str _ | exact .nilsl | exact .nilp | exact dr_ints (by simp) _ | exact dr_intss (by simp) _ | refine dr_agg ?_ | refine dr_fn ?_ | refine dr_tptr' (by simp) ?_ | assumption | exact .tr0 _))), ?_⟩)
    | ((with_reducible refine st_gmv ?_); (try (conv => arg 1; simp [mmA])); (with_reducible refine at_mk ?_); (with_reducible first | refine gm_bool ?_ | refine gm_gv ?_); refine ⟨_, _, _, _, _, (by intro hc; first | ((try simp only [Bool.and_eq_true] at hc); (try (conv => lhs; simp [hc, mmA])); first | done | exact rfl) | ((try simp [gq] at hc); (try (conv => lhs; simp [gq, hc, mmA])); first | done | exact rfl)), (by intro hc; first | ((try simp only [Bool.and_eq_true] at hc); (try (conv => lhs; simp [hc, mmA])); first | done | exact rfl) | ((try simp [gq] at hc); (try (conv => lhs; simp [gq, hc, mmA])); first | done | exact rfl)), rfl, in_ _ _ _, (by intro hc; (try simp at hc); (repeat' (first | exact DRs.nil | refine DRs.cons ?_ ?_ | exact .int _ _ | exact .bool _ | exact .str _ | exact .nilsl | exact .nilp | exact dr_ints (by simp) _ | exact dr_intss (by simp) _ | refine dr_agg ?_ | refine dr_fn ?_ | refine dr_tptr' (by simp) ?_ | assumption | exact .tr0 _))), ?_⟩)
    | ((with_reducible refine st_gmc ?_); (try (conv => arg 1; simp [mmA])); (with_reducible refine at_mk ?_); (with_reducible first | refine gm_bool ?_ | refine gm_gv ?_); refine ⟨_, _, _, (by intro hc; first | ((try simp only [Bool.and_eq_true] at hc); (try (conv => lhs; simp [hc, mmA])); first | done | exact rfl) | ((try simp [gq] at hc); (try (conv => lhs; simp [gq, hc, mmA])); first | done | exact rfl)), rfl, hA, (by intro hc; (try simp at hc); (repeat' (first | exact DRs.nil | refine DRs.cons ?_ ?_ | exact .int _ _ | exact .bool _ | exact .str _ | exact .nilsl | exact .nilp | exact dr_ints (by simp) _ | exact dr_intss (by simp) _ | refine dr_agg ?_ | refine dr_fn ?_ | refine dr_tptr' (by simp) ?_ | assumption | exact .tr0 _))), ?_⟩)
    | ((with_reducible refine fr_gmc ?_); (try (conv => arg 1; simp [mmA])); (with_reducible refine at_mk ?_); (with_reducible first | refine gm_bool ?_ | refine gm_gv ?_); refine ⟨_, _, _, (by intro hc; first | ((try simp only [Bool.and_eq_true] at hc); (try (conv => lhs; simp [hc, mmA])); first | done | exact rfl) | ((try simp [gq] at hc); (try (conv => lhs; simp [gq, hc, mmA])); first | done | exact rfl)), hA, (by intro hc; (try simp at hc); (repeat' (first | exact DRs.nil | refine DRs.cons ?_ ?_ | exact .int _ _ | exact .bool _ | exact .str _ | exact .nilsl | exact .nilp | exact dr_ints (by simp) _ | exact dr_intss (by simp) _ | refine dr_agg ?_ | refine dr_fn ?_ | refine dr_tptr' (by simp) ?_ | assumption | exact .tr0 _))), ?_⟩)
    | ((with_reducible refine st_gmv ?_); (try (conv => arg 1; simp [mmA])); (with_reducible refine at_mk ?_); (with_reducible first | refine gm_bool ?_ | refine gm_gv ?_); refine ⟨_, _, _, _, _, (by intro hc; first | ((try simp only [Bool.and_eq_true] at hc); (try (conv => lhs; simp [hc, mmA])); first | done | exact rfl) | ((try simp [gq] at hc); (try (conv => lhs; simp [gq, hc, mmA])); first | done | exact rfl)), (by intro hc; first | ((try simp only [Bool.and_eq_true] at hc); (try (conv => lhs; simp [hc, mmA])); first | done | exact rfl) | ((try simp [gq] at hc); (try (conv => lhs; simp [gq, hc, mmA])); first | done | exact rfl)), rfl, hA, (by intro hc; (try simp at hc); (repeat' (first | exact DRs.nil | refine DRs.cons ?_ ?_ | exact .int _ _ | exact .bool _ | exact .str _ | exact .nilsl | exact .nilp | exact dr_ints (by simp) _ | exact dr_intss (by simp) _ | refine dr_agg ?_ | refine dr_fn ?_ | refine dr_tptr' (by simp) ?_ | assumption | exact .tr0 _))), ?_⟩)
    | ((with_reducible refine st_m rfl ?_); (try (conv => arg 1; simp [mmA])); (with_reducible refine ev2_some ?_))
    | ((with_reducible refine fr_n rfl ?_); (try (conv => arg 1; simp [mmA])); (with_reducible refine evn_some ?_))
    | ((with_reducible first | refine st_cv ?_ | refine fr_cv ?_); (try (conv => arg 1; simp [mmA])); (with_reducible refine at_mk ?_); (with_reducible refine fn_mk ?_); (try (conv => arg 1; simp [mmA])); (with_reducible refine at_mk ?_))
    | ((with_reducible refine fr_a ?_); (try (conv => arg 1; simp [mmA])); (with_reducible refine at_mk ?_); (try (conv => arg 1; simp [mmA])); (with_reducible refine at_mk ?_); refine ⟨?names, ?_⟩; (case names => (simp [appNames, ints, intss] <;> first | kernel_rfl | (refine ⟨?_, ?_⟩ <;> kernel_rfl))); (try (conv => arg 1; simp [mmA])); (with_reducible refine ev2_some ?_))
    | ((with_reducible first | refine st_q ?_ | refine fr_q ?_ | refine st_res ?_); (try (conv => arg 1; simp [mmA])); (with_reducible refine ev_some ?_))
    | ((with_reducible refine st_if ?_); (try (conv => arg 1; simp [mmA])); (with_reducible refine at_mk ?_); with_reducible first | refine br_t ?_ | refine br_f ?_)
    | ((with_reducible refine ct_id ?_); refine st_tree rfl (hc) (by (repeat' (first | exact DRs.nil | refine DRs.cons ?_ ?_ | exact .int _ _ | exact .bool _ | exact .str _ | exact .nilsl | exact .nilp | exact dr_ints (by simp) _ | exact dr_intss (by simp) _ | refine dr_agg ?_ | refine dr_fn ?_ | refine dr_tptr' (by simp) ?_ | assumption | exact .tr0 _))) ?_)
    | ((with_reducible refine tw_id ?_); refine treeW_pure (hc) (by (repeat' (first | exact DRs.nil | refine DRs.cons ?_ ?_ | exact .int _ _ | exact .bool _ | exact .str _ | exact .nilsl | exact .nilp | exact dr_ints (by simp) _ | exact dr_intss (by simp) _ | refine dr_agg ?_ | refine dr_fn ?_ | refine dr_tptr' (by simp) ?_ | assumption | exact .tr0 _))) ?_)
    | ((with_reducible refine ct_id ?_); refine st_tree rfl (in_ _ _ _) (by (repeat' (first | exact DRs.nil | refine DRs.cons ?_ ?_ | exact .int _ _ | exact .bool _ | exact .str _ | exact .nilsl | exact .nilp | exact dr_ints (by simp) _ | exact dr_intss (by simp) _ | refine dr_agg ?_ | refine dr_fn ?_ | refine dr_tptr' (by simp) ?_ | assumption | exact .tr0 _))) ?_)
    | ((with_reducible refine tw_id ?_); refine treeW_pure (in_ _ _ _) (by (repeat' (first | exact DRs.nil | refine DRs.cons ?_ ?_ | exact .int _ _ | exact .bool _ | exact .str _ | exact .nilsl | exact .nilp | exact dr_ints (by simp) _ | exact dr_intss (by simp) _ | refine dr_agg ?_ | refine dr_fn ?_ | refine dr_tptr' (by simp) ?_ | assumption | exact .tr0 _))) ?_)
    | ((with_reducible refine ct_id ?_); refine st_tree rfl (hA) (by (repeat' (first | exact DRs.nil | refine DRs.cons ?_ ?_ | exact .int _ _ | exact .bool _ | exact .str _ | exact .nilsl | exact .nilp | exact dr_ints (by simp) _ | exact dr_intss (by simp) _ | refine dr_agg ?_ | refine dr_fn ?_ | refine dr_tptr' (by simp) ?_ | assumption | exact .tr0 _))) ?_)
    | ((with_reducible refine tw_id ?_); refine treeW_pure (hA) (by (repeat' (first | exact DRs.nil | refine DRs.cons ?_ ?_ | exact .int _ _ | exact .bool _ | exact .str _ | exact .nilsl | exact .nilp | exact dr_ints (by simp) _ | exact dr_intss (by simp) _ | refine dr_agg ?_ | refine dr_fn ?_ | refine dr_tptr' (by simp) ?_ | assumption | exact .tr0 _))) ?_))
  refine dr_bool ?_
  have e1 : (sizes.all fun n => inB n 1 16) = !sizes.any fun n => !inB n 1 16 := by rw [List.all_eq_not_any_not]
  unfold progOk
  rw [e1]
theorem progOk_iff {g : Graph} : (progOk g.Sizes g.Params g.Vars && inB g.Slots g.Vars 1000 && inB g.Blocks.length 1 300) = headOk g := by
  rw [Bool.eq_iff_iff]
  simp only [progOk, headOk, inB, Bool.and_eq_true, decide_eq_true_eq]
  constructor
  · rintro ⟨⟨⟨⟨⟨h1, h2⟩, h3⟩, h4⟩, h5⟩, h6⟩
    refine ⟨⟨⟨⟨⟨⟨h1, h2⟩, ?_⟩, ?_⟩, h4⟩, h5⟩, h6⟩
    · split at h3 <;> omega
    · split at h3 <;> omega
  · rintro ⟨⟨⟨⟨⟨⟨h1, h2⟩, h3⟩, h3'⟩, h4⟩, h5⟩, h6⟩
    refine ⟨⟨⟨⟨⟨h1, h2⟩, ?_⟩, h4⟩, h5⟩, h6⟩
    split <;> omega

set_option maxHeartbeats 8000000 in
theorem isGraph (g : Graph) (d : g.Small) : Pure Try.prog 40 [.agg (g.cells true)] (.bool (graphOk g)) := by
  intro T
  have d1 := d.sizes
  have d2 := d.len
  have hP := isProgram0 g.Sizes g.Params g.Vars (by omega)
  have hh := progOk_iff (g := g)
  refine enter mixed MG12 Try.func40 rfl (by kernel_rfl) rfl ?_
  repeat' (first
   | with_reducible refine stp ?_
   | with_reducible refine k_blk_o rfl ?_
   | ((try (conv => arg 1; simp [Graph.cells])); with_reducible refine evp ?_)
   | ((with_reducible refine apn ?na ?_); (case na => simp [appNames, ints, intss] <;> first | kernel_rfl | (refine ⟨?_, ?_⟩ <;> kernel_rfl)))
   | fail)
  refine cx_k (Cx.mt.next.box_one (T := T) (i := 0) Cx.mt.off (by simp)) ?_
  intro h1 x1
  have b1 := x1.bxs
  simp only [Bxs] at b1
  repeat' (first
    | (with_reducible first | refine st_seq ?_ | refine st_reg ?_ | refine st_block ?_ | refine st_nil ?_ | refine st_skip ?_ | refine st_ret ?_ | refine st_exit ?_ | refine fr_nil ?_ | refine k_seq_n ?_ | refine k_seq_r ?_ | refine k_seq_e ?_ | refine k_blk_n ?_ | refine k_blk_r ?_ | refine k_blk_s ?_ | refine k_blk_o rfl ?_ | refine k_fn_r ?_ | refine k_fn_n ?_ | refine k_lp_r ?_ | refine k_lp_e ?_)
    | ((with_reducible first | refine st_move ?_ | refine st_asg ?_ | refine st_c ?_ | refine fr_c ?_); (try (conv => arg 1; simp [b1])); (with_reducible refine at_mk ?_))
    | ((with_reducible first | refine st_g ?_ | refine fr_g ?_); (try (conv => arg 1; simp [b1])); (with_reducible refine at_mk ?_); with_reducible first | refine gd_tt ?_ | refine gd_ff ?_ | refine gd_tf ?_ | refine gd_ft ?_ | refine gd_no ?_)
    | ((with_reducible first | refine st_gm ?_ | refine fr_gm ?_); (try (conv => arg 1; simp [b1])); (with_reducible refine at_mk ?_); (with_reducible first | refine gm_bool ?_ | refine gm_gv ?_); refine ⟨_, (by intro hc; first | ((try simp only [Bool.and_eq_true] at hc); (try (conv => lhs; simp [hc, b1])); first | done | exact rfl) | ((try simp [gq] at hc); (try (conv => lhs; simp [gq, hc, b1])); first | done | exact rfl)), ?_⟩)
    | ((with_reducible refine st_gmc ?_); (try (conv => arg 1; simp [b1])); (with_reducible refine at_mk ?_); (with_reducible first | refine gm_bool ?_ | refine gm_gv ?_); refine ⟨_, _, _, (by intro hc; first | ((try simp only [Bool.and_eq_true] at hc); (try (conv => lhs; simp [hc, b1])); first | done | exact rfl) | ((try simp [gq] at hc); (try (conv => lhs; simp [gq, hc, b1])); first | done | exact rfl)), rfl, hP, (by intro hc; (try simp at hc); (repeat' (first | exact DRs.nil | refine DRs.cons ?_ ?_ | exact .int _ _ | exact .bool _ | exact .str _ | exact .nilsl | exact .nilp | exact dr_ints (by simp) _ | exact dr_intss (by simp) _ | refine dr_agg ?_ | refine dr_fn ?_ | refine dr_tptr' (by simp) ?_ | assumption | exact .nilsl))), ?_⟩)
    | ((with_reducible refine fr_gmc ?_); (try (conv => arg 1; simp [b1])); (with_reducible refine at_mk ?_); (with_reducible first | refine gm_bool ?_ | refine gm_gv ?_); refine ⟨_, _, _, (by intro hc; first | ((try simp only [Bool.and_eq_true] at hc); (try (conv => lhs; simp [hc, b1])); first | done | exact rfl) | ((try simp [gq] at hc); (try (conv => lhs; simp [gq, hc, b1])); first | done | exact rfl)), hP, (by intro hc; (try simp at hc); (repeat' (first | exact DRs.nil | refine DRs.cons ?_ ?_ | exact .int _ _ | exact .bool _ | exact .str _ | exact .nilsl | exact .nilp | exact dr_ints (by simp) _ | exact dr_intss (by simp) _ | refine dr_agg ?_ | refine dr_fn ?_ | refine dr_tptr' (by simp) ?_ | assumption | exact .nilsl))), ?_⟩)
    | ((with_reducible refine st_gmv ?_); (try (conv => arg 1; simp [b1])); (with_reducible refine at_mk ?_); (with_reducible first | refine gm_bool ?_ | refine gm_gv ?_); refine ⟨_, _, _, _, _, (by intro hc; first | ((try simp only [Bool.and_eq_true] at hc); (try (conv => lhs; simp [hc, b1])); first | done | exact rfl) | ((try simp [gq] at hc); (try (conv => lhs; simp [gq, hc, b1])); first | done | exact rfl)), (by intro hc; first | ((try simp only [Bool.and_eq_true] at hc); (try (conv => lhs; simp [hc, b1])); first | done | exact rfl) | ((try simp [gq] at hc); (try (conv => lhs; simp [gq, hc, b1])); first | done | exact rfl)), rfl, hP, (by intro hc; (try simp at hc); (repeat' (first | exact DRs.nil | refine DRs.cons ?_ ?_ | exact .int _ _ | exact .bool _ | exact .str _ | exact .nilsl | exact .nilp | exact dr_ints (by simp) _ | exact dr_intss (by simp) _ | refine dr_agg ?_ | refine dr_fn ?_ | refine dr_tptr' (by simp) ?_ | assumption | exact .nilsl))), ?_⟩)
    | ((with_reducible refine st_gmc ?_); (try (conv => arg 1; simp [b1])); (with_reducible refine at_mk ?_); (with_reducible first | refine gm_bool ?_ | refine gm_gv ?_); refine ⟨_, _, _, (by intro hc; first | ((try simp only [Bool.and_eq_true] at hc); (try (conv => lhs; simp [hc, b1])); first | done | exact rfl) | ((try simp [gq] at hc); (try (conv => lhs; simp [gq, hc, b1])); first | done | exact rfl)), rfl, in_ _ _ _, (by intro hc; (try simp at hc); (repeat' (first | exact DRs.nil | refine DRs.cons ?_ ?_ | exact .int _ _ | exact .bool _ | exact .str _ | exact .nilsl | exact .nilp | exact dr_ints (by simp) _ | exact dr_intss (by simp) _ | refine dr_agg ?_ | refine dr_fn ?_ | refine dr_tptr' (by simp) ?_ | assumption | exact .nilsl))), ?_⟩)
    | ((with_reducible refine fr_gmc ?_); (try (conv => arg 1; simp [b1])); (with_reducible refine at_mk ?_); (with_reducible first | refine gm_bool ?_ | refine gm_gv ?_); refine ⟨_, _, _, (by intro hc; first | ((try simp only [Bool.and_eq_true] at hc); (try (conv => lhs; simp [hc, b1])); first | done | exact rfl) | ((try simp [gq] at hc); (try (conv => lhs; simp [gq, hc, b1])); first | done | exact rfl)), in_ _ _ _, (by intro hc; (try simp at hc); (repeat' (first | exact DRs.nil | refine DRs.cons ?_ ?_ | exact .int _ _ | exact .bool _ | exact .str _ | exact .nilsl | exact .nilp | exact dr_ints (by simp) _ | exact dr_intss (by simp) _ | refine dr_agg ?_ | refine dr_fn ?_ | refine dr_tptr' (by simp) ?_ | assumption | exact .nilsl))), ?_⟩)
    | ((with_reducible refine st_gmv ?_); (try (conv => arg 1; simp [b1])); (with_reducible refine at_mk ?_); (with_reducible first | refine gm_bool ?_ | refine gm_gv ?_); refine ⟨_, _, _, _, _, (by intro hc; first | ((try simp only [Bool.and_eq_true] at hc); (try (conv => lhs; simp [hc, b1])); first | done | exact rfl) | ((try simp [gq] at hc); (try (conv => lhs; simp [gq, hc, b1])); first | done | exact rfl)), (by intro hc; first | ((try simp only [Bool.and_eq_true] at hc); (try (conv => lhs; simp [hc, b1])); first | done | exact rfl) | ((try simp [gq] at hc); (try (conv => lhs; simp [gq, hc, b1])); first | done | exact rfl)), rfl, in_ _ _ _, (by intro hc; (try simp at hc); (repeat' (first | exact DRs.nil | refine DRs.cons ?_ ?_ | exact .int _ _ | exact .bool _ | exact .str _ | exact .nilsl | exact .nilp | exact dr_ints (by simp) _ | exact dr_intss (by simp) _ | refine dr_agg ?_ | refine dr_fn ?_ | refine dr_tptr' (by simp) ?_ | assumption | exact .nilsl))), ?_⟩)
    | ((with_reducible refine st_m rfl ?_); (try (conv => arg 1; simp [b1])); (with_reducible refine ev2_some ?_))
    | ((with_reducible refine fr_n rfl ?_); (try (conv => arg 1; simp [b1])); (with_reducible refine evn_some ?_))
    | ((with_reducible first | refine st_cv ?_ | refine fr_cv ?_); (try (conv => arg 1; simp [b1])); (with_reducible refine at_mk ?_); (with_reducible refine fn_mk ?_); (try (conv => arg 1; simp [b1])); (with_reducible refine at_mk ?_))
    | ((with_reducible refine fr_a ?_); (try (conv => arg 1; simp [b1])); (with_reducible refine at_mk ?_); (try (conv => arg 1; simp [b1])); (with_reducible refine at_mk ?_); refine ⟨?names, ?_⟩; (case names => (simp [appNames, ints, intss] <;> first | kernel_rfl | (refine ⟨?_, ?_⟩ <;> kernel_rfl))); (try (conv => arg 1; simp [b1])); (with_reducible refine ev2_some ?_))
    | ((with_reducible first | refine st_q ?_ | refine fr_q ?_ | refine st_res ?_); (try (conv => arg 1; simp [b1])); (with_reducible refine ev_some ?_))
    | ((with_reducible refine st_if ?_); (try (conv => arg 1; simp [b1])); (with_reducible refine at_mk ?_); with_reducible first | refine br_t ?_ | refine br_f ?_)
    | ((with_reducible refine ct_id ?_); refine st_tree rfl (hP) (by (repeat' (first | exact DRs.nil | refine DRs.cons ?_ ?_ | exact .int _ _ | exact .bool _ | exact .str _ | exact .nilsl | exact .nilp | exact dr_ints (by simp) _ | exact dr_intss (by simp) _ | refine dr_agg ?_ | refine dr_fn ?_ | refine dr_tptr' (by simp) ?_ | assumption | exact .nilsl))) ?_)
    | ((with_reducible refine tw_id ?_); refine treeW_pure (hP) (by (repeat' (first | exact DRs.nil | refine DRs.cons ?_ ?_ | exact .int _ _ | exact .bool _ | exact .str _ | exact .nilsl | exact .nilp | exact dr_ints (by simp) _ | exact dr_intss (by simp) _ | refine dr_agg ?_ | refine dr_fn ?_ | refine dr_tptr' (by simp) ?_ | assumption | exact .nilsl))) ?_)
    | ((with_reducible refine ct_id ?_); refine st_tree rfl (in_ _ _ _) (by (repeat' (first | exact DRs.nil | refine DRs.cons ?_ ?_ | exact .int _ _ | exact .bool _ | exact .str _ | exact .nilsl | exact .nilp | exact dr_ints (by simp) _ | exact dr_intss (by simp) _ | refine dr_agg ?_ | refine dr_fn ?_ | refine dr_tptr' (by simp) ?_ | assumption | exact .nilsl))) ?_)
    | ((with_reducible refine tw_id ?_); refine treeW_pure (in_ _ _ _) (by (repeat' (first | exact DRs.nil | refine DRs.cons ?_ ?_ | exact .int _ _ | exact .bool _ | exact .str _ | exact .nilsl | exact .nilp | exact dr_ints (by simp) _ | exact dr_intss (by simp) _ | refine dr_agg ?_ | refine dr_fn ?_ | refine dr_tptr' (by simp) ?_ | assumption | exact .nilsl))) ?_))
  (try with_reducible refine st_if ?_)
  (try (conv => arg 1; simp [d1]))
  (try with_reducible refine at_mk ?_)
  refine ⟨fun hb => ?_, fun hb => ?_⟩
  · have e : graphOk g = false := by
      unfold graphOk
      rw [← hh]
      simp only [Bool.or_eq_true, Bool.not_eq_true'] at hb
      rcases hb with (h | h) | h <;> simp only [h, Bool.false_and, Bool.and_false]
    repeat' (first
     | with_reducible refine stp ?_
     | with_reducible refine k_blk_o rfl ?_
     | with_reducible refine k_seq_n ?_
     | ((try (conv => arg 1; simp [d1])); with_reducible refine evp ?_)
     | ((with_reducible refine apn ?na ?_); (case na => simp [appNames, ints, intss] <;> first | kernel_rfl | (refine ⟨?_, ?_⟩ <;> kernel_rfl)))
     | fail)
    rw [e]
    exact .bool _
  have hk : headOk g = true := by
    rw [← hh]
    simp only [Bool.not_eq_true, Bool.or_eq_false_iff, Bool.not_eq_false'] at hb
    simp only [hb, Bool.and_true]
  have H := headOk_head hk
  have e4 := H.slots
  have e2 := H.params
  have e5 := H.blocks
  repeat' (first
   | with_reducible refine stp ?_
   | with_reducible refine k_blk_o rfl ?_
   | with_reducible refine k_seq_n ?_
   | ((try (conv => arg 1; simp [b1])); with_reducible refine evp ?_)
   | ((with_reducible refine apn ?na ?_); (case na => simp [appNames, ints, intss] <;> first | kernel_rfl | (refine ⟨?_, ?_⟩ <;> kernel_rfl)))
   | fail)
  refine st_loop (fun (i : Nat) σ h => i ≤ g.Blocks.length ∧ σ 1 = .ptr (T, 0, 0) 0 0 0 ∧ σ 31 = blocks true g.Blocks ∧ σ 32 = .int .i64 g.Blocks.length ∧ σ 3 = .int .i64 (codeLen g.Blocks i) ∧ σ 33 = .int .i64 i ∧ (g.Blocks.take i).all (blockOk g) = true ∧ Cx h [((T, 0, 0), graphRow g)] []) (fun i => g.Blocks.length - i) 0 ?init ?step
  case init => exact ⟨Nat.zero_le _, by simp, by simp, by simp, by simp [codeLen, gsum_zero], by simp, rfl, Cx.to x1⟩
  case step =>
    rintro i σ h ⟨hi, s1, s31, s32, s3, s33, ha2, x⟩
    have b2 := x.bxs
    simp only [Bxs, graphRow] at b2
    have hn := codeLen_small d i
    by_cases hlt : i < g.Blocks.length
    · have hlt2 : (i : Int) < g.Blocks.length := by omega
      have hx : g.Blocks[i]? = some g.Blocks[i] := by simp
      have hlen := block_len true g.Blocks[i]
      have hc := d.code _ (List.getElem_mem hlt)
      have hw : IntKind.i64.wrap (i + 1) = i + 1 := wrap_id (by omega) (by omega)
      have hs := codeLen_succ hlt
      have hw2 : IntKind.i64.wrap ((codeLen g.Blocks i : Int) + g.Blocks[i].Code.length) = codeLen g.Blocks (i + 1) := by rw [wrap_id (by omega) (by omega)]; omega
      have B := isBlock g g.Blocks[i] (by omega) d1 d2 hc
      cases hv : blockOk g g.Blocks[i] with
      | false =>
        rw [hv] at B
        repeat' (first
         | with_reducible refine stp ?_
         | with_reducible refine k_blk_o rfl ?_
         | with_reducible refine k_seq_n ?_
         | ((try (conv => arg 1; simp [s1, s31, s32, s3, s33, b2, hlt2, hx, hlen, blocks, Block.cells, Graph.cells, hw2, ltS, nm_ne])); with_reducible refine evp ?_)
         | ((with_reducible refine apn ?na ?_); (case na => simp [appNames, ints, intss] <;> first | kernel_rfl | (refine ⟨?_, ?_⟩ <;> kernel_rfl)))
         | ((with_reducible refine tcl ?_); first | ((apply tg (B)); (case e => rfl); (case d => (refine dq ?_); (repeat' (first | ((refine Da.mk ?_); first | exact dr_blocks (by simp) _ | exact dr_instrs (by simp) _ | assumption) | constructor)))))
         | fail)
        have e : graphOk g = false := by simp only [graphOk]; rw [all_false hlt hv, Bool.and_false]
        rw [e]
        exact .bool _
      | true =>
        rw [hv] at B
        repeat' (first
         | with_reducible refine stp ?_
         | with_reducible refine k_blk_o rfl ?_
         | with_reducible refine k_seq_n ?_
         | ((try (conv => arg 1; simp [s1, s31, s32, s3, s33, b2, hlt2, hx, hlen, blocks, Block.cells, Graph.cells, hw, hw2, ltS, nm_ne])); with_reducible refine evp ?_)
         | ((with_reducible refine apn ?na ?_); (case na => simp [appNames, ints, intss] <;> first | kernel_rfl | (refine ⟨?_, ?_⟩ <;> kernel_rfl)))
         | ((with_reducible refine tcl ?_); first | ((apply tg (B)); (case e => rfl); (case d => (refine dq ?_); (repeat' (first | ((refine Da.mk ?_); first | exact dr_blocks (by simp) _ | exact dr_instrs (by simp) _ | assumption) | constructor)))))
         | fail)
        refine k_lp_n (i + 1) (by omega) ⟨by omega, by simp [s1], by simp [s31], by simp [s32], by simp, by simp, by rw [all_take hlt, ha2, hv]; rfl, Cx.to x⟩
    · have hlt2 : ¬ (i : Int) < g.Blocks.length := by omega
      rw [List.take_of_length_le (by omega)] at ha2
      have hi2 : i = g.Blocks.length := by omega
      rw [hi2] at s3
      repeat' (first
       | with_reducible refine stp ?_
       | with_reducible refine k_blk_o rfl ?_
       | with_reducible refine k_seq_n ?_
       | ((try (conv => arg 1; simp [s1, s3, s32, s33, b2, hlt2, ltS, nm_ne])); with_reducible refine evp ?_)
       | ((with_reducible refine apn ?na ?_); (case na => simp [appNames, ints, intss] <;> first | kernel_rfl | (refine ⟨?_, ?_⟩ <;> kernel_rfl)))
       | fail)
      refine dr_bool ?_
      simp only [graphOk, hk, ha2, Bool.true_and, Bool.and_true]
      rw [Bool.eq_iff_iff]
      simp
      omega
end Go.Proofs.Ytlmlkkkgcbpaoaa.AM

/-
  Blocks that fall through: how many.
-/
set_option linter.unusedVariables false
set_option linter.unusedSimpArgs false
set_option maxRecDepth 4000
namespace Go.Proofs.Ytlmlkkkgcbpaoaa.AM
open Go.RowKit

private def MG13 : FuncId → Mode := fun f => .tree

def isFall (b : Block) (i : Nat) : Bool := !decide (b.Jump = 2) && decide (b.To = (i : Int) + 1)
def fallsN (l : List Block) : Nat → Nat
  | 0 => 0
  | i + 1 => fallsN l i + (if ((l[i]?).map fun b => isFall b i) = some true then 1 else 0)
theorem fallsN_le (l : List Block) : ∀ i, fallsN l i ≤ i
  | 0 => Nat.le_refl _
  | i + 1 => by
    have := fallsN_le l i
    unfold fallsN
    split <;> omega
def falls (g : Graph) : Int := if graphOk g = true then fallsN g.Blocks g.Blocks.length else -1

set_option maxHeartbeats 2000000 in
theorem specFalls (g : Graph) (d : g.Small) : Pure Try.prog 12 [.agg (g.cells true)] (.int .i64 (falls g)) := by
  intro T
  have d2 := d.len
  have G := graphOkSpec g d.fit
  refine enter mixed MG13 Try.func12 rfl (by kernel_rfl) rfl ?_
  repeat' (first
   | with_reducible refine stp ?_
   | with_reducible refine k_blk_o rfl ?_
   | ((try (conv => arg 1; simp [Graph.cells])); with_reducible refine evp ?_)
   | ((with_reducible refine apn ?na ?_); (case na => simp [appNames, ints, intss] <;> first | kernel_rfl | (refine ⟨?_, ?_⟩ <;> kernel_rfl)))
   | fail)
  refine cx_k (Cx.mt.next.box_one (T := T) (i := 0) Cx.mt.off (by simp)) ?_
  intro h1 x1
  have b1 := x1.bxs
  simp only [Bxs] at b1
  cases hk : graphOk g with
  | false =>
    rw [hk] at G
    repeat' (first
     | with_reducible refine stp ?_
     | with_reducible refine k_blk_o rfl ?_
     | with_reducible refine k_seq_n ?_
     | ((try (conv => arg 1; simp [b1])); with_reducible refine evp ?_)
     | ((with_reducible refine apn ?na ?_); (case na => simp [appNames, ints, intss] <;> first | kernel_rfl | (refine ⟨?_, ?_⟩ <;> kernel_rfl)))
     | ((with_reducible refine tcl ?_); first | ((apply tg (G)); (case e => rfl); (case d => (refine dq ?_); (repeat' (first | ((refine Da.mk ?_); first | exact dr_blocks (by simp) _ | assumption) | constructor)))))
     | fail)
    rw [show falls g = -1 by simp [falls, hk]]
    exact .int _ _
  | true =>
    rw [hk] at G
    repeat' (first
     | with_reducible refine stp ?_
     | with_reducible refine k_blk_o rfl ?_
     | with_reducible refine k_seq_n ?_
     | ((try (conv => arg 1; simp [b1])); with_reducible refine evp ?_)
     | ((with_reducible refine apn ?na ?_); (case na => simp [appNames, ints, intss] <;> first | kernel_rfl | (refine ⟨?_, ?_⟩ <;> kernel_rfl)))
     | ((with_reducible refine tcl ?_); first | ((apply tg (G)); (case e => rfl); (case d => (refine dq ?_); (repeat' (first | ((refine Da.mk ?_); first | exact dr_blocks (by simp) _ | assumption) | constructor)))))
     | fail)
    refine st_loop (fun (i : Nat) σ h => i ≤ g.Blocks.length ∧ σ 1 = .ptr (T, 0, 0) 0 0 0 ∧ σ 3 = .int .i64 (fallsN g.Blocks i) ∧ σ 4 = .int .i64 i ∧ Cx h [((T, 0, 0), graphRow g)] []) (fun i => g.Blocks.length - i) 0 ?init ?step
    case init => exact ⟨Nat.zero_le _, by simp, by simp [fallsN], by simp, Cx.to x1⟩
    case step =>
      rintro i σ h ⟨hi, s1, s3, s4, x⟩
      have b2 := x.bxs
      simp only [Bxs, graphRow] at b2
      have hf := fallsN_le g.Blocks i
      by_cases hlt : i < g.Blocks.length
      · have hlt2 : (i : Int) < g.Blocks.length := by omega
        have hx : g.Blocks[i]? = some g.Blocks[i] := by simp
        have hlen := block_len true g.Blocks[i]
        have hw : IntKind.i64.wrap (i + 1) = i + 1 := wrap_id (by omega) (by omega)
        have hw2 : IntKind.i64.wrap ((fallsN g.Blocks i : Int) + 1) = fallsN g.Blocks i + 1 := wrap_id (by omega) (by omega)
        by_cases hj : g.Blocks[i].Jump = 2
        · skip
          repeat' (first
           | with_reducible refine stp ?_
           | with_reducible refine k_blk_o rfl ?_
           | with_reducible refine k_seq_n ?_
           | ((try (conv => arg 1; simp [s1, s3, s4, b2, hlt2, hx, hlen, hj, blocks, Block.cells, hw, ltS, nm_ne])); with_reducible refine evp ?_)
           | ((with_reducible refine apn ?na ?_); (case na => simp [appNames, ints, intss] <;> first | kernel_rfl | (refine ⟨?_, ?_⟩ <;> kernel_rfl)))
           | fail)
          refine k_lp_n (i + 1) (by omega) ⟨by omega, by simp [s1], by simp [s3, fallsN, hx, isFall, hj], by simp, Cx.to x⟩
        · by_cases ht : g.Blocks[i].To = (i : Int) + 1
          · skip
            repeat' (first
             | with_reducible refine stp ?_
             | with_reducible refine k_blk_o rfl ?_
             | with_reducible refine k_seq_n ?_
             | ((try (conv => arg 1; simp [s1, s3, s4, b2, hlt2, hx, hlen, hj, ht, blocks, Block.cells, hw, hw2, ltS, nm_ne])); with_reducible refine evp ?_)
             | ((with_reducible refine apn ?na ?_); (case na => simp [appNames, ints, intss] <;> first | kernel_rfl | (refine ⟨?_, ?_⟩ <;> kernel_rfl)))
             | fail)
            refine k_lp_n (i + 1) (by omega) ⟨by omega, by simp [s1], by simp [fallsN, hx, isFall, hj, ht], by simp, Cx.to x⟩
          · skip
            repeat' (first
             | with_reducible refine stp ?_
             | with_reducible refine k_blk_o rfl ?_
             | with_reducible refine k_seq_n ?_
             | ((try (conv => arg 1; simp [s1, s3, s4, b2, hlt2, hx, hlen, hj, ht, blocks, Block.cells, hw, ltS, nm_ne])); with_reducible refine evp ?_)
             | ((with_reducible refine apn ?na ?_); (case na => simp [appNames, ints, intss] <;> first | kernel_rfl | (refine ⟨?_, ?_⟩ <;> kernel_rfl)))
             | fail)
            refine k_lp_n (i + 1) (by omega) ⟨by omega, by simp [s1], by simp [s3, fallsN, hx, isFall, hj, ht], by simp, Cx.to x⟩
      · have hlt2 : ¬ (i : Int) < g.Blocks.length := by omega
        have hi2 : i = g.Blocks.length := by omega
        rw [hi2] at s3
        repeat' (first
         | with_reducible refine stp ?_
         | with_reducible refine k_blk_o rfl ?_
         | with_reducible refine k_seq_n ?_
         | ((try (conv => arg 1; simp [s1, s3, s4, b2, hlt2, ltS, nm_ne])); with_reducible refine evp ?_)
         | ((with_reducible refine apn ?na ?_); (case na => simp [appNames, ints, intss] <;> first | kernel_rfl | (refine ⟨?_, ?_⟩ <;> kernel_rfl)))
         | fail)
        rw [show falls g = fallsN g.Blocks g.Blocks.length by simp [falls, hk]]
        exact .int _ _

set_option maxHeartbeats 2000000 in
theorem implFalls (g : Graph) (d : g.Small) : Pure Try.prog 14 [.agg (g.cells true)] (.int .i64 (falls g)) := by
  intro T
  have d2 := d.len
  have G := isGraph g d
  refine enter mixed MG13 Try.func14 rfl (by kernel_rfl) rfl ?_
  repeat' (first
   | with_reducible refine stp ?_
   | with_reducible refine k_blk_o rfl ?_
   | ((try (conv => arg 1; simp [Graph.cells])); with_reducible refine evp ?_)
   | ((with_reducible refine apn ?na ?_); (case na => simp [appNames, ints, intss] <;> first | kernel_rfl | (refine ⟨?_, ?_⟩ <;> kernel_rfl)))
   | fail)
  refine cx_k (Cx.mt.next.box_one (T := T) (i := 0) Cx.mt.off (by simp)) ?_
  intro h1 x1
  have b1 := x1.bxs
  simp only [Bxs] at b1
  cases hk : graphOk g with
  | false =>
    rw [hk] at G
    repeat' (first
     | with_reducible refine stp ?_
     | with_reducible refine k_blk_o rfl ?_
     | with_reducible refine k_seq_n ?_
     | ((try (conv => arg 1; simp [b1])); with_reducible refine evp ?_)
     | ((with_reducible refine apn ?na ?_); (case na => simp [appNames, ints, intss] <;> first | kernel_rfl | (refine ⟨?_, ?_⟩ <;> kernel_rfl)))
     | ((with_reducible refine tcl ?_); first | ((apply tg (G)); (case e => rfl); (case d => (refine dq ?_); (repeat' (first | ((refine Da.mk ?_); first | exact dr_blocks (by simp) _ | assumption) | constructor)))))
     | fail)
    rw [show falls g = -1 by simp [falls, hk]]
    exact .int _ _
  | true =>
    rw [hk] at G
    repeat' (first
     | with_reducible refine stp ?_
     | with_reducible refine k_blk_o rfl ?_
     | with_reducible refine k_seq_n ?_
     | ((try (conv => arg 1; simp [b1])); with_reducible refine evp ?_)
     | ((with_reducible refine apn ?na ?_); (case na => simp [appNames, ints, intss] <;> first | kernel_rfl | (refine ⟨?_, ?_⟩ <;> kernel_rfl)))
     | ((with_reducible refine tcl ?_); first | ((apply tg (G)); (case e => rfl); (case d => (refine dq ?_); (repeat' (first | ((refine Da.mk ?_); first | exact dr_blocks (by simp) _ | assumption) | constructor)))))
     | fail)
    refine st_loop (fun (i : Nat) σ h => i ≤ g.Blocks.length ∧ σ 10 = blocks true g.Blocks ∧ σ 11 = .int .i64 g.Blocks.length ∧ σ 3 = .int .i64 (fallsN g.Blocks i) ∧ σ 12 = .int .i64 i) (fun i => g.Blocks.length - i) 0 ?init ?step
    case init => exact ⟨Nat.zero_le _, by simp, by simp, by simp [fallsN], by simp⟩
    case step =>
      rintro i σ h ⟨hi, s10, s11, s3, s12⟩
      have hf := fallsN_le g.Blocks i
      by_cases hlt : i < g.Blocks.length
      · have hlt2 : (i : Int) < g.Blocks.length := by omega
        have hx : g.Blocks[i]? = some g.Blocks[i] := by simp
        have hlen := block_len true g.Blocks[i]
        have hw : IntKind.i64.wrap (i + 1) = i + 1 := wrap_id (by omega) (by omega)
        have hw2 : IntKind.i64.wrap ((fallsN g.Blocks i : Int) + 1) = fallsN g.Blocks i + 1 := wrap_id (by omega) (by omega)
        by_cases hj : g.Blocks[i].Jump = 2
        · skip
          repeat' (first
           | with_reducible refine stp ?_
           | with_reducible refine k_blk_o rfl ?_
           | with_reducible refine k_seq_n ?_
           | ((try (conv => arg 1; simp [s10, s11, s3, s12, hlt2, hx, hlen, hj, blocks, Block.cells, hw, ltS, nm_ne])); with_reducible refine evp ?_)
           | ((with_reducible refine apn ?na ?_); (case na => simp [appNames, ints, intss] <;> first | kernel_rfl | (refine ⟨?_, ?_⟩ <;> kernel_rfl)))
           | fail)
          refine k_lp_n (i + 1) (by omega) ⟨by omega, by simp [s10], by simp [s11], by simp [s3, fallsN, hx, isFall, hj], by simp⟩
        · by_cases ht : g.Blocks[i].To = (i : Int) + 1
          · skip
            repeat' (first
             | with_reducible refine stp ?_
             | with_reducible refine k_blk_o rfl ?_
             | with_reducible refine k_seq_n ?_
             | ((try (conv => arg 1; simp [s10, s11, s3, s12, hlt2, hx, hlen, hj, ht, blocks, Block.cells, hw, hw2, ltS, nm_ne])); with_reducible refine evp ?_)
             | ((with_reducible refine apn ?na ?_); (case na => simp [appNames, ints, intss] <;> first | kernel_rfl | (refine ⟨?_, ?_⟩ <;> kernel_rfl)))
             | fail)
            refine k_lp_n (i + 1) (by omega) ⟨by omega, by simp [s10], by simp [s11], by simp [fallsN, hx, isFall, hj, ht], by simp⟩
          · skip
            repeat' (first
             | with_reducible refine stp ?_
             | with_reducible refine k_blk_o rfl ?_
             | with_reducible refine k_seq_n ?_
             | ((try (conv => arg 1; simp [s10, s11, s3, s12, hlt2, hx, hlen, hj, ht, blocks, Block.cells, hw, ltS, nm_ne])); with_reducible refine evp ?_)
             | ((with_reducible refine apn ?na ?_); (case na => simp [appNames, ints, intss] <;> first | kernel_rfl | (refine ⟨?_, ?_⟩ <;> kernel_rfl)))
             | fail)
            refine k_lp_n (i + 1) (by omega) ⟨by omega, by simp [s10], by simp [s11], by simp [s3, fallsN, hx, isFall, hj, ht], by simp⟩
      · have hlt2 : ¬ (i : Int) < g.Blocks.length := by omega
        have hi2 : i = g.Blocks.length := by omega
        rw [hi2] at s3
        repeat' (first
         | with_reducible refine stp ?_
         | with_reducible refine k_blk_o rfl ?_
         | with_reducible refine k_seq_n ?_
         | ((try (conv => arg 1; simp [s3, s11, s12, hlt2])); with_reducible refine evp ?_)
         | ((with_reducible refine apn ?na ?_); (case na => simp [appNames, ints, intss] <;> first | kernel_rfl | (refine ⟨?_, ?_⟩ <;> kernel_rfl)))
         | fail)
        rw [show falls g = fallsN g.Blocks g.Blocks.length by simp [falls, hk]]
        exact .int _ _
end Go.Proofs.Ytlmlkkkgcbpaoaa.AM

/-
  Graphs as the laws' arguments.
-/
set_option linter.unusedVariables false
set_option linter.unusedSimpArgs false
set_option maxRecDepth 4000
namespace Go.Proofs.Ytlmlkkkgcbpaoaa.AM
open Go.RowKit

theorem drs_graphL {c b : Bool} {rows : Nm → Option Row} (g : Graph) (hb : b = true → c = true) : DRs c rows (g.cells b) (g.cells c) := drs_graph hb g
theorem shp_instr {cells : List AV} (h : Shp Try.prog 156 cells) : ∃ x : Instr, cells = x.cells ∧ x.Text.size ≤ maxLen := by
  have hs : stTys Try.prog 156 = some [3, 3, 3, 3, 3, 3, 9] := by kernel_rfl
  obtain ⟨p0, q0, rfl, s0, p1, q1, rfl, s1, p2, q2, rfl, s2, p3, q3, rfl, s3, p4, q4, rfl, s4, p5, q5, rfl, s5, p6, q6, rfl, s6, rfl⟩ := h.st_inv hs
  obtain ⟨a0, rfl, g0⟩ := s0.int_inv und_3
  obtain ⟨a1, rfl, g1⟩ := s1.int_inv und_3
  obtain ⟨a2, rfl, g2⟩ := s2.int_inv und_3
  obtain ⟨a3, rfl, g3⟩ := s3.int_inv und_3
  obtain ⟨a4, rfl, g4⟩ := s4.int_inv und_3
  obtain ⟨a5, rfl, g5⟩ := s5.int_inv und_3
  obtain ⟨a6, rfl, g6⟩ := s6.str_inv und_9
  exact ⟨⟨a0, a1, a2, a3, a4, a5, a6⟩, rfl, g6⟩
theorem shp_block {cells : List AV} (h : Shp Try.prog 80 cells) : ∃ x : Block, cells = x.cells true ∧ (x.Code.length ≤ maxLen ∧ ∀ y ∈ x.Code, y.Text.size ≤ maxLen) := by
  have hs : stTys Try.prog 80 = some [78, 3, 3, 3, 3] := by kernel_rfl
  obtain ⟨p0, q0, rfl, s0, p1, q1, rfl, s1, p2, q2, rfl, s2, p3, q3, rfl, s3, p4, q4, rfl, s4, rfl⟩ := h.st_inv hs
  obtain ⟨elems, rfl, g0, g0'⟩ := s0.sl_inv und_78
  obtain ⟨a1, rfl, g1⟩ := s1.int_inv und_3
  obtain ⟨a2, rfl, g2⟩ := s2.int_inv und_3
  obtain ⟨a3, rfl, g3⟩ := s3.int_inv und_3
  obtain ⟨a4, rfl, g4⟩ := s4.int_inv und_3
  obtain ⟨ws, rfl, gw⟩ := unmap Instr.cells (fun w => w.Text.size ≤ maxLen) elems fun y hy => shp_instr (g0' y hy)
  exact ⟨⟨ws, a1, a2, a3, a4⟩, rfl, by simpa using g0, gw⟩
theorem shp_graph {cells : List AV} (h : Shp Try.prog 25 cells) : ∃ g : Graph, cells = g.cells true ∧ g.Data := by
  have hs : stTys Try.prog 25 = some [22, 3, 3, 3, 23] := by kernel_rfl
  obtain ⟨p0, q0, rfl, s0, p1, q1, rfl, s1, p2, q2, rfl, s2, p3, q3, rfl, s3, p4, q4, rfl, s4, rfl⟩ := h.st_inv hs
  obtain ⟨a0, rfl, g0, g0'⟩ := s0.ints_inv und_22 und_3
  obtain ⟨a1, rfl, g1⟩ := s1.int_inv und_3
  obtain ⟨a2, rfl, g2⟩ := s2.int_inv und_3
  obtain ⟨a3, rfl, g3⟩ := s3.int_inv und_3
  obtain ⟨elems, rfl, g4, g4'⟩ := s4.sl_inv und_23
  obtain ⟨ws, rfl, gw⟩ := unmap (Block.cells true) (fun x => x.Code.length ≤ maxLen ∧ ∀ y ∈ x.Code, y.Text.size ≤ maxLen) elems fun y hy => shp_block (g4' y hy)
  exact ⟨⟨a0, a1, a2, a3, ws⟩, rfl, ⟨g0, by simpa using g4, gw⟩⟩
theorem agg_graph (cells : List AV) : avOf Try.prog 25 cells = .agg cells := agg_of (by kernel_rfl) cells
theorem av3 (c : AV) : avOf Try.prog 3 [c] = c := av_oneX und_3 rfl c
theorem av22 (c : AV) : avOf Try.prog 22 [c] = c := av_oneX und_22 rfl c
end Go.Proofs.Ytlmlkkkgcbpaoaa.AM

/-
  Falls: what its law needs.
-/

/-
  Texts and steps that are marked.
-/
set_option linter.unusedVariables false
set_option linter.unusedSimpArgs false
set_option maxRecDepth 4000
namespace Go.Proofs.Ytlmlkkkgcbpaoaa.AM
open Go.RowKit

private def MG7 : FuncId → Mode := fun f => .tree

def mb (k : Nat) : Int := IntKind.u8.wrap (IntKind.i64.wrap (48 + ((k : Int).tmod 10)))
def mdig (k : Nat) (out : ByteArray) : ByteArray := if h : k = 0 then out else mdig (k / 10) (bstr [mb k] ++ out)
termination_by k
decreasing_by omega
def mtext (k : Int) : ByteArray := if k ≤ 0 then ⟨#[109, 48]⟩ else ⟨#[109]⟩ ++ mdig k.toNat ⟨#[]⟩
theorem bstr1 (n : Int) : (bstr [n]).size = 1 := rfl
theorem max64 : IntKind.i64.max = 9223372036854775807 := by kernel_rfl
theorem rg1 : List.range 1 = [0] := rfl
theorem sz109 : (ByteArray.mk #[109]).size = 1 := rfl
theorem mdig_zero (out : ByteArray) : mdig 0 out = out := by rw [mdig]; simp
theorem mdig_succ {k : Nat} (h : k ≠ 0) (out : ByteArray) : mdig k out = mdig (k / 10) (bstr [mb k] ++ out) := by
  rw [mdig, dif_neg h]

theorem markText (k : Int) (hk : k ≤ 2 ^ 62) : Pure Try.prog 117 [.int .i64 k] (.str (mtext k)) := by
  intro T
  refine enter mixed MG7 Try.func117 rfl (by kernel_rfl) rfl ?_
  by_cases h0 : k ≤ 0
  · skip
    repeat' (first
     | with_reducible refine stp ?_
     | with_reducible refine k_blk_o rfl ?_
     | with_reducible refine k_seq_n ?_
     | ((try (conv => arg 1; simp [h0])); with_reducible refine evp ?_)
     | ((with_reducible refine apn ?na ?_); (case na => simp [appNames, ints, intss] <;> first | kernel_rfl | (refine ⟨?_, ?_⟩ <;> kernel_rfl)))
     | fail)
    rw [show mtext k = ⟨#[109, 48]⟩ by simp [mtext, h0]]
    exact .str _
  obtain ⟨n, rfl⟩ : ∃ n : Nat, k = (n : Int) := ⟨k.toNat, by omega⟩
  have hn0 : ¬ n = 0 := by omega
  repeat' (first
   | with_reducible refine stp ?_
   | with_reducible refine k_blk_o rfl ?_
   | with_reducible refine k_seq_n ?_
   | ((try (conv => arg 1; simp [h0, hn0])); with_reducible refine evp ?_)
   | ((with_reducible refine apn ?na ?_); (case na => simp [appNames, ints, intss] <;> first | kernel_rfl | (refine ⟨?_, ?_⟩ <;> kernel_rfl)))
   | fail)
  refine st_loop (fun (k : Nat) σ h => σ 0 = .int .i64 k ∧ ∃ out, σ 3 = .str out ∧ out.size + k ≤ n ∧ mdig k out = mdig n ⟨#[]⟩) (fun k => k) n ?init ?step
  case init => exact ⟨by simp, ⟨#[]⟩, by simp, by simp [ByteArray.size], rfl⟩
  case step =>
    rintro k σ h ⟨s0, out, s3, hsz, hd⟩
    by_cases hk0 : k = 0
    · have hk1 : ¬ (0 : Int) < k := by omega
      have hs1 : ¬ (9223372036854775807 : Int) < 1 + out.size := by omega
      repeat' (first
       | with_reducible refine stp ?_
       | with_reducible refine k_blk_o rfl ?_
       | with_reducible refine k_seq_n ?_
       | ((try (conv => arg 1; simp [s0, s3, hk0, hk1, max64, sz109, hs1])); with_reducible refine evp ?_)
       | ((with_reducible refine apn ?na ?_); (case na => simp [appNames, ints, intss] <;> first | kernel_rfl | (refine ⟨?_, ?_⟩ <;> kernel_rfl)))
       | fail)
      rw [hk0, mdig_zero] at hd
      have e : mtext (n : Int) = ⟨#[109]⟩ ++ out := by rw [hd]; simp only [mtext, if_neg h0, Int.toNat_natCast]
      rw [e]
      exact .str _
    · have hk1 : (0 : Int) < k := by omega
      have hs1 : ¬ (9223372036854775807 : Int) < 1 + out.size := by omega
      have hq : IntKind.i64.wrap ((k : Int).tdiv 10) = ((k / 10 : Nat) : Int) := by
        rw [show (k : Int).tdiv 10 = ((k / 10 : Nat) : Int) from rfl, wrap_id (by omega) (by omega)]
      have hq2 : IntKind.i64.wrap ((k : Int) / 10) = (k : Int) / 10 := wrap_id (by omega) (by omega)
      have hmb : IntKind.u8.wrap (IntKind.i64.wrap (48 + ((k : Int).tmod 10))) = mb k := rfl
      have hkp : 0 < k := by omega
      repeat' (first
       | with_reducible refine stp ?_
       | with_reducible refine k_blk_o rfl ?_
       | with_reducible refine k_seq_n ?_
       | ((try (conv => arg 1; simp [s0, s3, hk0, hk1, hkp, max64, bstr1, hs1, hq, hq2, hmb, rg1, convA, bstrA, srcElems, bytesOf])); with_reducible refine evp ?_)
       | ((with_reducible refine apn ?na ?_); (case na => simp [appNames, ints, intss] <;> first | kernel_rfl | (refine ⟨?_, ?_⟩ <;> kernel_rfl)))
       | fail)
      refine k_lp_n (k / 10) (by omega) ⟨by simp [hq2], bstr [mb k] ++ out, by simp, ?_, ?_⟩
      · rw [ByteArray.size_append, bstr1]
        omega
      · rw [← hd, mdig_succ hk0]

def minstrs (k : Int) (n : Nat) : List Instr := (List.range n).map fun (i : Nat) => ⟨k + 7 * i, k + 7 * i + 1, k + 7 * i + 1 + 1, k + 7 * i + 1 + 1 + 1, k + 7 * i + 1 + 1 + 1 + 1, k + 7 * i + 1 + 1 + 1 + 1 + 1, mtext (k + 7 * i + 1 + 1 + 1 + 1 + 1 + 1)⟩
theorem minstrs_length (k : Int) (n : Nat) : (minstrs k n).length = n := by simp [minstrs]
theorem minstrs_get {k : Int} {n i : Nat} (h : i < n) : (minstrs k n)[i]? = some ⟨k + 7 * i, k + 7 * i + 1, k + 7 * i + 1 + 1, k + 7 * i + 1 + 1 + 1, k + 7 * i + 1 + 1 + 1 + 1, k + 7 * i + 1 + 1 + 1 + 1 + 1, mtext (k + 7 * i + 1 + 1 + 1 + 1 + 1 + 1)⟩ := by simp [minstrs, h]
theorem own_empty {rows : Nm → Option Row} {a : AV} {ns : List Nm} (h : Own rows true [a] [.tr true []] ns) : a = .nilsl ∨ ∃ n ver off, a = .sl n ver off 0 := by
  rcases own_row_inv (xs := []) (s := 2) (fun e he => by simp at he) (by omega) h with ⟨_, _, h | ⟨n, ver, off, h, _⟩⟩ | ⟨n, ver, sp, h, _⟩
  · exact .inl h.1
  · exact .inr ⟨n, ver, off, h⟩
  · exact .inr ⟨n, ver, 0, h⟩

set_option maxHeartbeats 4000000 in
theorem markInstrS {h : Hp} {bs : Bx} {os : Ox} {w : AV} {xs : List Instr} {ns : List Nm} (x : Cx h bs ((w, (fun b => instrs b xs), ns) :: os)) (k : Int) (hk : 0 ≤ k) (hl : k + 7 * xs.length ≤ 2 ^ 62) :
    Sound Try.prog 77 [w, .int .i64 k] h fun v h' => v = .int .i64 (k + 7 * xs.length) ∧ Cx h' bs ((w, (fun b => instrs b (minstrs k xs.length)), ns) :: os) := by
  by_cases hne : xs = []
  · subst hne
    have hw := own_empty (own_of (x.o0 true) rfl)
    refine enter mixed MG7 Try.func77 rfl (by kernel_rfl) rfl ?_
    repeat' (first
     | with_reducible refine stp ?_
     | with_reducible refine k_blk_o rfl ?_
     | with_reducible refine k_seq_n ?_
     | ((try (conv => arg 1; simp [hk])); with_reducible refine evp ?_)
     | ((with_reducible refine apn ?na ?_); (case na => simp [appNames, ints, intss] <;> first | kernel_rfl | (refine ⟨?_, ?_⟩ <;> kernel_rfl)))
     | fail)
    refine st_loop (fun (i : Nat) σ h' => σ 0 = w ∧ σ 1 = .int .i64 k ∧ σ 5 = .int .i64 0 ∧ Cx h' bs ((w, (fun b => instrs b []), ns) :: os)) (fun i => 0) 0 ?init ?step
    case init => exact ⟨by simp, by simp, by simp, Cx.to x⟩
    case step =>
      rintro i σ h' ⟨h0, h1, h5, x'⟩
      rcases hw with rfl | ⟨n, ver, off, rfl⟩
      all_goals
        repeat' (first
         | with_reducible refine stp ?_
         | with_reducible refine k_blk_o rfl ?_
         | with_reducible refine k_seq_n ?_
         | ((try (conv => arg 1; simp [h0, h1, h5])); with_reducible refine evp ?_)
         | ((with_reducible refine apn ?na ?_); (case na => simp [appNames, ints, intss] <;> first | kernel_rfl | (refine ⟨?_, ?_⟩ <;> kernel_rfl)))
         | fail)
        exact ⟨by simp [resV], Cx.to x'⟩
  · obtain ⟨kk, ver, sp, rfl, rfl, q1, q2, y⟩ := x.open_flat (s := 7) (l := xs.map Instr.cells) (instrs_flat xs) (by omega) (by simpa using hne)
    rw [List.length_map]
    refine enter mixed MG7 Try.func77 rfl (by kernel_rfl) rfl ?_
    repeat' (first
     | with_reducible refine stp ?_
     | with_reducible refine k_blk_o rfl ?_
     | with_reducible refine k_seq_n ?_
     | ((try (conv => arg 1; simp [hk])); with_reducible refine evp ?_)
     | ((with_reducible refine apn ?na ?_); (case na => simp [appNames, ints, intss] <;> first | kernel_rfl | (refine ⟨?_, ?_⟩ <;> kernel_rfl)))
     | fail)
    refine st_loop (fun (i : Nat) σ h' => i ≤ xs.length ∧ σ 0 = .sl kk ver 0 xs.length ∧ σ 1 = .int .i64 (k + 7 * i) ∧ σ 5 = .int .i64 i ∧ ∃ ys : List Instr, ys.length = xs.length ∧ ys.take i = (minstrs k xs.length).take i ∧
      Cx h' ((kk, ⟨ver, 7, ys.map Instr.cells ++ sp⟩) :: bs) os) (fun i => xs.length - i) 0 ?init ?step
    case init => exact ⟨Nat.zero_le _, by simp, by simp, by simp, xs, rfl, rfl, Cx.to y⟩
    case step =>
      rintro i σ h' ⟨hi, h0, h1, h5, ys, hy, hyi, x'⟩
      have b := x'.bxs
      simp only [Bxs] at b
      have br := b.1
      have bt := b.2.1
      by_cases hlt : i < xs.length
      · have hlt2 : (i : Int) < xs.length := by omega
        have hl4 : i < ys.length := by omega
        have hes2 : ∀ e : Instr, (ys.map Instr.cells ++ sp).set i e.cells = (ys.set i e).map Instr.cells ++ sp := fun e => by
          rw [List.set_append_left _ _ (by simp; omega), List.map_set]
        obtain ⟨y1, y2, y3, y4, y5, y6, y7, hy2⟩ : ∃ (y1 y2 y3 y4 y5 y6 : Int) (y7 : ByteArray), ((ys.map Instr.cells) ++ sp)[i]? = some [.int .i64 y1, .int .i64 y2, .int .i64 y3, .int .i64 y4, .int .i64 y5, .int .i64 y6, .str y7] := by
          rw [List.getElem?_append_left (by simp; omega)]
          exact ⟨ys[i].Op, ys[i].D, ys[i].A, ys[i].B, ys[i].C, ys[i].N, ys[i].Text, by simp [hlt, hy, Instr.cells]⟩
        have hw : IntKind.i64.wrap (i + 1) = i + 1 := wrap_id (by omega) (by omega)
        have w1 : IntKind.i64.wrap (k + 7 * i + 1) = k + 7 * i + 1 := wrap_id (by omega) (by omega)
        have w2 : IntKind.i64.wrap (k + 7 * i + 1 + 1) = k + 7 * i + 1 + 1 := wrap_id (by omega) (by omega)
        have w3 : IntKind.i64.wrap (k + 7 * i + 1 + 1 + 1) = k + 7 * i + 1 + 1 + 1 := wrap_id (by omega) (by omega)
        have w4 : IntKind.i64.wrap (k + 7 * i + 1 + 1 + 1 + 1) = k + 7 * i + 1 + 1 + 1 + 1 := wrap_id (by omega) (by omega)
        have w5 : IntKind.i64.wrap (k + 7 * i + 1 + 1 + 1 + 1 + 1) = k + 7 * i + 1 + 1 + 1 + 1 + 1 := wrap_id (by omega) (by omega)
        have w6 : IntKind.i64.wrap (k + 7 * i + 1 + 1 + 1 + 1 + 1 + 1) = k + 7 * i + 1 + 1 + 1 + 1 + 1 + 1 := wrap_id (by omega) (by omega)
        have w7 : IntKind.i64.wrap (k + 7 * i + 1 + 1 + 1 + 1 + 1 + 1 + 1) = k + 7 * i + 1 + 1 + 1 + 1 + 1 + 1 + 1 := wrap_id (by omega) (by omega)
        have mt := markText (k + 7 * i + 1 + 1 + 1 + 1 + 1 + 1) (by omega)
        have hes2 := hes2 ⟨k + 7 * i, k + 7 * i + 1, k + 7 * i + 1 + 1, k + 7 * i + 1 + 1 + 1, k + 7 * i + 1 + 1 + 1 + 1, k + 7 * i + 1 + 1 + 1 + 1 + 1, mtext (k + 7 * i + 1 + 1 + 1 + 1 + 1 + 1)⟩
        have hlen : i < ((ys.map Instr.cells) ++ sp).length := by simp; omega
        generalize (ys.map Instr.cells) ++ sp = es at x' br hy2 hes2 hlen
        have hset : ∀ e, (es.set i e)[i]? = some e := fun e => List.getElem?_set_self hlen
        clear b
        repeat' (first
         | with_reducible refine stp ?_
         | with_reducible refine k_blk_o rfl ?_
         | with_reducible refine k_seq_n ?_
         | ((try (conv => arg 1; simp [h0, h1, h5, br, bt, hlt, hlt2, hy2, hset, hw, w1, w2, w3, w4, w5, w6, w7, ltS, nm_ne])); with_reducible refine evp ?_)
         | ((with_reducible refine apn ?na ?_); (case na => simp [appNames, ints, intss] <;> first | kernel_rfl | (refine ⟨?_, ?_⟩ <;> kernel_rfl)))
         | ((with_reducible refine tcl ?_); first | ((apply tg (mt)); (case e => rfl); (case d => (refine dq ?_); (repeat' (first | ((refine Da.mk ?_); first | assumption) | constructor)))))
         | fail)
        refine k_lp_n (i + 1) (by omega) ⟨by omega, by simp [h0], by simp; omega, by simp, ys.set i ⟨k + 7 * i, k + 7 * i + 1, k + 7 * i + 1 + 1, k + 7 * i + 1 + 1 + 1, k + 7 * i + 1 + 1 + 1 + 1, k + 7 * i + 1 + 1 + 1 + 1 + 1, mtext (k + 7 * i + 1 + 1 + 1 + 1 + 1 + 1)⟩, by simp [hy], ?_, ?_⟩
        · rw [List.take_add_one, List.take_add_one, minstrs_get hlt]
          simp [hyi, hy, hlt, List.take_set_of_le]
        · rw [← hes2]
          exact Cx.to x'
      · have hge : i = xs.length := by omega
        have hlt2 : ¬ (i : Int) < xs.length := by omega
        have e1 : ys = minstrs k xs.length := by
          subst hge
          rw [List.take_of_length_le (by omega), List.take_of_length_le (by simp [minstrs_length])] at hyi
          exact hyi
        repeat' (first
         | with_reducible refine stp ?_
         | with_reducible refine k_blk_o rfl ?_
         | with_reducible refine k_seq_n ?_
         | ((try (conv => arg 1; simp [h0, h1, h5, hlt2])); with_reducible refine evp ?_)
         | ((with_reducible refine apn ?na ?_); (case na => simp [appNames, ints, intss] <;> first | kernel_rfl | (refine ⟨?_, ?_⟩ <;> kernel_rfl)))
         | fail)
        rw [e1] at x'
        have z := x'.close_flat (instrs_flat _) q1 q2
        rw [List.length_map, minstrs_length] at z
        exact ⟨by simp [resV, hge], Cx.to z⟩
end Go.Proofs.Ytlmlkkkgcbpaoaa.AM

/-
  Blocks and graphs that are marked.
-/
set_option linter.unusedVariables false
set_option linter.unusedSimpArgs false
set_option maxRecDepth 4000
namespace Go.Proofs.Ytlmlkkkgcbpaoaa.AM
open Go.RowKit

private def MG16 : FuncId → Mode := fun f => if f = 77 ∨ f = 44 ∨ f = 21 then .heap else .tree

theorem Cx.block_split {h : Hp} {bs : Bx} {os : Ox} {l : List AV} {n : List Nm} {c : Block} (x : Cx h bs ((.agg l, (fun b => .agg (c.cells b)), n) :: os)) :
    ∃ w, l = [w, .int .i64 c.Jump, .int .i64 c.A, .int .i64 c.To, .int .i64 c.Else] ∧ Cx h bs ((w, (fun b => instrs b c.Code), n) :: os) := by
  obtain ⟨w, e, o⟩ := ownV_block (x.o0 true)
  cases e
  refine ⟨w, rfl, x.box, fun y hy b => ?_, x.nd, x.lt⟩
  simp only [List.mem_cons] at hy
  rcases hy with rfl | hy
  · obtain ⟨w', e', o'⟩ := ownV_block (x.o0 b)
    cases e'
    exact .one o'
  · exact x.own y (by simp [hy]) b
theorem Cx.graph_split {h : Hp} {bs : Bx} {os : Ox} {l : List AV} {n : List Nm} {g : Graph} (x : Cx h bs ((.agg l, (fun b => .agg (g.cells b)), n) :: os)) :
    ∃ w1 w2 n1 n2, l = [w1, .int .i64 g.Params, .int .i64 g.Vars, .int .i64 g.Slots, w2] ∧ n = n1 ++ n2 ∧ Cx h bs ((w1, (fun b => ints b g.Sizes), n1) :: (w2, (fun b => blocks b g.Blocks), n2) :: os) := by
  obtain ⟨w1, w2, n1, n2, e, en, o1, o2⟩ := ownV_graph (x.o0 true)
  cases e
  subst en
  refine ⟨w1, w2, n1, n2, rfl, rfl, x.box, fun y hy b => ?_, ?_, fun m hm => x.lt m ?_⟩
  · simp only [List.mem_cons] at hy
    rcases hy with rfl | rfl | hy
    · obtain ⟨w1', w2', m1, m2, e', _, p1, p2⟩ := ownV_graph (x.o0 b)
      cases e'
      rw [o1.det p1] at p1
      exact .one p1
    · obtain ⟨w1', w2', m1, m2, e', _, p1, p2⟩ := ownV_graph (x.o0 b)
      cases e'
      rw [o2.det p2] at p2
      exact .one p2
    · exact x.own y (by simp [hy]) b
  · have := x.nd
    simpa [nms, List.append_assoc] using this
  · simpa [nms, List.append_assoc] using hm

def bwt (b : Block) : Nat := 7 * b.Code.length + 4
def mblock (k : Int) (b : Block) : Block := ⟨minstrs k b.Code.length, k + 7 * b.Code.length, k + 7 * b.Code.length + 1, k + 7 * b.Code.length + 1 + 1, k + 7 * b.Code.length + 1 + 1 + 1⟩
def mblocks (k : Int) (xs : List Block) : List Block := (List.range xs.length).map fun i => match xs[i]? with | some b => mblock (k + gsum bwt xs i) b | none => ⟨[], 0, 0, 0, 0⟩
theorem mblocks_length (k : Int) (xs : List Block) : (mblocks k xs).length = xs.length := by simp [mblocks]
theorem mblocks_get {k : Int} {xs : List Block} {i : Nat} (h : i < xs.length) : (mblocks k xs)[i]? = some (mblock (k + gsum bwt xs i) xs[i]) := by simp [mblocks, h]
theorem five_flat {b : Bool} (l : List Block) : (l.map (Block.cells b)).flatten.length = l.length * 5 := by
  rw [flatten_len (s := 5) _ (fun e he => by simp at he; obtain ⟨a, _, rfl⟩ := he; rfl), List.length_map]

set_option maxHeartbeats 4000000 in
theorem markBlockS {h : Hp} {bs : Bx} {os : Ox} {w : AV} {xs : List Block} {ns : List Nm} (x : Cx h bs ((w, (fun b => blocks b xs), ns) :: os)) (k : Int) (hk : 0 ≤ k) (hl : k + gsum bwt xs xs.length ≤ 2 ^ 62) (hlx : xs.length ≤ 2 ^ 62) :
    Sound Try.prog 44 [w, .int .i64 k] h fun v h' => v = .int .i64 (k + gsum bwt xs xs.length) ∧ Cx h' bs ((w, (fun b => blocks b (mblocks k xs)), ns) :: os) := by
  by_cases hne : xs = []
  · subst hne
    have hw := own_empty (own_of (x.o0 true) rfl)
    refine enter mixed MG16 Try.func44 rfl (by kernel_rfl) rfl ?_
    repeat' (first
     | with_reducible refine stp ?_
     | with_reducible refine k_blk_o rfl ?_
     | with_reducible refine k_seq_n ?_
     | ((try (conv => arg 1; simp [hk])); with_reducible refine evp ?_)
     | ((with_reducible refine apn ?na ?_); (case na => simp [appNames, ints, intss] <;> first | kernel_rfl | (refine ⟨?_, ?_⟩ <;> kernel_rfl)))
     | fail)
    refine st_loop (fun (i : Nat) σ h' => σ 0 = w ∧ σ 1 = .int .i64 k ∧ σ 5 = .int .i64 0 ∧ Cx h' bs ((w, (fun b => blocks b []), ns) :: os)) (fun i => 0) 0 ?init ?step
    case init => exact ⟨by simp, by simp, by simp, Cx.to x⟩
    case step =>
      rintro i σ h' ⟨h0, h1, h5, x'⟩
      rcases hw with rfl | ⟨n, ver, off, rfl⟩
      all_goals
        repeat' (first
         | with_reducible refine stp ?_
         | with_reducible refine k_blk_o rfl ?_
         | with_reducible refine k_seq_n ?_
         | ((try (conv => arg 1; simp [h0, h1, h5])); with_reducible refine evp ?_)
         | ((with_reducible refine apn ?na ?_); (case na => simp [appNames, ints, intss] <;> first | kernel_rfl | (refine ⟨?_, ?_⟩ <;> kernel_rfl)))
         | fail)
        exact ⟨by simp [resV, gsum], Cx.to x'⟩
  · obtain ⟨kk, ver, es, sp, ns1, rfl, rfl, hel, he5, q1, q2, y⟩ := x.open_row (s := 5) (ts := fun b => xs.map (Block.cells b)) (by omega) (fun b t ht => by simp at ht; obtain ⟨a, _, rfl⟩ := ht; rfl) (by simpa using hne)
    have hel2 : es.length = xs.length := by simpa using hel
    rw [hel2]
    refine enter mixed MG16 Try.func44 rfl (by kernel_rfl) rfl ?_
    repeat' (first
     | with_reducible refine stp ?_
     | with_reducible refine k_blk_o rfl ?_
     | with_reducible refine k_seq_n ?_
     | ((try (conv => arg 1; simp [hk])); with_reducible refine evp ?_)
     | ((with_reducible refine apn ?na ?_); (case na => simp [appNames, ints, intss] <;> first | kernel_rfl | (refine ⟨?_, ?_⟩ <;> kernel_rfl)))
     | fail)
    refine st_loop (fun (i : Nat) σ h' => i ≤ xs.length ∧ σ 0 = .sl kk ver 0 xs.length ∧ σ 1 = .int .i64 (k + gsum bwt xs i) ∧ σ 5 = .int .i64 i ∧ ∃ es : List (List AV), es.length = xs.length ∧ (∀ e ∈ es, e.length = 5) ∧
      Cx h' ((kk, ⟨ver, 5, es ++ sp⟩) :: bs) ((.agg es.flatten, (fun b => .agg (((mblocks k xs).take i ++ xs.drop i).map (Block.cells b)).flatten), ns1) :: os)) (fun i => xs.length - i) 0 ?init ?step
    case init => exact ⟨Nat.zero_le _, by simp, by simp [gsum_zero], by simp, es, hel2, he5, Cx.to y⟩
    case step =>
      rintro i σ h' ⟨hi, h0, h1, h5, es, hle, he5, y⟩
      by_cases hlt : i < xs.length
      · have hlt2 : (i : Int) < xs.length := by omega
        have hg := gsum_succ bwt xs i hlt
        have hg2 := gsum_le bwt xs (i + 1)
        have hb : bwt xs[i] = 7 * xs[i].Code.length + 4 := rfl
        have ees : es = es.take i ++ (es[i] :: es.drop (i + 1)) := by rw [← List.drop_eq_getElem_cons (by omega), List.take_append_drop]
        have exs : xs.drop i = xs[i] :: xs.drop (i + 1) := List.drop_eq_getElem_cons hlt
        have f1 : es.flatten = (es.take i).flatten ++ (es[i] ++ (es.drop (i + 1)).flatten) := by
          have := congrArg List.flatten ees
          rw [List.flatten_append, List.flatten_cons] at this
          exact this
        have f2 : ∀ b, (((mblocks k xs).take i ++ xs.drop i).map (Block.cells b)).flatten = (((mblocks k xs).take i).map (Block.cells b)).flatten ++ (xs[i].cells b ++ ((xs.drop (i + 1)).map (Block.cells b)).flatten) := fun b => by
          rw [exs, List.map_append, List.flatten_append, List.map_cons, List.flatten_cons]
        have y0 := y
        rw [f1] at y0
        simp only [f2] at y0
        have ht5 : (es.take i).flatten.length = i * 5 := by rw [flatten_len (s := 5) _ (fun e he => he5 e (List.mem_of_mem_take he))]; simp; omega
        obtain ⟨m1, m2, en1, y1⟩ := Cx.agg_split (t1 := fun b => (((mblocks k xs).take i).map (Block.cells b)).flatten) (t2 := fun b => xs[i].cells b ++ ((xs.drop (i + 1)).map (Block.cells b)).flatten) (fun b => by rw [five_flat, ht5]; simp [mblocks_length]; omega) y0
        obtain ⟨m3, m4, en2, y2⟩ := Cx.agg_split (t1 := fun b => xs[i].cells b) (t2 := fun b => ((xs.drop (i + 1)).map (Block.cells b)).flatten) (fun b => by rw [block_len, he5 _ (List.getElem_mem _)]) y1
        obtain ⟨w, ew, y3⟩ := Cx.block_split y2.rot1
        have qw := own_one' (own_of (y3.o0 true) rfl)
        have hx : (es ++ sp)[i]? = some [w, .int .i64 xs[i].Jump, .int .i64 xs[i].A, .int .i64 xs[i].To, .int .i64 xs[i].Else] := by
          rw [List.getElem?_append_left (by omega), List.getElem?_eq_getElem (by omega), ew]
        have b := y3.bxs
        simp only [Bxs] at b
        have br := b.1
        have bt := b.2.1
        clear b
        repeat' (first
         | with_reducible refine stp ?_
         | with_reducible refine k_blk_o rfl ?_
         | with_reducible refine k_seq_n ?_
         | ((try (conv => arg 1; simp [h0, h1, h5, br, bt, hlt, hlt2, hx, qw.1, ltS, nm_ne])); with_reducible refine evp ?_)
         | ((with_reducible refine apn ?na ?_); (case na => simp [appNames, ints, intss] <;> first | kernel_rfl | (refine ⟨?_, ?_⟩ <;> kernel_rfl)))
         | fail)
        refine st_heap rfl (markInstrS y3.next.next (k + gsum bwt xs i) (by omega) (by omega)) ?_
        rintro v h2 ⟨rfl, y4⟩
        have b := y4.bxs
        simp only [Bxs] at b
        have br := b.1
        have bt := b.2.1
        clear b
        have hlen : i < (es ++ sp).length := by simp; omega
        have hset : ∀ e, ((es ++ sp).set i e)[i]? = some e := fun e => List.getElem?_set_self hlen
        have hes2 : ∀ e : List AV, (es ++ sp).set i e = es.set i e ++ sp := fun e => List.set_append_left _ _ (by omega)
        have hw : IntKind.i64.wrap (i + 1) = i + 1 := wrap_id (by omega) (by omega)
        generalize hK : (k : Int) + gsum bwt xs i + 7 * xs[i].Code.length = K at *
        have w1 : IntKind.i64.wrap (K + 1) = K + 1 := wrap_id (by omega) (by omega)
        have w2 : IntKind.i64.wrap (K + 1 + 1) = K + 1 + 1 := wrap_id (by omega) (by omega)
        have w3 : IntKind.i64.wrap (K + 1 + 1 + 1) = K + 1 + 1 + 1 := wrap_id (by omega) (by omega)
        have w4 : IntKind.i64.wrap (K + 1 + 1 + 1 + 1) = K + 1 + 1 + 1 + 1 := wrap_id (by omega) (by omega)
        have hes2 := hes2 [w, .int .i64 K, .int .i64 (K + 1), .int .i64 (K + 1 + 1), .int .i64 (K + 1 + 1 + 1)]
        generalize hE : es ++ sp = E at y4 br hx hes2 hlen hset
        repeat' (first
         | with_reducible refine stp ?_
         | with_reducible refine k_blk_o rfl ?_
         | with_reducible refine k_seq_n ?_
         | ((try (conv => arg 1; simp [h0, h1, h5, br, bt, hlt, hlt2, hx, hset, hw, w1, w2, w3, w4, qw.1, ltS, nm_ne])); with_reducible refine evp ?_)
         | ((with_reducible refine apn ?na ?_); (case na => simp [appNames, ints, intss] <;> first | kernel_rfl | (refine ⟨?_, ?_⟩ <;> kernel_rfl)))
         | fail)
        refine k_lp_n (i + 1) (by omega) ⟨by omega, by simp [h0], by simp; omega, by simp, es.set i [w, .int .i64 K, .int .i64 (K + 1), .int .i64 (K + 1 + 1), .int .i64 (K + 1 + 1 + 1)], by simp [hle], fun e he => ?_, ?_⟩
        · rcases List.mem_or_eq_of_mem_set he with he | rfl
          · exact he5 e he
          · rfl
        have eM : mblock (k + gsum bwt xs i) xs[i] = ⟨minstrs (k + gsum bwt xs i) xs[i].Code.length, K, K + 1, K + 1 + 1, K + 1 + 1 + 1⟩ := by simp only [mblock, hK]
        have y5 := (y4.block_join (c := mblock (k + gsum bwt xs i) xs[i])).perm (List.Perm.swap _ _ _)
        have y6 := (Cx.agg_app y5).agg_app
        have f3 : (es.set i [w, .int .i64 K, .int .i64 (K + 1), .int .i64 (K + 1 + 1), .int .i64 (K + 1 + 1 + 1)]).flatten = (es.take i).flatten ++ ([w, .int .i64 K, .int .i64 (K + 1), .int .i64 (K + 1 + 1), .int .i64 (K + 1 + 1 + 1)] ++ (es.drop (i + 1)).flatten) := by
          rw [List.set_eq_take_append_cons_drop, if_pos (by omega)]
          simp
        have f4 : ∀ b, (((mblocks k xs).take (i + 1) ++ xs.drop (i + 1)).map (Block.cells b)).flatten = (((mblocks k xs).take i).map (Block.cells b)).flatten ++ ((mblock (k + gsum bwt xs i) xs[i]).cells b ++ ((xs.drop (i + 1)).map (Block.cells b)).flatten) := fun b => by
          rw [List.take_add_one, mblocks_get hlt]; simp
        rw [f3, en1, en2, ← hes2]
        simp only [f4]
        rw [eM] at y6 ⊢
        exact Cx.to y6
      · have hge : i = xs.length := by omega
        have hlt2 : ¬ (i : Int) < xs.length := by omega
        repeat' (first
         | with_reducible refine stp ?_
         | with_reducible refine k_blk_o rfl ?_
         | with_reducible refine k_seq_n ?_
         | ((try (conv => arg 1; simp [h0, h1, h5, hlt2])); with_reducible refine evp ?_)
         | ((with_reducible refine apn ?na ?_); (case na => simp [appNames, ints, intss] <;> first | kernel_rfl | (refine ⟨?_, ?_⟩ <;> kernel_rfl)))
         | fail)
        rw [hge, List.take_of_length_le (by rw [mblocks_length]; omega), List.drop_of_length_le (Nat.le_refl _), List.append_nil] at y
        have z := y.close_row (ts := fun b => (mblocks k xs).map (Block.cells b)) he5 (fun b => by simp [mblocks_length, hle]) (fun b t ht => by simp at ht; obtain ⟨a, _, rfl⟩ := ht; rfl) q1 q2
        rw [hle] at z
        exact ⟨by simp [resV, hge], Cx.to z⟩

def Graph.tot (g : Graph) : Nat := g.Sizes.length + gsum bwt g.Blocks g.Blocks.length
def mgraph (k : Int) (g : Graph) : Graph := { g with Sizes := marks k g.Sizes.length, Blocks := mblocks (k + g.Sizes.length) g.Blocks }
theorem bwt_sum (xs : List Block) (i : Nat) (hi : i ≤ xs.length) : gsum bwt xs i ≤ 7 * gsum wtB xs i + 4 * i := by
  induction i with
  | zero => simp [gsum_zero]
  | succ i ih =>
    have h1 := gsum_succ bwt xs i (by omega)
    have h2 := gsum_succ wtB xs i (by omega)
    have h3 : xs[i].Code.length ≤ wtB xs[i] := wtIS_len
    have h4 : bwt xs[i] = 7 * xs[i].Code.length + 4 := rfl
    have := ih (by omega)
    omega
theorem Graph.Small.tot {g : Graph} (h : g.Small) : g.tot ≤ 2 ^ 24 := by
  have h1 := h.sizes
  have h2 := h.blocks
  have h3 := bwt_sum g.Blocks g.Blocks.length (Nat.le_refl _)
  unfold wtBS at h2
  unfold Graph.tot
  omega

set_option maxHeartbeats 1000000 in
theorem markGraph {h : Hp} {bs : Bx} {os : Ox} {l : List AV} {ns : List Nm} {g : Graph} (x : Cx h bs ((.agg l, (fun b => .agg (g.cells b)), ns) :: os)) (hs : g.Small) (k : Int) (hk : 0 ≤ k) (hk2 : k ≤ 2 ^ 40) :
    Sound Try.prog 20 [.agg l, .int .i64 k] h fun v h' => v = .int .i64 (k + g.tot) ∧ Cx h' bs ((.agg l, (fun b => .agg ((mgraph k g).cells b)), ns) :: os) := by
  have ht := hs.tot
  have hsz := hs.sizes
  have hln := hs.len
  have ht2 : g.tot = g.Sizes.length + gsum bwt g.Blocks g.Blocks.length := rfl
  obtain ⟨w1, w2, n1, n2, rfl, rfl, y⟩ := x.graph_split
  have q1 := own_one (own_of (y.o0 true) rfl)
  have q2 := own_one' (own_of (y.o1 true) rfl)
  refine enter mixed MG16 Try.func20 rfl (by kernel_rfl) rfl ?_
  repeat' (first
   | with_reducible refine stp ?_
   | with_reducible refine k_blk_o rfl ?_
   | ((try (conv => arg 1; simp [q1.1, q2.1])); with_reducible refine evp ?_)
   | ((with_reducible refine apn ?na ?_); (case na => simp [appNames, ints, intss] <;> first | kernel_rfl | (refine ⟨?_, ?_⟩ <;> kernel_rfl)))
   | fail)
  refine cx_k (y.next.box_one (i := 0) y.off (by simp)) ?_
  intro h1 x1
  have b1 := x1.bxs
  simp only [Bxs] at b1
  repeat' (first
   | with_reducible refine stp ?_
   | with_reducible refine k_blk_o rfl ?_
   | with_reducible refine k_seq_n ?_
   | ((try (conv => arg 1; simp [b1, ltS, nm_ne, q1.1, q2.1])); with_reducible refine evp ?_)
   | ((with_reducible refine apn ?na ?_); (case na => simp [appNames, ints, intss] <;> first | kernel_rfl | (refine ⟨?_, ?_⟩ <;> kernel_rfl)))
   | fail)
  have o1 := own_of (x1.next.o0 true) rfl
  refine st_heap rfl (markIntS o1 x1.next.lts k hk (by omega)) ?_
  rintro v h2 ⟨rfl, p1, p2, p3⟩
  have x2 := x1.next.mark (h' := h2) (t' := fun b => ints b (marks k g.Sizes.length)) (fun b => .one (p1 b)) (fun n a _ => p2 n a) p3
  have b2 := x2.bxs
  simp only [Bxs] at b2
  repeat' (first
   | with_reducible refine stp ?_
   | with_reducible refine k_blk_o rfl ?_
   | with_reducible refine k_seq_n ?_
   | ((try (conv => arg 1; simp [b2, ltS, nm_ne, q1.1, q2.1])); with_reducible refine evp ?_)
   | ((with_reducible refine apn ?na ?_); (case na => simp [appNames, ints, intss] <;> first | kernel_rfl | (refine ⟨?_, ?_⟩ <;> kernel_rfl)))
   | fail)
  refine st_heap rfl (markBlockS (x2.next.perm (List.Perm.swap _ _ _)) (k + g.Sizes.length) (by omega) (by omega) (by omega)) ?_
  rintro v h3 ⟨rfl, x3⟩
  repeat' (first
   | with_reducible refine stp ?_
   | with_reducible refine k_blk_o rfl ?_
   | with_reducible refine k_seq_n ?_
   | ((try (conv => arg 1; simp [hk])); with_reducible refine evp ?_)
   | ((with_reducible refine apn ?na ?_); (case na => simp [appNames, ints, intss] <;> first | kernel_rfl | (refine ⟨?_, ?_⟩ <;> kernel_rfl)))
   | fail)
  refine ⟨?_, ?_⟩
  · simp only [resV, ht2]
    congr 1
    push_cast
    omega
  · exact (Cx.graph_join (g := mgraph k g) (Cx.to (x3.box_drop.perm (List.Perm.swap _ _ _))))
end Go.Proofs.Ytlmlkkkgcbpaoaa.AM

/-
  Slices of plain cells that grow and shrink: no row, or a row of their own.
-/
set_option linter.unusedVariables false
set_option linter.unusedSimpArgs false
set_option maxRecDepth 4000
namespace Go.Proofs.Ytlmlkkkgcbpaoaa.AM
open Go.RowKit

theorem take_snoc {α : Type} {l : List α} {i : Nat} (hi : i < l.length) : l.take (i + 1) = l.take i ++ [l[i]] := by
  rw [List.take_add_one, List.getElem?_eq_getElem hi]; rfl
theorem gsum_all {α : Type} (f : α → Nat) (l : List α) : gsum f l l.length = (l.map f).sum := by simp [gsum]
/-- A row of plain cells, read as data. -/
theorem dr_flat_sl {c : Bool} {rows : Nm → Option Row} {n : Nm} {ver s : Nat} {l : List (List AV)} {sp : List (List AV)} (h : rows n = some ⟨ver, s, l ++ sp⟩) (hf : ∀ e ∈ l, ∀ x ∈ e, flatc x = true) : DR c rows (.sl n ver 0 l.length) (.tr c l) := by
  have hg : ∀ i, i < l.length → (l ++ sp)[0 + i]? = l[i]? := fun i hi => by rw [Nat.zero_add, List.getElem?_append_left hi]
  refine .sl n ver 0 l.length _ _ h rfl (by simp) rfl (fun i e t he ht => ?_) (fun i e t j x y he ht hx hy => ?_)
  · have hi : i < l.length := (List.getElem?_eq_some_iff.1 ht).1
    rw [hg i hi] at he
    rw [he] at ht; cases ht; rfl
  · have hi : i < l.length := (List.getElem?_eq_some_iff.1 ht).1
    rw [hg i hi] at he
    rw [he] at ht; cases ht
    rw [hx] at hy; cases hy
    exact dr_flatc (hf e (List.mem_of_getElem? he) x (List.mem_of_getElem? hx))
def blkAt (g : Graph) (k : Int) : Block := g.Blocks.getD k.toNat ⟨[], 0, 0, 0, 0⟩
def FL (s : Nat) (l : List (List AV)) (w : AV) (b : Bx) : Prop :=
  (w = .nilsl ∧ l = [] ∧ b = []) ∨ ∃ k ver sp, w = .sl k ver 0 l.length ∧ (∀ e ∈ sp, e.length = s ∧ ∀ x ∈ e, flatc x = true) ∧ b = [(k, ⟨ver, s, l ++ sp⟩)]
theorem FL.one {s : Nat} {l : List (List AV)} {w : AV} {b : Bx} (f : FL s l w b) : w.one = true ∧ w.stored = true ∧ w.cells = [w] := by
  rcases f with ⟨rfl, _, _⟩ | ⟨k, ver, sp, rfl, _, _⟩ <;> exact ⟨rfl, rfl, rfl⟩
theorem FL.nil {s : Nat} : FL s [] .nilsl [] := .inl ⟨rfl, rfl, rfl⟩
theorem FL.mt {s : Nat} {k : Nm} {ver : Nat} : FL s [] (.sl k ver 0 0) [(k, ⟨ver, s, []⟩)] := .inr ⟨k, ver, [], rfl, by simp, rfl⟩
theorem FL.dr {s : Nat} {l : List (List AV)} {w : AV} {b : Bx} {h : Hp} {c : Bool} (f : FL s l w b) (hf : ∀ e ∈ l, ∀ x ∈ e, flatc x = true) (x : ∀ y ∈ b, h.rows y.1 = some y.2) : DR c h.rows w (.tr c l) := by
  rcases f with ⟨rfl, rfl, rfl⟩ | ⟨k, ver, sp, rfl, _, rfl⟩
  · exact .nilsl
  · exact dr_flat_sl (s := s) (x (k, _) (List.mem_singleton.2 rfl)) hf
theorem appendA_room {P : Program} {t : TypeId} {m n k : Nm} {v vk s len : Nat} {h : Hp} {l sp : List (List AV)} {e e0 : List AV} (h0 : ((telem P t).bind fun e => (tsz P e).bind fun s => (tby P e).bind fun bb => (tzero P e).bind fun z => some (s, decide (0 < s ∧ bb ≤ 32768 ∧ z.length = s))) = some (s, true))
    (hr : h.rows m = some ⟨v, s, l ++ e0 :: sp⟩) (hlen : l.length = len) (hk : h.rows k = some ⟨vk, s, [e]⟩) (he : e.length = s) (hl : len + 1 ≤ 4294967296) (hm : m.1 < h.tick) :
    appendA P t (.sl m v 0 len) (.sl k vk 0 1) h n = some (.sl m v 0 (len + 1), h.put m ⟨v, s, (l ++ [e]) ++ sp⟩) := by
  simp only [Option.bind_eq_some_iff] at h0
  obtain ⟨e', he', s', hs, bb, hb, z, hz, hd⟩ := h0
  simp only [Option.some.injEq, Prod.mk.injEq, decide_eq_true_eq] at hd
  obtain ⟨e1, hd1, hd2, hd3⟩ := hd
  rw [e1] at hs hd1 hd3
  subst hlen
  unfold appendA
  have hsrc : srcElems h.rows (.sl k vk 0 1) = some [e] := by simp [srcElems, hk]
  rw [he', hsrc]
  simp only [hs, hb, hz]
  have a1 : (l ++ e0 :: sp).take l.length = l := by simp
  have a2 : (l ++ e0 :: sp).drop (l.length + 1) = sp := by rw [show l ++ e0 :: sp = (l ++ [e0]) ++ sp by simp]; exact List.drop_left' (by simp)
  have a3 : l.length ≤ (l ++ e0 :: sp).length := by simp
  have a4 : l.length + 1 ≤ (l ++ e0 :: sp).length := by simp
  simp only [List.length_append, List.length_cons] at a3 a4
  simp [he, hd1, hd2, hd3, hr, hl, hm, a1, a2, a3, a4]
theorem Cx.to_front {h : Hp} {fs b bs : Bx} {os : Ox} (x : Cx h (fs ++ (b ++ bs)) os) : Cx h (b ++ (fs ++ bs)) os := x.bperm (List.perm_append_comm_assoc fs b bs)
theorem FL.app {P : Program} {t : TypeId} {s : Nat} {l : List (List AV)} {w : AV} {b bs : Bx} {os : Ox} {h : Hp} {k n : Nm} {vk : Nat} {e : List AV} (h0 : ((telem P t).bind fun e => (tsz P e).bind fun s => (tby P e).bind fun bb => (tzero P e).bind fun z => some (s, decide (0 < s ∧ bb ≤ 32768 ∧ z.length = s))) = some (s, true))
    (f : FL s l w b) (x : Cx h (b ++ bs) os) (hk : h.rows k = some ⟨vk, s, [e]⟩) (he : e.length = s) (hl : l.length + 1 ≤ 4294967296) (hn : n ∉ nms (b ++ bs) os) (ht : n.1 < h.tick) :
    ∃ w' b' h', appendA P t w (.sl k vk 0 1) h n = some (w', h') ∧ FL s (l ++ [e]) w' b' ∧ Cx h' (b' ++ bs) os ∧ h'.tick = h.tick ∧ (w'.one = true ∧ w'.stored = true ∧ w'.cells = [w']) := by
  rcases f with ⟨rfl, rfl, rfl⟩ | ⟨m, ver, sp, rfl, hsp, rfl⟩
  · exact ⟨_, [(n, ⟨0, s, [e]⟩)], _, appendA_nil1 h0 hk he, .inr ⟨n, 0, [], rfl, fun e he => by (cases he), rfl⟩, x.box_add hn ht, rfl, rfl, rfl, rfl⟩
  · have ltm := x.lt m (mem_box (x := (m, _)) (List.mem_cons_self ..))
    cases sp with
    | nil =>
      refine ⟨_, [(m, ⟨ver + 1, s, l ++ [e]⟩)], _, appendA_snoc h0 (by simpa using x.b0) rfl hk he hl (decide_eq_true ltm), .inr ⟨m, ver + 1, [], by simp, fun e he => by (cases he), by simp⟩, x.box_set, rfl, rfl, rfl, rfl⟩
    | cons e0 sp =>
      exact ⟨_, [(m, ⟨ver, s, (l ++ [e]) ++ sp⟩)], _, appendA_room h0 x.b0 rfl hk he hl ltm, .inr ⟨m, ver, sp, by simp, fun e he => hsp e (by simp [he]), rfl⟩, x.box_set, rfl, rfl, rfl, rfl⟩
/-- The step of an append. -/
theorem ev2_app {P : Program} {t : TypeId} {s : Nat} {l : List (List AV)} {w : AV} {fs b bs : Bx} {os : Ox} {h : Hp} {k n : Nm} {vk : Nat} {e : List AV} {N : AV → Hp → Prop} (h0 : ((telem P t).bind fun e => (tsz P e).bind fun s => (tby P e).bind fun bb => (tzero P e).bind fun z => some (s, decide (0 < s ∧ bb ≤ 32768 ∧ z.length = s))) = some (s, true))
    (f : FL s l w b) (x : Cx h (fs ++ (b ++ bs)) os) (hk : h.rows k = some ⟨vk, s, [e]⟩) (he : e.length = s) (hl : l.length + 1 ≤ 4294967296) (hn : n ∉ nms (fs ++ (b ++ bs)) os) (ht : n.1 < h.tick)
    (kk : ∀ w' b' h', FL s (l ++ [e]) w' b' → Cx h' (fs ++ (b' ++ bs)) os → h'.tick = h.tick → (w'.one = true ∧ w'.stored = true ∧ w'.cells = [w']) → N w' h') : Ev2 (appendA P t w (.sl k vk 0 1) h n) N := by
  have y := x.to_front
  obtain ⟨w', b', h', ea, fl, z, tk, q⟩ := FL.app (n := n) h0 f y hk he hl (fun e => hn (by
    simp only [nms, List.map_append, List.mem_append] at e ⊢
    rcases e with (e | e | e) | e
    · exact .inl (.inr (.inl e))
    · exact .inl (.inl e)
    · exact .inl (.inr (.inr e))
    · exact .inr e)) ht
  rw [ea]
  exact kk w' b' h' fl z.to_front tk q
theorem Cx.new_nin {h : Hp} {bs : Bx} {os : Ox} {T i : Nat} (x : Cx h bs os) (hT : h.tick ≤ T) : (T, i, 0) ∉ nms bs os := fun e => by
  have := x.lt _ e
  simp only at this
  omega
theorem FL.own {s : Nat} {l : List (List AV)} {w : AV} {b bs : Bx} {os : Ox} {h : Hp} (f : FL s l w b) (hf : ∀ e ∈ l, e.length = s ∧ ∀ x ∈ e, flatc x = true) (x : Cx h (b ++ bs) os) : ∃ ns, Cx h bs ((w, (fun c => .tr c l), ns) :: os) := by
  rcases f with ⟨rfl, rfl, rfl⟩ | ⟨k, ver, sp, rfl, hsp, rfl⟩
  · exact ⟨[], x.add_own (fun b => .one (.nilsl .nil)) .nil (fun n hn => by cases hn) (fun n _ => rfl) (Nat.le_refl _)⟩
  · exact ⟨[k], Cx.close_flat x hf (fun e he => (hsp e he).1) (clRow_flat fun e he => (hsp e he).2)⟩
/-- What a piece of code brings about, and no more of it. -/
theorem st_cut {P : Program} {M : FuncId → Mode} {σ : Nat → AV} {h : Hp} {K : Ex → (Nat → AV) → Hp → Prop} {a : Code} (R : (Nat → AV) → Hp → Prop) (w : wpC P M (Sound P) (drawW2 P M (Sound P)) a σ h (fun e σ' h' => e = .normal ∧ R σ' h')) (k : ∀ σ' h', R σ' h' → K .normal σ' h') : wpC P M (Sound P) (drawW2 P M (Sound P)) a σ h K :=
  wpC_mono Sound.le drawW_le a σ h _ _ (fun e σ' h' hr => by obtain ⟨rfl, hr⟩ := hr; exact k _ _ hr) w
theorem clearA_at {P : Program} {t : TypeId} {n : Nm} {v off len s : Nat} {h : Hp} {pre mid post : List (List AV)} {z : List AV} (h0 : ((telem P t).bind fun e => (tsz P e).bind fun s => (tzero P e).bind fun z => some (s, z, decide (z.length = s ∧ 0 < s ∧ ones z = true))) = some (s, z, true))
    (hr : h.rows n = some ⟨v, s, pre ++ (mid ++ post)⟩) (hp : pre.length = off) (hm : mid.length = len) (ht : n.1 < h.tick) : clearA P t (.sl n v off len) h = some (h.put n ⟨v, s, pre ++ (List.replicate len z ++ post)⟩) := by
  simp only [Option.bind_eq_some_iff] at h0
  obtain ⟨e, he, s', hs, z', hz, hd⟩ := h0
  simp only [Option.some.injEq, Prod.mk.injEq, decide_eq_true_eq] at hd
  obtain ⟨rfl, rfl, hd⟩ := hd
  unfold clearA
  simp only [he, lenOfA, hs, hz]
  subst hp hm
  by_cases h0 : mid.length = 0
  · rw [if_pos h0]
    have : mid = [] := List.eq_nil_of_length_eq_zero h0
    subst this
    congr 1
    exact (hp_put_same (by simpa using hr)).symm
  · rw [if_neg h0, if_pos hd]
    have e1 : (pre ++ (mid ++ post)).take pre.length = pre := by simp
    have e2 : (pre ++ (mid ++ post)).drop (pre.length + mid.length) = post := by rw [← List.append_assoc]; exact List.drop_left' (by simp)
    simp only [overA, hr]
    rw [if_pos ⟨trivial, trivial, by simp, by simp, ht⟩]
    simp only [e1, List.length_replicate, e2, List.append_assoc]
end Go.Proofs.Ytlmlkkkgcbpaoaa.AM

/-
  What an operation makes of two numbers.
-/
set_option linter.unusedVariables false
set_option linter.unusedSimpArgs false
set_option maxRecDepth 4000
namespace Go.Proofs.Ytlmlkkkgcbpaoaa.AM
open Go.RowKit

private def MG81 : FuncId → Mode := fun f => .tree

def w64 (a : Int) : Int := IntKind.i64.wrap a
def isT (op : ByteArray) (k : List UInt8) : Bool := op.toList == k
def binV (op : ByteArray) (a b : Int) : Int :=
  if isT op [43] then w64 (a + b) else if isT op [45] then w64 (a - b) else if isT op [42] then w64 (a * b)
  else if isT op [38] then w64 (BitVec.ofInt IntKind.i64.bits a &&& BitVec.ofInt IntKind.i64.bits b).toNat
  else if isT op [61, 61] then (if a = b then 1 else 0) else if isT op [60] then (if a < b then 1 else 0) else 0
theorem isT_t {op : ByteArray} {k : List UInt8} (h : isT op k = true) : op.toList = k := by simpa [isT] using h
theorem isT_f {op : ByteArray} {k : List UInt8} (h : ¬ isT op k = true) : (op.toList == k) = false := by simpa [isT] using h

theorem specBin (op : ByteArray) (a b : Int) : Pure Try.prog 142 [.str op, .int .i64 a, .int .i64 b] (.int .i64 (binV op a b)) := by
  intro T
  refine enter mixed MG81 Try.func142 rfl (by kernel_rfl) rfl ?_
  by_cases h1 : isT op [43] = true
  · have e1 := isT_t h1
    repeat' (first
     | with_reducible refine stp ?_
     | with_reducible refine k_blk_o rfl ?_
     | with_reducible refine k_seq_n ?_
     | ((try (conv => arg 1; simp [e1])); with_reducible refine evp ?_)
     | ((with_reducible refine apn ?na ?_); (case na => simp [appNames, ints, intss] <;> first | kernel_rfl | (refine ⟨?_, ?_⟩ <;> kernel_rfl)))
     | fail)
    exact dr_int (by simp [binV, h1, w64])
  have e1 := isT_f h1
  by_cases h2 : isT op [45] = true
  · have e2 := isT_t h2
    repeat' (first
     | with_reducible refine stp ?_
     | with_reducible refine k_blk_o rfl ?_
     | with_reducible refine k_seq_n ?_
     | ((try (conv => arg 1; simp [e1, e2])); with_reducible refine evp ?_)
     | ((with_reducible refine apn ?na ?_); (case na => simp [appNames, ints, intss] <;> first | kernel_rfl | (refine ⟨?_, ?_⟩ <;> kernel_rfl)))
     | fail)
    exact dr_int (by simp [binV, h1, h2, w64])
  have e2 := isT_f h2
  by_cases h3 : isT op [42] = true
  · have e3 := isT_t h3
    repeat' (first
     | with_reducible refine stp ?_
     | with_reducible refine k_blk_o rfl ?_
     | with_reducible refine k_seq_n ?_
     | ((try (conv => arg 1; simp [e1, e2, e3])); with_reducible refine evp ?_)
     | ((with_reducible refine apn ?na ?_); (case na => simp [appNames, ints, intss] <;> first | kernel_rfl | (refine ⟨?_, ?_⟩ <;> kernel_rfl)))
     | fail)
    exact dr_int (by simp [binV, h1, h2, h3, w64])
  have e3 := isT_f h3
  by_cases h4 : isT op [38] = true
  · have e4 := isT_t h4
    repeat' (first
     | with_reducible refine stp ?_
     | with_reducible refine k_blk_o rfl ?_
     | with_reducible refine k_seq_n ?_
     | ((try (conv => arg 1; simp [e1, e2, e3, e4])); with_reducible refine evp ?_)
     | ((with_reducible refine apn ?na ?_); (case na => simp [appNames, ints, intss] <;> first | kernel_rfl | (refine ⟨?_, ?_⟩ <;> kernel_rfl)))
     | fail)
    exact dr_int (by simp [binV, h1, h2, h3, h4, w64])
  have e4 := isT_f h4
  by_cases h5 : isT op [61, 61] = true
  · have e5 := isT_t h5
    by_cases hab : a = b
    · skip
      repeat' (first
       | with_reducible refine stp ?_
       | with_reducible refine k_blk_o rfl ?_
       | with_reducible refine k_seq_n ?_
       | ((try (conv => arg 1; simp [e1, e2, e3, e4, e5, hab])); with_reducible refine evp ?_)
       | ((with_reducible refine apn ?na ?_); (case na => simp [appNames, ints, intss] <;> first | kernel_rfl | (refine ⟨?_, ?_⟩ <;> kernel_rfl)))
       | fail)
      exact dr_int (by simp [binV, h1, h2, h3, h4, h5, hab])
    · skip
      repeat' (first
       | with_reducible refine stp ?_
       | with_reducible refine k_blk_o rfl ?_
       | with_reducible refine k_seq_n ?_
       | ((try (conv => arg 1; simp [e1, e2, e3, e4, e5, hab])); with_reducible refine evp ?_)
       | ((with_reducible refine apn ?na ?_); (case na => simp [appNames, ints, intss] <;> first | kernel_rfl | (refine ⟨?_, ?_⟩ <;> kernel_rfl)))
       | fail)
      exact dr_int (by simp [binV, h1, h2, h3, h4, h5, hab])
  have e5 := isT_f h5
  by_cases h6 : isT op [60] = true
  · have e6 := isT_t h6
    by_cases hab : a < b
    · skip
      repeat' (first
       | with_reducible refine stp ?_
       | with_reducible refine k_blk_o rfl ?_
       | with_reducible refine k_seq_n ?_
       | ((try (conv => arg 1; simp [e1, e2, e3, e4, e5, e6, hab])); with_reducible refine evp ?_)
       | ((with_reducible refine apn ?na ?_); (case na => simp [appNames, ints, intss] <;> first | kernel_rfl | (refine ⟨?_, ?_⟩ <;> kernel_rfl)))
       | fail)
      exact dr_int (by simp [binV, h1, h2, h3, h4, h5, h6, hab])
    · skip
      repeat' (first
       | with_reducible refine stp ?_
       | with_reducible refine k_blk_o rfl ?_
       | with_reducible refine k_seq_n ?_
       | ((try (conv => arg 1; simp [e1, e2, e3, e4, e5, e6, hab])); with_reducible refine evp ?_)
       | ((with_reducible refine apn ?na ?_); (case na => simp [appNames, ints, intss] <;> first | kernel_rfl | (refine ⟨?_, ?_⟩ <;> kernel_rfl)))
       | fail)
      exact dr_int (by simp [binV, h1, h2, h3, h4, h5, h6, hab])
  have e6 := isT_f h6
  repeat' (first
   | with_reducible refine stp ?_
   | with_reducible refine k_blk_o rfl ?_
   | with_reducible refine k_seq_n ?_
   | ((try (conv => arg 1; simp [e1, e2, e3, e4, e5, e6])); with_reducible refine evp ?_)
   | ((with_reducible refine apn ?na ?_); (case na => simp [appNames, ints, intss] <;> first | kernel_rfl | (refine ⟨?_, ?_⟩ <;> kernel_rfl)))
   | fail)
  exact dr_int (by simp [binV, h1, h2, h3, h4, h5, h6])
theorem implBin (op : ByteArray) (a b : Int) : Pure Try.prog 145 [.str op, .int .i64 a, .int .i64 b] (.int .i64 (binV op a b)) := by
  intro T
  refine enter mixed MG81 Try.func145 rfl (by kernel_rfl) rfl ?_
  by_cases h1 : isT op [43] = true
  · have e1 := isT_t h1
    repeat' (first
     | with_reducible refine stp ?_
     | with_reducible refine k_blk_o rfl ?_
     | with_reducible refine k_seq_n ?_
     | ((try (conv => arg 1; simp [e1])); with_reducible refine evp ?_)
     | ((with_reducible refine apn ?na ?_); (case na => simp [appNames, ints, intss] <;> first | kernel_rfl | (refine ⟨?_, ?_⟩ <;> kernel_rfl)))
     | fail)
    exact dr_int (by simp [binV, h1, w64])
  have e1 := isT_f h1
  by_cases h2 : isT op [45] = true
  · have e2 := isT_t h2
    repeat' (first
     | with_reducible refine stp ?_
     | with_reducible refine k_blk_o rfl ?_
     | with_reducible refine k_seq_n ?_
     | ((try (conv => arg 1; simp [e1, e2])); with_reducible refine evp ?_)
     | ((with_reducible refine apn ?na ?_); (case na => simp [appNames, ints, intss] <;> first | kernel_rfl | (refine ⟨?_, ?_⟩ <;> kernel_rfl)))
     | fail)
    exact dr_int (by simp [binV, h1, h2, w64])
  have e2 := isT_f h2
  by_cases h3 : isT op [42] = true
  · have e3 := isT_t h3
    repeat' (first
     | with_reducible refine stp ?_
     | with_reducible refine k_blk_o rfl ?_
     | with_reducible refine k_seq_n ?_
     | ((try (conv => arg 1; simp [e1, e2, e3])); with_reducible refine evp ?_)
     | ((with_reducible refine apn ?na ?_); (case na => simp [appNames, ints, intss] <;> first | kernel_rfl | (refine ⟨?_, ?_⟩ <;> kernel_rfl)))
     | fail)
    exact dr_int (by simp [binV, h1, h2, h3, w64])
  have e3 := isT_f h3
  by_cases h4 : isT op [38] = true
  · have e4 := isT_t h4
    repeat' (first
     | with_reducible refine stp ?_
     | with_reducible refine k_blk_o rfl ?_
     | with_reducible refine k_seq_n ?_
     | ((try (conv => arg 1; simp [e1, e2, e3, e4])); with_reducible refine evp ?_)
     | ((with_reducible refine apn ?na ?_); (case na => simp [appNames, ints, intss] <;> first | kernel_rfl | (refine ⟨?_, ?_⟩ <;> kernel_rfl)))
     | fail)
    exact dr_int (by simp [binV, h1, h2, h3, h4, w64])
  have e4 := isT_f h4
  by_cases h5 : isT op [61, 61] = true
  · have e5 := isT_t h5
    by_cases hab : a = b
    · skip
      repeat' (first
       | with_reducible refine stp ?_
       | with_reducible refine k_blk_o rfl ?_
       | with_reducible refine k_seq_n ?_
       | ((try (conv => arg 1; simp [e1, e2, e3, e4, e5, hab])); with_reducible refine evp ?_)
       | ((with_reducible refine apn ?na ?_); (case na => simp [appNames, ints, intss] <;> first | kernel_rfl | (refine ⟨?_, ?_⟩ <;> kernel_rfl)))
       | fail)
      exact dr_int (by simp [binV, h1, h2, h3, h4, h5, hab])
    · skip
      repeat' (first
       | with_reducible refine stp ?_
       | with_reducible refine k_blk_o rfl ?_
       | with_reducible refine k_seq_n ?_
       | ((try (conv => arg 1; simp [e1, e2, e3, e4, e5, hab])); with_reducible refine evp ?_)
       | ((with_reducible refine apn ?na ?_); (case na => simp [appNames, ints, intss] <;> first | kernel_rfl | (refine ⟨?_, ?_⟩ <;> kernel_rfl)))
       | fail)
      exact dr_int (by simp [binV, h1, h2, h3, h4, h5, hab])
  have e5 := isT_f h5
  by_cases h6 : isT op [60] = true
  · have e6 := isT_t h6
    by_cases hab : a < b
    · skip
      repeat' (first
       | with_reducible refine stp ?_
       | with_reducible refine k_blk_o rfl ?_
       | with_reducible refine k_seq_n ?_
       | ((try (conv => arg 1; simp [e1, e2, e3, e4, e5, e6, hab])); with_reducible refine evp ?_)
       | ((with_reducible refine apn ?na ?_); (case na => simp [appNames, ints, intss] <;> first | kernel_rfl | (refine ⟨?_, ?_⟩ <;> kernel_rfl)))
       | fail)
      exact dr_int (by simp [binV, h1, h2, h3, h4, h5, h6, hab])
    · skip
      repeat' (first
       | with_reducible refine stp ?_
       | with_reducible refine k_blk_o rfl ?_
       | with_reducible refine k_seq_n ?_
       | ((try (conv => arg 1; simp [e1, e2, e3, e4, e5, e6, hab])); with_reducible refine evp ?_)
       | ((with_reducible refine apn ?na ?_); (case na => simp [appNames, ints, intss] <;> first | kernel_rfl | (refine ⟨?_, ?_⟩ <;> kernel_rfl)))
       | fail)
      exact dr_int (by simp [binV, h1, h2, h3, h4, h5, h6, hab])
  have e6 := isT_f h6
  repeat' (first
   | with_reducible refine stp ?_
   | with_reducible refine k_blk_o rfl ?_
   | with_reducible refine k_seq_n ?_
   | ((try (conv => arg 1; simp [e1, e2, e3, e4, e5, e6])); with_reducible refine evp ?_)
   | ((with_reducible refine apn ?na ?_); (case na => simp [appNames, ints, intss] <;> first | kernel_rfl | (refine ⟨?_, ?_⟩ <;> kernel_rfl)))
   | fail)
  exact dr_int (by simp [binV, h1, h2, h3, h4, h5, h6])
theorem inB_slot {a : Int} {ns : Nat} (h : inB a 0 (ns - 1) = true) : ∃ k : Nat, a = k ∧ k < ns := by
  simp [inB] at h
  exact ⟨a.toNat, by omega, by omega⟩
end Go.Proofs.Ytlmlkkkgcbpaoaa.AM

/-
  A graph's walk: the plain law.
-/
set_option linter.unusedVariables false
set_option linter.unusedSimpArgs false
set_option maxRecDepth 4000
namespace Go.Proofs.Ytlmlkkkgcbpaoaa.AM
open Go.RowKit

def rd (l : List Int) (i : Int) : Int := l.getD i.toNat 0
theorem rd_at {l : List Int} {i : Nat} (h : i < l.length) : rd l (i : Int) = l[i] := by simp [rd, h]

/-- A walk as it runs; st is how it has ended. -/
structure Rs where
  mem : List (List Int)
  vars : List Int
  inp : List Int
  fu : Nat
  st : Option Int
  val : Int
  out : List Int
def idxR (s : Rs) (x : Instr) : Int := if 0 ≤ x.A then w64 (rd s.vars x.B + rd s.vars x.A) else rd s.vars x.B
def memR (s : Rs) (x : Instr) : List Int := s.mem.getD x.N.toNat []
def stepR (s : Rs) (x : Instr) : Rs :=
  if x.Op = 0 then { s with vars := s.vars.set x.D.toNat x.N }
  else if x.Op = 1 then { s with vars := s.vars.set x.D.toNat (rd s.vars x.A) }
  else if x.Op = 2 then { s with vars := s.vars.set x.D.toNat (binV x.Text (rd s.vars x.A) (rd s.vars x.B)) }
  else if x.Op = 5 then { s with vars := s.vars.set x.D.toNat (s.inp.headD (-1)), inp := s.inp.tail }
  else if x.Op = 6 then { s with out := s.out ++ [rd s.vars x.A] }
  else if inB (idxR s x) 0 ((memR s x).length - 1) = false then { s with st := some 1 }
  else if x.Op = 3 then { s with vars := s.vars.set x.D.toNat (rd (memR s x) (idxR s x)) }
  else { s with mem := s.mem.set x.N.toNat ((memR s x).set (idxR s x).toNat (rd s.vars x.C)) }
def burnR (s : Rs) : Rs := if s.fu = 0 then { s with st := some 2 } else { s with fu := s.fu - 1 }
def insR (s : Rs) (x : Instr) : Rs := if (burnR s).st = none then stepR (burnR s) x else burnR s
def codeR : Rs → List Instr → Rs
  | s, [] => s
  | s, x :: l => if s.st = none then codeR (insR s x) l else s
def jumpR (s : Rs) (b : Block) : Rs × Int :=
  if s.st = none then
    (if b.Jump = 2 then ({ s with st := some 0, val := rd s.vars b.A }, b.To)
     else if b.Jump = 1 ∧ rd s.vars b.A = 0 then (s, b.Else) else (s, b.To))
  else (s, 0)
def blockR (s : Rs) (b : Block) : Rs × Int := if (codeR s b.Code).st = none then jumpR (burnR (codeR s b.Code)) b else (codeR s b.Code, 0)
/-- The blocks that a walk begins, so many at most. -/
def pathR (g : Graph) : Nat → Rs → Int → List Int
  | 0, _, _ => []
  | n + 1, s, a => if s.st = none then a :: pathR g n (blockR s (blkAt g a)).1 (blockR s (blkAt g a)).2 else []
def mem0 (xs : List Int) : List (List Int) := xs.map fun n => zeros n.toNat
def startR (g : Graph) (A I : List Int) (fu : Nat) : Rs := ⟨mem0 g.Sizes, A ++ zeros (g.Slots.toNat - A.length), I, fu, none, 0, []⟩
def argsG (g : Graph) (A I : List Int) : Bool := graphOk g && decide ((A.length : Int) = g.Params) && decide (I.length ≤ 100)
def tickR (l : List Int) (k : Int) : List Int := l.set k.toNat (w64 (rd l k + 1))
def pathG (g : Graph) (A I : List Int) : List Int := pathR g 1000 (startR g A I 100000) 0
def countsR (g : Graph) (A I : List Int) : List Int := if argsG g A I = true then (pathG g A I).foldl tickR (zeros g.Blocks.length) else []

theorem codeR_stop {s : Rs} (h : ¬ s.st = none) : ∀ l, codeR s l = s
  | [] => rfl
  | x :: l => by simp [codeR, h]
theorem codeR_go {s : Rs} (h : s.st = none) (x : Instr) (l : List Instr) : codeR s (x :: l) = codeR (insR s x) l := by simp [codeR, h]
theorem codeR_drop {s : Rs} (h : s.st = none) {l : List Instr} {i : Nat} (hi : i < l.length) : codeR s (l.drop i) = codeR (insR s l[i]) (l.drop (i + 1)) := by
  rw [List.drop_eq_getElem_cons hi, codeR_go h]
theorem pathR_stop {g : Graph} {s : Rs} (h : ¬ s.st = none) (n : Nat) (a : Int) : pathR g n s a = [] := by
  cases n with
  | zero => rfl
  | succ n => simp [pathR, h]
theorem pathR_go {g : Graph} {s : Rs} (h : s.st = none) (n : Nat) (a : Int) : pathR g (n + 1) s a = a :: pathR g n (blockR s (blkAt g a)).1 (blockR s (blkAt g a)).2 := by simp [pathR, h]
theorem pathR_len {g : Graph} : ∀ (n : Nat) (s : Rs) (a : Int), (pathR g n s a).length ≤ n
  | 0, s, a => Nat.le_refl _
  | n + 1, s, a => by
    unfold pathR
    split
    · have := pathR_len n (blockR s (blkAt g a)).1 (blockR s (blkAt g a)).2 (g := g)
      simp only [List.length_cons]
      omega
    · simp

/-- What no step changes. -/
structure Kp (s t : Rs) : Prop where
  vars : t.vars.length = s.vars.length
  mem : t.mem.map List.length = s.mem.map List.length
  inp : t.inp.length ≤ s.inp.length
  fu : t.fu ≤ s.fu
  out : t.out.length + t.fu ≤ s.out.length + s.fu
theorem Kp.refl (s : Rs) : Kp s s := ⟨rfl, rfl, Nat.le_refl _, Nat.le_refl _, Nat.le_refl _⟩
theorem Kp.trans {s t u : Rs} (a : Kp s t) (b : Kp t u) : Kp s u := ⟨b.vars.trans a.vars, b.mem.trans a.mem, Nat.le_trans b.inp a.inp, Nat.le_trans b.fu a.fu, Nat.le_trans b.out a.out⟩
theorem map_len_set {mem : List (List Int)} {q : Nat} {ys : List Int} (h : ys.length = (mem.getD q []).length) : (mem.set q ys).map List.length = mem.map List.length := by
  refine List.ext_getElem (by simp) fun i h1 h2 => ?_
  simp only [List.length_map, List.length_set] at h1 h2
  simp only [List.getElem_map, List.getElem_set]
  split
  · rename_i e
    subst e
    rw [h]
    simp [h2]
  · rfl
theorem stepR_keep (s : Rs) (x : Instr) : (stepR s x).vars.length = s.vars.length ∧ (stepR s x).mem.map List.length = s.mem.map List.length ∧ (stepR s x).inp.length ≤ s.inp.length ∧ (stepR s x).fu = s.fu ∧ (stepR s x).out.length ≤ s.out.length + 1 := by
  unfold stepR
  repeat' split
  all_goals first | (simp; done) | exact ⟨rfl, map_len_set (by simp [memR]), Nat.le_refl _, rfl, Nat.le_succ _⟩
theorem burnR_kp (s : Rs) : Kp s (burnR s) := by
  unfold burnR
  split
  · exact ⟨rfl, rfl, Nat.le_refl _, Nat.le_refl _, Nat.le_refl _⟩
  · exact ⟨rfl, rfl, Nat.le_refl _, by simp, by simp⟩
theorem burnR_run {s : Rs} (h : (burnR s).st = none) : 0 < s.fu ∧ burnR s = { s with fu := s.fu - 1 } ∧ s.st = none := by
  unfold burnR at h ⊢
  split at h
  · cases h
  · rename_i e
    exact ⟨by omega, by rw [if_neg e], h⟩
theorem burnR_none {s : Rs} (h : s.fu = 0) : burnR s = { s with st := some 2 } := by simp [burnR, h]
theorem burnR_some {s : Rs} {n : Nat} (h : s.fu = n + 1) : burnR s = { s with fu := n } := by simp [burnR, h]
theorem insR_kp (s : Rs) (x : Instr) : Kp s (insR s x) := by
  unfold insR
  split
  · rename_i h
    obtain ⟨h1, h2, h3⟩ := burnR_run h
    obtain ⟨k1, k2, k3, k4, k5⟩ := stepR_keep (burnR s) x
    rw [h2] at k1 k2 k3 k4 k5 ⊢
    simp only at k1 k2 k3 k4 k5
    exact ⟨k1, k2, k3, by omega, by omega⟩
  · exact burnR_kp s
theorem codeR_kp : ∀ (l : List Instr) (s : Rs), Kp s (codeR s l)
  | [], s => .refl s
  | x :: l, s => by
    unfold codeR
    split
    · exact (insR_kp s x).trans (codeR_kp l _)
    · exact .refl s
theorem jumpR_kp (s : Rs) (b : Block) : Kp s (jumpR s b).1 := by
  unfold jumpR
  repeat' split
  all_goals exact ⟨rfl, rfl, Nat.le_refl _, Nat.le_refl _, Nat.le_refl _⟩
theorem blockR_kp (s : Rs) (b : Block) : Kp s (blockR s b).1 := by
  unfold blockR
  split
  · exact (codeR_kp _ s).trans ((burnR_kp _).trans (jumpR_kp _ b))
  · exact codeR_kp _ s
theorem jumpR_run {s : Rs} {b : Block} (h : (jumpR s b).1.st = none) : s.st = none ∧ (jumpR s b).1 = s ∧ ¬ b.Jump = 2 := by
  unfold jumpR at h ⊢
  by_cases h1 : s.st = none
  · rw [if_pos h1] at h ⊢
    by_cases h2 : b.Jump = 2
    · rw [if_pos h2] at h; cases h
    · refine ⟨h1, ?_, h2⟩
      rw [if_neg h2]
      split <;> rfl
  · rw [if_neg h1] at h; exact absurd h h1
theorem stepR_st (s : Rs) (x : Instr) : (stepR s x).st = s.st ∨ (stepR s x).st = some 1 := by
  unfold stepR
  repeat' split
  all_goals first | exact .inl rfl | exact .inr rfl
theorem insR_st {s : Rs} (h : s.st = none) (x : Instr) : ¬ (insR s x).st = some 0 := by
  unfold insR
  split
  · rename_i h1
    rcases stepR_st (burnR s) x with e | e <;> rw [e]
    · rw [h1]; simp
    · simp
  · unfold burnR
    split
    · simp
    · simp [h]
/-- How a walk can have ended. -/
def COk (s : Rs) : Prop := ∀ c, s.st = some c → 0 ≤ c ∧ c ≤ 2
theorem COk.of {s : Rs} (h : s.st = none ∨ s.st = some 0 ∨ s.st = some 1 ∨ s.st = some 2) : COk s := fun c hc => by
  rcases h with h | h | h | h <;> rw [h] at hc <;> cases hc <;> decide
theorem burnR_cok {s : Rs} (h : COk s) : COk (burnR s) := by
  unfold burnR
  split
  · exact .of (.inr (.inr (.inr rfl)))
  · exact h
theorem insR_cok {s : Rs} (h : COk s) (x : Instr) : COk (insR s x) := by
  unfold insR
  split
  · rename_i h1
    rcases stepR_st (burnR s) x with e | e
    · exact .of (.inl (by rw [e, h1]))
    · exact .of (.inr (.inr (.inl e)))
  · exact burnR_cok h
theorem codeR_cok : ∀ (l : List Instr) (s : Rs), COk s → COk (codeR s l)
  | [], s, h => h
  | x :: l, s, h => by
    unfold codeR
    split
    · exact codeR_cok l _ (insR_cok h x)
    · exact h
theorem blockR_cok {s : Rs} (h : COk s) (b : Block) : COk (blockR s b).1 := by
  unfold blockR
  have hc := codeR_cok b.Code s h
  split
  · unfold jumpR
    have hb := burnR_cok hc
    repeat' split
    all_goals first | exact hb | exact .of (.inr (.inl rfl))
  · exact hc
/-- How much is left to do. -/
def ms (s : Rs) : Nat := if s.st = none then s.fu + 1 else 0
theorem blockR_ms {s : Rs} (h : s.st = none) (b : Block) : ms (blockR s b).1 < ms s := by
  unfold ms
  rw [if_pos h]
  split
  · rename_i h1
    unfold blockR at h1 ⊢
    by_cases h2 : (codeR s b.Code).st = none
    · rw [if_pos h2] at h1 ⊢
      obtain ⟨h3, h4, _⟩ := jumpR_run h1
      obtain ⟨h5, h6, _⟩ := burnR_run h3
      rw [h4, h6]
      have := (codeR_kp b.Code s).fu
      simp only
      omega
    · rw [if_neg h2] at h1; exact absurd h1 h2
  · omega

/-- Without fuel a block is nothing. -/
theorem insR_zero {s : Rs} (hf : s.fu = 0) (x : Instr) : insR s x = { s with st := some 2 } := by simp [insR, burnR, hf]
theorem blockR_zero {s : Rs} (h : s.st = none) (hf : s.fu = 0) (b : Block) : (blockR s b).1 = { s with st := some 2 } := by
  obtain ⟨Code, J, A, T, E⟩ := b
  unfold blockR
  simp only
  cases Code with
  | nil => simp [codeR, h, burnR, hf, jumpR]
  | cons x l =>
    rw [codeR_go h, insR_zero hf, codeR_stop (by simp)]
    simp
/-- A walk within a graph. -/
structure RsOk (g : Graph) (s : Rs) : Prop where
  ok : graphOk g = true
  vars : (s.vars.length : Int) = g.Slots
  mem : s.mem.map List.length = g.Sizes.map Int.toNat
  inp : s.inp.length ≤ 100
  out : s.out.length + s.fu ≤ 100000
theorem RsOk.kp {g : Graph} {s t : Rs} (o : RsOk g s) (k : Kp s t) : RsOk g t := ⟨o.ok, by rw [k.vars]; exact o.vars, by rw [k.mem]; exact o.mem, Nat.le_trans k.inp o.inp, Nat.le_trans k.out o.out⟩
theorem graphOk_head {g : Graph} (h : graphOk g = true) : Head g := by
  simp only [graphOk, Bool.and_eq_true] at h
  exact headOk_head h.1.1
theorem RsOk.memlen {g : Graph} {s : Rs} (o : RsOk g s) : s.mem.length = g.Sizes.length := by
  have := congrArg List.length o.mem
  simpa using this
theorem RsOk.len {g : Graph} {s : Rs} (o : RsOk g s) {q : Nat} (hq : q < s.mem.length) : s.mem[q].length ≤ 16 := by
  have h := (graphOk_head o.ok).size
  have e : (s.mem.map List.length)[q]? = (g.Sizes.map Int.toNat)[q]? := by rw [o.mem]
  have hl := o.memlen
  simp only [List.getElem?_map, List.getElem?_eq_getElem hq, List.getElem?_eq_getElem (show q < g.Sizes.length by omega), Option.map_some, Option.some.injEq] at e
  have := h _ (List.getElem_mem (show q < g.Sizes.length by omega))
  omega
theorem startR_ok {g : Graph} {A I : List Int} (h : argsG g A I = true) {fu : Nat} (hf : fu ≤ 100000) : RsOk g (startR g A I fu) := by
  simp only [argsG, Bool.and_eq_true, decide_eq_true_eq] at h
  obtain ⟨⟨h1, h2⟩, h3⟩ := h
  have hd := graphOk_head h1
  have a1 := hd.params
  have a2 := hd.slots
  refine ⟨h1, ?_, ?_, h3, by simpa [startR] using hf⟩
  · simp [startR, zeros]; omega
  · simp only [startR, mem0, List.map_map]
    refine List.map_congr_left fun n hn => ?_
    simp [zeros]
/-- What a right step says of its numbers. -/
theorem in_cases {ns nr : Nat} {x : Instr} (h : instrOk ns nr x = true) :
    (x.Op = 0 ∧ ∃ d : Nat, x.D = d ∧ d < ns) ∨
    (x.Op = 1 ∧ ∃ d a : Nat, (x.D = d ∧ d < ns) ∧ (x.A = a ∧ a < ns)) ∨
    (x.Op = 2 ∧ ∃ d a b : Nat, (x.D = d ∧ d < ns) ∧ (x.A = a ∧ a < ns) ∧ (x.B = b ∧ b < ns)) ∨
    (x.Op = 5 ∧ ∃ d : Nat, x.D = d ∧ d < ns) ∨
    (x.Op = 6 ∧ ∃ a : Nat, x.A = a ∧ a < ns) ∨
    (x.Op = 3 ∧ ∃ d b q : Nat, (x.D = d ∧ d < ns) ∧ (x.B = b ∧ b < ns) ∧ (x.N = q ∧ q < nr) ∧ (x.A = -1 ∨ ∃ a : Nat, x.A = a ∧ a < ns)) ∨
    (x.Op = 4 ∧ ∃ c b q : Nat, (x.C = c ∧ c < ns) ∧ (x.B = b ∧ b < ns) ∧ (x.N = q ∧ q < nr) ∧ (x.A = -1 ∨ ∃ a : Nat, x.A = a ∧ a < ns)) := by
  unfold instrOk at h
  have slot : ∀ {a : Int} {n : Nat}, inB a 0 ((n : Int) - 1) = true → ∃ k : Nat, a = k ∧ k < n := fun h => inB_slot h
  split at h
  · rename_i e
    simp only [Bool.and_eq_true] at h
    exact .inl ⟨e, slot h.1.1.1.1⟩
  split at h
  · rename_i e
    simp only [Bool.and_eq_true] at h
    obtain ⟨d, hd⟩ := slot h.1.1.1.1.1
    obtain ⟨a, ha⟩ := slot h.1.1.1.1.2
    exact .inr (.inl ⟨e, d, a, hd, ha⟩)
  split at h
  · rename_i e
    simp only [Bool.and_eq_true] at h
    obtain ⟨d, hd⟩ := slot h.1.1.1.1.1
    obtain ⟨a, ha⟩ := slot h.1.1.1.1.2
    obtain ⟨b, hb⟩ := slot h.1.1.1.2
    exact .inr (.inr (.inl ⟨e, d, a, b, hd, ha, hb⟩))
  have base : ∀ {a : Int} {n : Nat}, inB a 0 ((n : Int) - 1) = true ∨ decide (a = -1) = true → a = -1 ∨ ∃ k : Nat, a = k ∧ k < n := fun h => h.elim (fun h => .inr (slot h)) fun h => .inl (by simpa using h)
  split at h
  · rename_i e
    simp only [Bool.and_eq_true, Bool.or_eq_true] at h
    obtain ⟨d, hd⟩ := slot h.1.1.1.1.1
    obtain ⟨b, hb⟩ := slot h.1.1.1.1.2
    obtain ⟨q, hq⟩ := slot h.1.1.2
    exact .inr (.inr (.inr (.inr (.inr (.inl ⟨e, d, b, q, hd, hb, hq, base h.1.1.1.2⟩)))))
  split at h
  · rename_i e
    simp only [Bool.and_eq_true, Bool.or_eq_true] at h
    obtain ⟨c, hc⟩ := slot h.1.2
    obtain ⟨b, hb⟩ := slot h.1.1.1.1.2
    obtain ⟨q, hq⟩ := slot h.1.1.2
    exact .inr (.inr (.inr (.inr (.inr (.inr ⟨e, c, b, q, hc, hb, hq, base h.1.1.1.2⟩)))))
  split at h
  · rename_i e
    simp only [Bool.and_eq_true] at h
    exact .inr (.inr (.inr (.inl ⟨e, slot h.1.1.1.1.1⟩)))
  split at h
  · rename_i e
    simp only [Bool.and_eq_true] at h
    exact .inr (.inr (.inr (.inr (.inl ⟨e, slot h.1.1.1.1.2⟩))))
  · cases h
theorem instrOk_x {g : Graph} {s : Rs} (o : RsOk g s) {x : Instr} (h : instrOk g.Slots g.Sizes.length x = true) : instrOk s.vars.length s.mem.length x = true := by
  rw [o.vars, o.memlen]; exact h

/-- A block of a right graph. -/
theorem blk_ok {g : Graph} (hg : graphOk g = true) {i : Nat} (hi : i < g.Blocks.length) : blkAt g i = g.Blocks[i] ∧ (∀ x ∈ g.Blocks[i].Code, instrOk g.Slots g.Sizes.length x = true) ∧
    ((g.Blocks[i].Jump = 0 ∧ ∃ t : Nat, g.Blocks[i].To = t ∧ t < g.Blocks.length) ∨
     (g.Blocks[i].Jump = 1 ∧ ∃ t e a : Nat, (g.Blocks[i].To = t ∧ t < g.Blocks.length) ∧ (g.Blocks[i].Else = e ∧ e < g.Blocks.length) ∧ (g.Blocks[i].A = a ∧ (a : Int) < g.Slots)) ∨
     (g.Blocks[i].Jump = 2 ∧ ∃ a : Nat, g.Blocks[i].A = a ∧ (a : Int) < g.Slots)) := by
  refine ⟨by simp [blkAt, hi], ?_⟩
  simp only [graphOk, Bool.and_eq_true, List.all_eq_true] at hg
  have hb := hg.2 _ (List.getElem_mem hi)
  have slot : ∀ {a n : Int}, inB a 0 (n - 1) = true → ∃ k : Nat, a = k ∧ (k : Int) < n := fun {a n} h => by
    simp [inB] at h
    exact ⟨a.toNat, by omega, by omega⟩
  unfold blockOk at hb
  simp only [Bool.and_eq_true, List.all_eq_true] at hb
  refine ⟨hb.1, ?_⟩
  have h := hb.2
  split at h
  · rename_i e
    simp only [Bool.and_eq_true] at h
    exact .inl ⟨e, inB_slot h.1.1⟩
  split at h
  · rename_i e
    simp only [Bool.and_eq_true] at h
    obtain ⟨t, ht⟩ := inB_slot h.1.1
    obtain ⟨u, hu⟩ := inB_slot h.1.2
    obtain ⟨a, ha⟩ := slot h.2
    exact .inr (.inl ⟨e, t, u, a, ht, hu, ha⟩)
  split at h
  · rename_i e
    simp only [Bool.and_eq_true] at h
    exact .inr (.inr ⟨e, slot h.1.1⟩)
  · cases h
theorem blockR_next {g : Graph} (hg : graphOk g = true) {i : Nat} (hi : i < g.Blocks.length) {s : Rs} (h : (blockR s (blkAt g i)).1.st = none) : ∃ k : Nat, (blockR s (blkAt g i)).2 = k ∧ k < g.Blocks.length := by
  obtain ⟨e, _, hj⟩ := blk_ok hg hi
  rw [e] at h ⊢
  unfold blockR at h ⊢
  by_cases h2 : (codeR s g.Blocks[i].Code).st = none
  · rw [if_pos h2] at h ⊢
    obtain ⟨h3, _, h4⟩ := jumpR_run h
    unfold jumpR
    rw [if_pos h3, if_neg h4]
    rcases hj with ⟨_, t, ht⟩ | ⟨hj, t, u, a, ht, hu, _⟩ | ⟨hj, _⟩
    · rename_i hj
      rw [if_neg (fun e => by rw [hj] at e; exact absurd e.1 (by decide))]
      exact ⟨t, ht⟩
    · split
      · exact ⟨u, hu⟩
      · exact ⟨t, ht⟩
    · exact absurd hj h4
  · rw [if_neg h2] at h; exact absurd h h2
theorem pathR_in {g : Graph} (hg : graphOk g = true) : ∀ (n : Nat) (s : Rs) (i : Nat), i < g.Blocks.length → ∀ k ∈ pathR g n s i, ∃ j : Nat, k = j ∧ j < g.Blocks.length
  | 0, s, i, hi, k, hk => by cases hk
  | n + 1, s, i, hi, k, hk => by
    unfold pathR at hk
    split at hk
    · rcases List.mem_cons.1 hk with rfl | hk
      · exact ⟨i, rfl, hi⟩
      · by_cases hs : (blockR s (blkAt g i)).1.st = none
        · obtain ⟨j, e, hj⟩ := blockR_next hg hi hs
          rw [e] at hk
          exact pathR_in hg n _ j hj k hk
        · rw [pathR_stop hs] at hk; cases hk
    · cases hk
theorem pathG_in {g : Graph} {A I : List Int} (h : argsG g A I = true) : ∀ k ∈ pathG g A I, ∃ j : Nat, k = j ∧ j < g.Blocks.length := by
  have hg : graphOk g = true := by
    simp only [argsG, Bool.and_eq_true] at h
    exact h.1.1
  exact pathR_in hg 1000 _ 0 (graphOk_head hg).blocks.1
theorem tickR_len (l : List Int) (k : Int) : (tickR l k).length = l.length := by simp [tickR]
theorem foldR_len : ∀ (p l : List Int), (p.foldl tickR l).length = l.length
  | [], l => rfl
  | k :: p, l => by rw [List.foldl_cons, foldR_len p, tickR_len]
theorem countsR_len {g : Graph} {A I : List Int} : (countsR g A I).length ≤ 300 := by
  unfold countsR
  split
  · rename_i h
    have hg : graphOk g = true := by
      simp only [argsG, Bool.and_eq_true] at h
      exact h.1.1
    have := (graphOk_head hg).blocks.2
    rw [foldR_len]
    simpa [zeros] using this
  · simp
end Go.Proofs.Ytlmlkkkgcbpaoaa.AM

/-
  A graph's walk in memory.
-/
set_option linter.unusedVariables false
set_option linter.unusedSimpArgs false
set_option maxRecDepth 4000
namespace Go.Proofs.Ytlmlkkkgcbpaoaa.AM
open Go.RowKit

/-- Where a walk lies: its box, its variables, its regions. -/
structure RM where
  nr : Nm
  kv : Nm
  vv : Nat
  km : Nm
  vm : Nat
  ks : List (Nm × Nat × Nat)
def hdrK (ks : List (Nm × Nat × Nat)) : List (List AV) := ks.map fun k => [.sl k.1 k.2.1 0 k.2.2]
def RM.hdr (m : RM) : List (List AV) := hdrK m.ks
def rgs (ks : List (Nm × Nat × Nat)) (mem : List (List Int)) : Bx := List.zipWith (fun k xs => (k.1, (⟨k.2.1, 1, cl1 xs⟩ : Row))) ks mem
theorem rgs_split : ∀ (ks : List (Nm × Nat × Nat)) (mem : List (List Int)) (q : Nat) (h1 : q < ks.length) (h2 : q < mem.length), ∃ l1 l2, ∀ ys, rgs ks (mem.set q ys) = l1 ++ (ks[q].1, ⟨ks[q].2.1, 1, cl1 ys⟩) :: l2
  | k :: ks, m :: mem, 0, h1, h2 => ⟨[], rgs ks mem, fun ys => rfl⟩
  | k :: ks, m :: mem, q + 1, h1, h2 => by
    obtain ⟨l1, l2, h⟩ := rgs_split ks mem q (by simpa using h1) (by simpa using h2)
    refine ⟨(k.1, ⟨k.2.1, 1, cl1 m⟩) :: l1, l2, fun ys => ?_⟩
    have := h ys
    simp only [rgs] at this
    simp [rgs, this]
theorem rgs_snoc {ks : List (Nm × Nat × Nat)} {mem : List (List Int)} (h : ks.length = mem.length) (k : Nm × Nat × Nat) (xs : List Int) : rgs (ks ++ [k]) (mem ++ [xs]) = rgs ks mem ++ [(k.1, ⟨k.2.1, 1, cl1 xs⟩)] := by
  simp [rgs, List.zipWith_append h]
theorem cl1_set (l : List Int) (i : Nat) (v : Int) : cl1 (l.set i v) = (cl1 l).set i [.int .i64 v] := by simp [cl1, List.map_set]
theorem cl1_at {l : List Int} {i : Nat} (h : i < l.length) : (cl1 l)[i]? = some [.int .i64 (rd l i)] := by simp [cl1, rd, h]
theorem cl1_len0 (l : List Int) : (cl1 l).length = l.length := by simp [cl1]
theorem cl1_get {l : List Int} {i : Nat} (h : i < (cl1 l).length) : (cl1 l)[i] = [.int .i64 (rd l i)] := by
  rw [cl1_len0] at h
  simp [cl1, rd, h]
theorem cl1_len (l : List Int) : (cl1 l).length = l.length := by simp [cl1]
theorem cl1_snoc (l : List Int) (v : Int) : cl1 (l ++ [v]) = cl1 l ++ [[.int .i64 v]] := by simp [cl1]

section
variable {h : Hp} {a b c : Nm × Row} {bo bs : Bx} {os : Ox} {ks : List (Nm × Nat × Nat)} {mem : List (List Int)} {q : Nat}
theorem Cx.rgs_put (x : Cx h (a :: b :: c :: (bo ++ (rgs ks mem ++ bs))) os) (h1 : q < ks.length) (h2 : q < mem.length) (ys : List Int) : Cx (h.put ks[q].1 ⟨ks[q].2.1, 1, cl1 ys⟩) (a :: b :: c :: (bo ++ (rgs ks (mem.set q ys) ++ bs))) os := by
  obtain ⟨l1, l2, e⟩ := rgs_split ks mem q h1 h2
  have e0 := e mem[q]
  rw [List.set_getElem_self] at e0
  rw [e0] at x
  rw [e ys]
  have p : ∀ r, List.Perm (a :: b :: c :: (bo ++ ((l1 ++ (ks[q].1, r) :: l2) ++ bs))) ((ks[q].1, r) :: (a :: b :: c :: (bo ++ ((l1 ++ l2) ++ bs)))) := fun r => by
    have := List.perm_middle (l₁ := a :: b :: c :: (bo ++ l1)) (l₂ := l2 ++ bs) (a := (ks[q].1, r))
    simpa using this
  exact ((x.bperm (p _)).box_set).bperm (p _).symm
theorem Cx.rgs_at (x : Cx h (a :: b :: c :: (bo ++ (rgs ks mem ++ bs))) os) (h1 : q < ks.length) (h2 : q < mem.length) : h.rows ks[q].1 = some ⟨ks[q].2.1, 1, cl1 mem[q]⟩ ∧ ks[q].1.1 < h.tick := by
  obtain ⟨l1, l2, e⟩ := rgs_split ks mem q h1 h2
  have e0 := e mem[q]
  rw [List.set_getElem_self] at e0
  have hm : ((ks[q].1, (⟨ks[q].2.1, 1, cl1 mem[q]⟩ : Row)) : Nm × Row) ∈ a :: b :: c :: (bo ++ (rgs ks mem ++ bs)) := by rw [e0]; simp
  exact ⟨x.box _ hm, x.lt _ (mem_box hm)⟩
end

/-- A new row behind a run. -/
theorem ev2_addX {h h' : Hp} {bs bs' : Bx} {os : Ox} (x : Cx h bs os) [e : CxE h bs os h' bs'] {n : Nm} {r : Row} {v : AV} {k : AV → Hp → Prop} (h1 : h.tick ≤ n.1) (h2 : n.1 < h'.tick) (hk : ∀ h2, Cx h2 ((n, r) :: bs') os → k v h2) : Ev2 (some (v, h'.put n r)) k := by
  refine hk _ ((e.cx x).box_add (fun hm => ?_) h2)
  have := x.lt n (by
    simp only [nms, List.mem_append] at hm ⊢
    rw [← e.nm]
    exact hm)
  omega

theorem ev2_cx {h' : Hp} {bs : Bx} {os : Ox} {v : AV} {k : AV → Hp → Prop} (x : Cx h' bs os) (hk : ∀ h2, Cx h2 bs os → k v h2) : Ev2 (some (v, h')) k := hk _ x
theorem Cx.no_box {h : Hp} {bs : Bx} {os : Ox} {k : Nm} {r : Row} (x : Cx h bs os) {T : Nat} (hT : h.tick ≤ T) (hk : T < k.1) (j : Nat) : (T, j, 0) ∉ nms ((k, r) :: bs) os := by
  rw [nms_box]
  intro e
  rcases List.mem_cons.1 e with e | e
  · rw [← e] at hk
    exact Nat.lt_irrefl _ hk
  · have := x.lt _ e
    simp only at this
    omega
def codeS (s : Option Int) : Int := s.getD 0
def overS (s : Option Int) : Bool := decide (s = some 0)
/-- The reference's run. -/
def runB (m : RM) (s : Rs) (wo : AV) : Row := ⟨0, 8, [[.sl m.km m.vm 0 m.ks.length, .sl m.kv m.vv 0 s.vars.length, ints true s.inp, .int .i64 s.fu, .int .i64 (codeS s.st), .bool (overS s.st), .int .i64 s.val, wo]]⟩
/-- A walk in memory: its box, variables, regions, what it has put out. -/
structure GX (R : Rs → AV → Row) (m : RM) (s : Rs) (bs : Bx) (os : Ox) (h : Hp) : Prop where
  lens : m.ks.map (·.2.2) = s.mem.map List.length
  cx : ∃ wo bo, FL 1 (cl1 s.out) wo bo ∧ Cx h ((m.nr, R s wo) :: (m.kv, ⟨m.vv, 1, cl1 s.vars⟩) :: (m.km, ⟨m.vm, 1, m.hdr⟩) :: (bo ++ (rgs m.ks s.mem ++ bs))) os
abbrev RX (m : RM) := GX (runB m) m
theorem rx_perm {n r : Nm × Row} {a : Nm × Row} {bo R bs : Bx} {x : Nm × Row} : List.Perm (x :: n :: r :: a :: (bo ++ (R ++ bs))) (n :: r :: a :: (bo ++ (R ++ x :: bs))) := by
  have := (List.perm_middle (l₁ := n :: r :: a :: (bo ++ R)) (l₂ := bs) (a := x)).symm
  simpa using this
section
variable {h : Hp} {bs : Bx} {os : Ox} {m : RM} {s : Rs} {R : Rs → AV → Row}
theorem GX.new (X : GX R m s bs os h) (r : Row) : GX R m s (((h.tick, 0, 0), r) :: bs) os (h.next.put (h.tick, 0, 0) r) := by
  obtain ⟨ln, wo, bo, f, y⟩ := X
  exact ⟨ln, wo, bo, f, (y.next.box_one (i := 0) y.off (by simp)).bperm rx_perm⟩
theorem GX.drop {x : Nm × Row} (X : GX R m s (x :: bs) os h) : GX R m s bs os h := by
  obtain ⟨ln, wo, bo, f, y⟩ := X
  exact ⟨ln, wo, bo, f, (y.bperm rx_perm.symm).box_drop⟩
theorem GX.dropOf {x : Nm × Row} {s' : Rs} {h' : Hp} (X : GX R m s (x :: bs) os h) (Y : GX R m s' (x :: bs) os h') : GX R m s' bs os h' := Y.drop
theorem GX.top {n : Nm} {r : Row} (X : GX R m s ((n, r) :: bs) os h) : h.rows n = some r ∧ n.1 < h.tick := by
  obtain ⟨ln, wo, bo, f, y⟩ := X
  have z := y.bperm rx_perm.symm
  exact ⟨z.b0, z.bxs.2.1⟩
end
section
variable {h : Hp} {bs : Bx} {os : Ox} {m : RM} {s : Rs} {R : Rs → AV → Row} {n : Nm} {r : Row}
theorem GX.to {h' : Hp} (X : GX R m s bs os h) (t : ∀ {bs' : Bx}, Cx h bs' os → Cx h' bs' os) : GX R m s bs os h' := by
  obtain ⟨ln, wo, bo, f, y⟩ := X
  exact ⟨ln, wo, bo, f, t y⟩
theorem GX.next (X : GX R m s bs os h) : GX R m s bs os h.next := by
  obtain ⟨ln, wo, bo, f, y⟩ := X
  exact ⟨ln, wo, bo, f, y.next⟩
theorem GX.put1 (X : GX R m s ((n, r) :: bs) os h) (r' : Row) : GX R m s ((n, r') :: bs) os (h.put n r') := by
  obtain ⟨ln, wo, bo, f, y⟩ := X
  exact ⟨ln, wo, bo, f, ((y.bperm rx_perm.symm).box_set).bperm rx_perm⟩
theorem GX.put2 {x : Nm × Row} (X : GX R m s (x :: (n, r) :: bs) os h) (r' : Row) : GX R m s (x :: (n, r') :: bs) os (h.put n r') := by
  obtain ⟨ln, wo, bo, f, y⟩ := X
  exact ⟨ln, wo, bo, f, ((y.bperm rx_perm.symm |>.bperm (.cons _ rx_perm.symm) |>.bperm (.swap _ _ _)).box_set |>.bperm (.swap _ _ _) |>.bperm (.cons _ rx_perm)).bperm rx_perm⟩
theorem Cx.have_box (x : Cx h bs os) (hr : h.rows n = some r) (hn : n ∉ nms bs os) (ht : n.1 < h.tick) : Cx h ((n, r) :: bs) os := by
  refine ⟨fun y hy => ?_, x.own, by rw [nms_box]; exact List.nodup_cons.2 ⟨hn, x.nd⟩, fun k hk => ?_⟩
  · rcases List.mem_cons.1 hy with rfl | hy
    · exact hr
    · exact x.box y hy
  · rw [nms_box] at hk
    rcases List.mem_cons.1 hk with rfl | hk
    · exact ht
    · exact x.lt k hk
theorem Cx.have_new {T i : Nat} {h' : Hp} (x : Cx h bs os) (hT : h.tick ≤ T) (x' : Cx h' bs os) (hr : h'.rows (T, i, 0) = some r) (ht : T < h'.tick) : Cx h' (((T, i, 0), r) :: bs) os :=
  x'.have_box hr (fun e => by have := x.lt _ e; simp only at this; omega) ht
end
theorem GX.ne {R : Rs → AV → Row} {h : Hp} {bs : Bx} {os : Ox} {m : RM} {s : Rs} {n n2 : Nm} {r r2 : Row} (X : GX R m s ((n, r) :: (n2, r2) :: bs) os h) : ¬ n = n2 := by
  obtain ⟨ln, wo, bo, f, y⟩ := X
  have z := (y.bperm rx_perm.symm).bperm (.cons _ rx_perm.symm)
  have a := z.aps
  simp only [List.map_cons, Aps] at a
  exact (a.1 n2 (by simp)).1
theorem GX.nr_ne {R : Rs → AV → Row} {h : Hp} {bs : Bx} {os : Ox} {m : RM} {s : Rs} {n : Nm} {r : Row} (X : GX R m s ((n, r) :: bs) os h) : ¬ n = m.nr ∧ ¬ m.nr = n := by
  obtain ⟨ln, wo, bo, f, y⟩ := X
  have a := (y.bperm rx_perm.symm).aps
  simp only [List.map_cons, Aps] at a
  exact a.1 m.nr (by simp)
theorem ev2_gen {h' : Hp} {v : AV} {k : AV → Hp → Prop} (F : Hp → Prop) (f : F h') (hk : ∀ h2, F h2 → k v h2) : Ev2 (some (v, h')) k := hk _ f
theorem gen_k {P : Program} {M : FuncId → Mode} {C : CS} {D : Array Oper → (Nat → AV) → Hp → ((Nat → AV) → Hp → Prop) → Prop} {σ : Nat → AV} {K : Ex → (Nat → AV) → Hp → Prop} {h : Hp} {b : Code} (F : Hp → Prop) (f : F h) (k : ∀ h', F h' → wpC P M C D b σ h' K) : KSeq P M C D b K .normal σ h := k h f
def codeW (s : Option Int) : Int := s.getD (-1)
/-- The program's walker. -/
def wrkB (m : RM) (s : Rs) (wo wp : AV) : Row := ⟨0, 8, [[.sl m.kv m.vv 0 s.vars.length, .sl m.km m.vm 0 m.ks.length, ints true s.inp, .int .i64 s.fu, .int .i64 (codeW s.st), .int .i64 s.val, wo, wp]]⟩
abbrev WX (m : RM) (s : Rs) (wp : AV) := GX (fun s wo => wrkB m s wo wp) m s
theorem hdr_at {m : RM} {s : Rs} (hl : m.ks.map (·.2.2) = s.mem.map List.length) {q : Nat} (h1 : q < m.ks.length) (h2 : q < s.mem.length) : m.hdr[q]? = some [.sl m.ks[q].1 m.ks[q].2.1 0 s.mem[q].length] := by
  have e : (m.ks.map (·.2.2))[q]? = (s.mem.map List.length)[q]? := by rw [hl]
  simp only [List.getElem?_map, List.getElem?_eq_getElem h1, List.getElem?_eq_getElem h2, Option.map_some, Option.some.injEq] at e
  simp [RM.hdr, hdrK, h1, e]
theorem ks_len {m : RM} {s : Rs} (hl : m.ks.map (·.2.2) = s.mem.map List.length) : m.ks.length = s.mem.length := by simpa using congrArg List.length hl
end Go.Proofs.Ytlmlkkkgcbpaoaa.AM

/-
  A graph's walk, the reference's: fuel, input, places.
-/
set_option linter.unusedVariables false
set_option linter.unusedSimpArgs false
set_option maxRecDepth 4000
namespace Go.Proofs.Ytlmlkkkgcbpaoaa.AM
open Go.RowKit

private def MG85 : FuncId → Mode := fun f => .tree

def burnT (s : Rs) : Rs := if s.st = none then burnR s else s
section
variable {h : Hp} {bs : Bx} {os : Ox} {m : RM} {s : Rs}
theorem l03Burn (X : RX m s bs os h) (hf : s.fu ≤ 100000) : Sound Try.prog 119 [.ptr m.nr 0 0 0] h fun v h' => v = .bool (burnT s).st.isNone ∧ RX m (burnT s) bs os h' := by
  obtain ⟨mem, vars, inp, fu, st, val, out⟩ := s
  obtain ⟨ln, wo, bo, f, x⟩ := X
  have b := x.bxs
  simp only [Bxs, runB] at b
  simp only at hf
  refine enter mixed MG85 Try.func119 rfl (by kernel_rfl) rfl ?_
  cases st with
  | some c =>
    have e : burnT ⟨mem, vars, inp, fu, some c, val, out⟩ = ⟨mem, vars, inp, fu, some c, val, out⟩ := by simp [burnT]
    rw [e]
    by_cases hc : c = 0
    · subst hc
      repeat' (first
       | with_reducible refine stp ?_
       | with_reducible refine k_blk_o rfl ?_
       | with_reducible refine k_seq_n ?_
       | ((try (conv => arg 1; simp [b, codeS, overS, ltS, nm_ne])); with_reducible refine evp ?_)
       | ((with_reducible refine apn ?na ?_); (case na => simp [appNames, ints, intss] <;> first | kernel_rfl | (refine ⟨?_, ?_⟩ <;> kernel_rfl)))
       | fail)
      exact ⟨rfl, ln, wo, bo, f, Cx.to x⟩
    · skip
      repeat' (first
       | with_reducible refine stp ?_
       | with_reducible refine k_blk_o rfl ?_
       | with_reducible refine k_seq_n ?_
       | ((try (conv => arg 1; simp [b, codeS, overS, hc, ltS, nm_ne])); with_reducible refine evp ?_)
       | ((with_reducible refine apn ?na ?_); (case na => simp [appNames, ints, intss] <;> first | kernel_rfl | (refine ⟨?_, ?_⟩ <;> kernel_rfl)))
       | fail)
      exact ⟨rfl, ln, wo, bo, f, Cx.to x⟩
  | none =>
    cases fu with
    | zero =>
      have e : burnT ⟨mem, vars, inp, 0, none, val, out⟩ = ⟨mem, vars, inp, 0, some 2, val, out⟩ := by simp [burnT, burnR]
      rw [e]
      repeat' (first
       | with_reducible refine stp ?_
       | with_reducible refine k_blk_o rfl ?_
       | with_reducible refine k_seq_n ?_
       | ((try (conv => arg 1; simp [b, codeS, overS, ltS, nm_ne])); with_reducible refine evp ?_)
       | ((with_reducible refine apn ?na ?_); (case na => simp [appNames, ints, intss] <;> first | kernel_rfl | (refine ⟨?_, ?_⟩ <;> kernel_rfl)))
       | fail)
      exact ⟨rfl, ln, wo, bo, f, Cx.to x⟩
    | succ n =>
      have e : burnT ⟨mem, vars, inp, n + 1, none, val, out⟩ = ⟨mem, vars, inp, n, none, val, out⟩ := by simp [burnT, burnR]
      rw [e]
      have hz : ¬ (n : Int) + 1 = 0 := by omega
      have hw : IntKind.i64.wrap (n : Int) = n := wrap_id (by omega) (by omega)
      repeat' (first
       | with_reducible refine stp ?_
       | with_reducible refine k_blk_o rfl ?_
       | with_reducible refine k_seq_n ?_
       | ((try (conv => arg 1; simp [b, codeS, overS, hz, hw, ltS, nm_ne])); with_reducible refine evp ?_)
       | ((with_reducible refine apn ?na ?_); (case na => simp [appNames, ints, intss] <;> first | kernel_rfl | (refine ⟨?_, ?_⟩ <;> kernel_rfl)))
       | fail)
      exact ⟨rfl, ln, wo, bo, f, Cx.to x⟩

theorem out_app {P : Program} {t : TypeId} {l : List Int} {w : AV} {fs b bs : Bx} {os : Ox} {h : Hp} {k n : Nm} {vk : Nat} {e : Int} {N : AV → Hp → Prop} (h0 : ((telem P t).bind fun e => (tsz P e).bind fun s => (tby P e).bind fun bb => (tzero P e).bind fun z => some (s, decide (0 < s ∧ bb ≤ 32768 ∧ z.length = s))) = some (1, true))
    (f : FL 1 (cl1 l) w b) (x : Cx h (fs ++ (b ++ bs)) os) (hk : h.rows k = some ⟨vk, 1, [[.int .i64 e]]⟩) (hl : l.length + 1 ≤ 4294967296) (hn : n ∉ nms (fs ++ (b ++ bs)) os) (ht : n.1 < h.tick)
    (kk : ∀ w' b' h', FL 1 (cl1 (l ++ [e])) w' b' → Cx h' (fs ++ (b' ++ bs)) os → h'.tick = h.tick → (w'.one = true ∧ w'.stored = true ∧ w'.cells = [w']) → N w' h') : Ev2 (appendA P t w (.sl k vk 0 1) h n) N :=
  ev2_app h0 f x hk rfl (by rw [cl1_len]; exact hl) hn ht fun w' b' h' f' => kk w' b' h' (by rw [cl1_snoc]; exact f')

theorem sliceA_tail {P : Program} {rows : Nm → Option Row} {t e : TypeId} {b : Bool} {z : Int} {zs : List Int} (hu : P.underlying t = some (.slice e)) (hs : tsz P e = some 1) : sliceA P rows t (.tr b ([.int .i64 z] :: zs.map fun n => [.int .i64 n])) (some (.int .i64 1)) none false = some (.tr b (zs.map fun n => [.int .i64 n])) := by
  unfold sliceA
  cases zs with
  | nil => simp [hu, hs, bnd]
  | cons z2 zs =>
    have ht : List.take zs.length (List.map (fun n => [AV.int .i64 n]) zs) = List.map (fun n => [AV.int .i64 n]) zs := by
      rw [List.take_of_length_le (by simp)]
    simp [hu, hs, bnd, ht]
theorem l03Get (X : RX m s bs os h) (hl : s.inp.length ≤ 100) : Sound Try.prog 143 [.ptr m.nr 0 0 0] h fun v h' => v = .int .i64 (s.inp.headD (-1)) ∧ RX m { s with inp := s.inp.tail } bs os h' := by
  obtain ⟨mem, vars, inp, fu, st, val, out⟩ := s
  obtain ⟨ln, wo, bo, f, x⟩ := X
  have b := x.bxs
  simp only [Bxs, runB] at b
  simp only at hl
  refine enter mixed MG85 Try.func143 rfl (by kernel_rfl) rfl ?_
  cases inp with
  | nil =>
    repeat' (first
     | with_reducible refine stp ?_
     | with_reducible refine k_blk_o rfl ?_
     | with_reducible refine k_seq_n ?_
     | ((try (conv => arg 1; simp [b, ltS, nm_ne])); with_reducible refine evp ?_)
     | ((with_reducible refine apn ?na ?_); (case na => simp [appNames, ints, intss] <;> first | kernel_rfl | (refine ⟨?_, ?_⟩ <;> kernel_rfl)))
     | fail)
    exact ⟨rfl, ln, wo, bo, f, Cx.to x⟩
  | cons z zs =>
    simp at hl
    have hz1 : (zs.length : Int) + 1 ≠ 0 := by omega
    have hz : decide ((zs.length : Int) + 1 = 0) = false := decide_eq_false hz1
    have h1 : (1 : Int) ≤ zs.length + 1 := by omega
    have hsl := fun rows => sliceA_tail (P := Try.prog) (rows := rows) (t := 22) (e := 3) (b := true) (z := z) (zs := zs) (by kernel_rfl) (by kernel_rfl)
    repeat' (first
     | with_reducible refine stp ?_
     | with_reducible refine k_blk_o rfl ?_
     | with_reducible refine k_seq_n ?_
     | ((try (conv => arg 1; simp [hsl, ints, b, hz, hz1, h1, ltS, nm_ne])); with_reducible refine evp ?_)
     | ((with_reducible refine apn ?na ?_); (case na => simp [appNames, ints, intss] <;> first | kernel_rfl | (refine ⟨?_, ?_⟩ <;> kernel_rfl)))
     | fail)
    exact ⟨rfl, ln, wo, bo, f, Cx.to x⟩
/-- Where a place is looked for. -/
def atR (s : Rs) (A I : Int) : Int := if 0 ≤ A then w64 (I + rd s.vars A) else I
theorem l03At (X : RX m s bs os h) (hst : s.st = none) {q : Nat} (hq : q < s.mem.length) (hql : s.mem[q].length ≤ 16) {A : Int} (hA : A = -1 ∨ ∃ a : Nat, A = a ∧ a < s.vars.length) (I : Int) :
    Sound Try.prog 144 [.ptr m.nr 0 0 0, .int .i64 q, .int .i64 A, .int .i64 I] h fun v h' =>
      (inB (atR s A I) 0 ((s.mem[q].length : Int) - 1) = true ∧ v = .int .i64 (atR s A I) ∧ RX m s bs os h') ∨
      (inB (atR s A I) 0 ((s.mem[q].length : Int) - 1) = false ∧ v = .int .i64 0 ∧ RX m { s with st := some 1 } bs os h') := by
  obtain ⟨mem, vars, inp, fu, st, val, out⟩ := s
  obtain ⟨ln, wo, bo, f, x⟩ := X
  simp only at hst hq hql hA
  subst hst
  have hkl := ks_len ln
  have hd := hdr_at ln (show q < m.ks.length by simp only at hkl; omega) hq
  have hqk : q < m.ks.length := by simp only at hkl; omega
  have b := x.bxs
  simp only [Bxs, runB] at b
  have hql2 : mem[q].length ≤ 4294967296 := by omega
  have hw : IntKind.i64.wrap ((mem[q].length : Int) - 1) = (mem[q].length : Int) - 1 := wrap_id (by omega) (by omega)
  have hqk2 : (q : Int) < m.ks.length := by omega
  simp only at hd
  generalize hml : mem[q].length = L at *
  refine enter mixed MG85 Try.func144 rfl (by kernel_rfl) rfl ?_
  rcases hA with rfl | ⟨a, rfl, ha⟩
  · have hm : ¬ (0 : Int) ≤ -1 := by omega
    have e : atR ⟨mem, vars, inp, fu, none, val, out⟩ (-1) I = I := by simp [atR]
    rw [e]
    cases hb : inB I 0 ((L : Int) - 1) with
    | true =>
      repeat' (first
       | with_reducible refine stp ?_
       | with_reducible refine k_blk_o rfl ?_
       | with_reducible refine k_seq_n ?_
       | ((try (conv => arg 1; simp [b, codeS, overS, hm, hd, hqk, hqk2, hw, hb, ltS, nm_ne])); with_reducible refine evp ?_)
       | ((with_reducible refine apn ?na ?_); (case na => simp [appNames, ints, intss] <;> first | kernel_rfl | (refine ⟨?_, ?_⟩ <;> kernel_rfl)))
       | ((with_reducible refine tcl ?_); first | ((apply tg (l01In _ _ _)); (case e => rfl); (case d => (refine dq ?_); (repeat' (first | ((refine Da.mk ?_); first | assumption) | constructor)))))
       | fail)
      exact .inl ⟨rfl, rfl, ln, wo, bo, f, Cx.to x⟩
    | false =>
      repeat' (first
       | with_reducible refine stp ?_
       | with_reducible refine k_blk_o rfl ?_
       | with_reducible refine k_seq_n ?_
       | ((try (conv => arg 1; simp [b, codeS, overS, hm, hd, hqk, hqk2, hw, hb, ltS, nm_ne])); with_reducible refine evp ?_)
       | ((with_reducible refine apn ?na ?_); (case na => simp [appNames, ints, intss] <;> first | kernel_rfl | (refine ⟨?_, ?_⟩ <;> kernel_rfl)))
       | ((with_reducible refine tcl ?_); first | ((apply tg (l01In _ _ _)); (case e => rfl); (case d => (refine dq ?_); (repeat' (first | ((refine Da.mk ?_); first | assumption) | constructor)))))
       | fail)
      exact .inr ⟨rfl, rfl, ln, wo, bo, f, Cx.to x⟩
  · have ha2 : (a : Int) < vars.length := by omega
    have hva := cl1_at ha
    have e : atR ⟨mem, vars, inp, fu, none, val, out⟩ a I = w64 (I + rd vars a) := by simp [atR]
    rw [e]
    have hw2 : IntKind.i64.wrap (I + rd vars a) = w64 (I + rd vars a) := rfl
    cases hb : inB (w64 (I + rd vars a)) 0 ((L : Int) - 1) with
    | true =>
      repeat' (first
       | with_reducible refine stp ?_
       | with_reducible refine k_blk_o rfl ?_
       | with_reducible refine k_seq_n ?_
       | ((try (conv => arg 1; simp [b, codeS, overS, hva, ha, ha2, hd, hqk, hqk2, hw2, hw, hb, ltS, nm_ne])); with_reducible refine evp ?_)
       | ((with_reducible refine apn ?na ?_); (case na => simp [appNames, ints, intss] <;> first | kernel_rfl | (refine ⟨?_, ?_⟩ <;> kernel_rfl)))
       | ((with_reducible refine tcl ?_); first | ((apply tg (l01In _ _ _)); (case e => rfl); (case d => (refine dq ?_); (repeat' (first | ((refine Da.mk ?_); first | assumption) | constructor)))))
       | fail)
      exact .inl ⟨rfl, rfl, ln, wo, bo, f, Cx.to x⟩
    | false =>
      repeat' (first
       | with_reducible refine stp ?_
       | with_reducible refine k_blk_o rfl ?_
       | with_reducible refine k_seq_n ?_
       | ((try (conv => arg 1; simp [b, codeS, overS, hva, ha, ha2, hd, hqk, hqk2, hw2, hw, hb, ltS, nm_ne])); with_reducible refine evp ?_)
       | ((with_reducible refine apn ?na ?_); (case na => simp [appNames, ints, intss] <;> first | kernel_rfl | (refine ⟨?_, ?_⟩ <;> kernel_rfl)))
       | ((with_reducible refine tcl ?_); first | ((apply tg (l01In _ _ _)); (case e => rfl); (case d => (refine dq ?_); (repeat' (first | ((refine Da.mk ?_); first | assumption) | constructor)))))
       | fail)
      exact .inr ⟨rfl, rfl, ln, wo, bo, f, Cx.to x⟩
end
end Go.Proofs.Ytlmlkkkgcbpaoaa.AM

/-
  A graph's walk, the program's: fuel, input, places.
-/
set_option linter.unusedVariables false
set_option linter.unusedSimpArgs false
set_option maxRecDepth 4000
namespace Go.Proofs.Ytlmlkkkgcbpaoaa.AM
open Go.RowKit

private def MG90 : FuncId → Mode := fun f => .tree

section
variable {h : Hp} {bs : Bx} {os : Ox} {m : RM} {s : Rs} {wp : AV}
theorem burnW (X : WX m s wp bs os h) (hp : wp.one = true ∧ wp.stored = true ∧ wp.cells = [wp]) (hst : s.st = none) (hf : s.fu ≤ 100000) : Sound Try.prog 122 [.ptr m.nr 0 0 0] h fun v h' => v = .bool (burnR s).st.isNone ∧ WX m (burnR s) wp bs os h' := by
  obtain ⟨mem, vars, inp, fu, st, val, out⟩ := s
  obtain ⟨ln, wo, bo, f, x⟩ := X
  have b := x.bxs
  simp only [Bxs, wrkB] at b
  have q := f.one
  simp only at hf hst
  subst hst
  refine enter mixed MG90 Try.func122 rfl (by kernel_rfl) rfl ?_
  cases fu with
  | zero =>
    have e : burnR ⟨mem, vars, inp, 0, none, val, out⟩ = ⟨mem, vars, inp, 0, some 2, val, out⟩ := by simp [burnR]
    rw [e]
    repeat' (first
     | with_reducible refine stp ?_
     | with_reducible refine k_blk_o rfl ?_
     | with_reducible refine k_seq_n ?_
     | ((try (conv => arg 1; simp [b, codeW, q.1, q.2.1, q.2.2, hp.1, hp.2.1, hp.2.2, ltS, nm_ne])); with_reducible refine evp ?_)
     | ((with_reducible refine apn ?na ?_); (case na => simp [appNames, ints, intss] <;> first | kernel_rfl | (refine ⟨?_, ?_⟩ <;> kernel_rfl)))
     | fail)
    exact ⟨rfl, ln, wo, bo, f, Cx.to x⟩
  | succ n =>
    have e : burnR ⟨mem, vars, inp, n + 1, none, val, out⟩ = ⟨mem, vars, inp, n, none, val, out⟩ := by simp [burnR]
    rw [e]
    have hz : ¬ (n : Int) + 1 = 0 := by omega
    have hw : IntKind.i64.wrap (n : Int) = n := wrap_id (by omega) (by omega)
    repeat' (first
     | with_reducible refine stp ?_
     | with_reducible refine k_blk_o rfl ?_
     | with_reducible refine k_seq_n ?_
     | ((try (conv => arg 1; simp [b, codeW, hz, hw, q.1, q.2.1, q.2.2, hp.1, hp.2.1, hp.2.2, ltS, nm_ne])); with_reducible refine evp ?_)
     | ((with_reducible refine apn ?na ?_); (case na => simp [appNames, ints, intss] <;> first | kernel_rfl | (refine ⟨?_, ?_⟩ <;> kernel_rfl)))
     | fail)
    exact ⟨rfl, ln, wo, bo, f, Cx.to x⟩
theorem getW (X : WX m s wp bs os h) (hp : wp.one = true ∧ wp.stored = true ∧ wp.cells = [wp]) (hl : s.inp.length ≤ 100) : Sound Try.prog 146 [.ptr m.nr 0 0 0] h fun v h' => v = .int .i64 (s.inp.headD (-1)) ∧ WX m { s with inp := s.inp.tail } wp bs os h' := by
  obtain ⟨mem, vars, inp, fu, st, val, out⟩ := s
  obtain ⟨ln, wo, bo, f, x⟩ := X
  have b := x.bxs
  simp only [Bxs, wrkB] at b
  have q := f.one
  simp only at hl
  refine enter mixed MG90 Try.func146 rfl (by kernel_rfl) rfl ?_
  cases inp with
  | nil =>
    repeat' (first
     | with_reducible refine stp ?_
     | with_reducible refine k_blk_o rfl ?_
     | with_reducible refine k_seq_n ?_
     | ((try (conv => arg 1; simp [b, q.1, q.2.1, q.2.2, hp.1, hp.2.1, hp.2.2, ltS, nm_ne])); with_reducible refine evp ?_)
     | ((with_reducible refine apn ?na ?_); (case na => simp [appNames, ints, intss] <;> first | kernel_rfl | (refine ⟨?_, ?_⟩ <;> kernel_rfl)))
     | fail)
    exact ⟨rfl, ln, wo, bo, f, Cx.to x⟩
  | cons z zs =>
    simp at hl
    have hz1 : (zs.length : Int) + 1 ≠ 0 := by omega
    have hz : decide ((zs.length : Int) + 1 = 0) = false := decide_eq_false hz1
    have h1 : (1 : Int) ≤ zs.length + 1 := by omega
    have hsl := fun rows => sliceA_tail (P := Try.prog) (rows := rows) (t := 22) (e := 3) (b := true) (z := z) (zs := zs) (by kernel_rfl) (by kernel_rfl)
    repeat' (first
     | with_reducible refine stp ?_
     | with_reducible refine k_blk_o rfl ?_
     | with_reducible refine k_seq_n ?_
     | ((try (conv => arg 1; simp [hsl, ints, b, hz, hz1, h1, q.1, q.2.1, q.2.2, hp.1, hp.2.1, hp.2.2, ltS, nm_ne])); with_reducible refine evp ?_)
     | ((with_reducible refine apn ?na ?_); (case na => simp [appNames, ints, intss] <;> first | kernel_rfl | (refine ⟨?_, ?_⟩ <;> kernel_rfl)))
     | fail)
    exact ⟨rfl, ln, wo, bo, f, Cx.to x⟩
theorem placeW (X : WX m s wp bs os h) (hp : wp.one = true ∧ wp.stored = true ∧ wp.cells = [wp]) (hst : s.st = none) {q : Nat} (hq : q < s.mem.length) (hql : s.mem[q].length ≤ 16) {A : Int} (hA : A = -1 ∨ ∃ a : Nat, A = a ∧ a < s.vars.length) (I : Int) (hqk : q < m.ks.length) :
    Sound Try.prog 147 [.ptr m.nr 0 0 0, .int .i64 q, .int .i64 A, .int .i64 I] h fun v h' =>
      (∃ j : Nat, atR s A I = (j : Int) ∧ j < s.mem[q].length ∧ v = .ptr m.ks[q].1 m.ks[q].2.1 j 0 ∧ WX m s wp bs os h') ∨
      (inB (atR s A I) 0 ((s.mem[q].length : Int) - 1) = false ∧ v = .nilp ∧ WX m { s with st := some 1 } wp bs os h') := by
  obtain ⟨mem, vars, inp, fu, st, val, out⟩ := s
  obtain ⟨ln, wo, bo, f, x⟩ := X
  simp only at hst hq hql hA
  subst hst
  have hd := hdr_at (s := ⟨mem, vars, inp, fu, none, val, out⟩) ln hqk hq
  have rq := x.rgs_at hqk hq
  have b := x.bxs
  simp only [Bxs, wrkB] at b
  have q' := f.one
  have hql2 : mem[q].length ≤ 4294967296 := by omega
  have hw : IntKind.i64.wrap ((mem[q].length : Int) - 1) = (mem[q].length : Int) - 1 := wrap_id (by omega) (by omega)
  have hqk2 : (q : Int) < m.ks.length := by omega
  simp only at hd rq
  refine enter mixed MG90 Try.func147 rfl (by kernel_rfl) rfl ?_
  have fin : ∀ J : Int, inB J 0 ((mem[q].length : Int) - 1) = true → ∃ j : Nat, J = j ∧ j < mem[q].length := fun J h => inB_slot h
  rcases hA with rfl | ⟨a, rfl, ha⟩
  · have hm : ¬ (0 : Int) ≤ -1 := by omega
    have e : atR ⟨mem, vars, inp, fu, none, val, out⟩ (-1) I = I := by simp [atR]
    rw [e]
    cases hb : inB I 0 ((mem[q].length : Int) - 1) with
    | true =>
      obtain ⟨j, hj1, hj2⟩ := fin _ hb
      subst hj1
      have hj3 : (j : Int) < mem[q].length := by omega
      have hj4 : j < (cl1 mem[q]).length := by rw [cl1_len]; exact hj2
      repeat' (first
       | with_reducible refine stp ?_
       | with_reducible refine k_blk_o rfl ?_
       | with_reducible refine k_seq_n ?_
       | ((try (conv => arg 1; simp [b, rq, codeW, hm, hd, hqk, hqk2, hw, hb, hj2, hj3, hj4, q'.1, q'.2.1, q'.2.2, hp.1, hp.2.1, hp.2.2, ltS, nm_ne])); with_reducible refine evp ?_)
       | ((with_reducible refine apn ?na ?_); (case na => simp [appNames, ints, intss] <;> first | kernel_rfl | (refine ⟨?_, ?_⟩ <;> kernel_rfl)))
       | ((with_reducible refine tcl ?_); first | ((apply tg (in_ _ _ _)); (case e => rfl); (case d => (refine dq ?_); (repeat' (first | ((refine Da.mk ?_); first | assumption) | constructor)))))
       | fail)
      exact .inl ⟨j, rfl, hj2, rfl, ln, wo, bo, f, Cx.to x⟩
    | false =>
      repeat' (first
       | with_reducible refine stp ?_
       | with_reducible refine k_blk_o rfl ?_
       | with_reducible refine k_seq_n ?_
       | ((try (conv => arg 1; simp [b, rq, codeW, hm, hd, hqk, hqk2, hw, hb, q'.1, q'.2.1, q'.2.2, hp.1, hp.2.1, hp.2.2, ltS, nm_ne])); with_reducible refine evp ?_)
       | ((with_reducible refine apn ?na ?_); (case na => simp [appNames, ints, intss] <;> first | kernel_rfl | (refine ⟨?_, ?_⟩ <;> kernel_rfl)))
       | ((with_reducible refine tcl ?_); first | ((apply tg (in_ _ _ _)); (case e => rfl); (case d => (refine dq ?_); (repeat' (first | ((refine Da.mk ?_); first | assumption) | constructor)))))
       | fail)
      exact .inr ⟨rfl, rfl, ln, wo, bo, f, Cx.to x⟩
  · have ha2 : (a : Int) < vars.length := by omega
    have hva := cl1_at ha
    have e : atR ⟨mem, vars, inp, fu, none, val, out⟩ a I = w64 (I + rd vars a) := by simp [atR]
    rw [e]
    have hw2 : IntKind.i64.wrap (I + rd vars a) = w64 (I + rd vars a) := rfl
    cases hb : inB (w64 (I + rd vars a)) 0 ((mem[q].length : Int) - 1) with
    | true =>
      obtain ⟨j, hj1, hj2⟩ := fin _ hb
      have hj3 : (j : Int) < mem[q].length := by omega
      have hj4 : j < (cl1 mem[q]).length := by rw [cl1_len]; exact hj2
      rw [hj1] at hw2 hb ⊢
      repeat' (first
       | with_reducible refine stp ?_
       | with_reducible refine k_blk_o rfl ?_
       | with_reducible refine k_seq_n ?_
       | ((try (conv => arg 1; simp [b, rq, codeW, hva, ha, ha2, hd, hqk, hqk2, hw2, hw, hb, hj2, hj3, hj4, q'.1, q'.2.1, q'.2.2, hp.1, hp.2.1, hp.2.2, ltS, nm_ne])); with_reducible refine evp ?_)
       | ((with_reducible refine apn ?na ?_); (case na => simp [appNames, ints, intss] <;> first | kernel_rfl | (refine ⟨?_, ?_⟩ <;> kernel_rfl)))
       | ((with_reducible refine tcl ?_); first | ((apply tg (in_ _ _ _)); (case e => rfl); (case d => (refine dq ?_); (repeat' (first | ((refine Da.mk ?_); first | assumption) | constructor)))))
       | fail)
      exact .inl ⟨j, rfl, hj2, rfl, ln, wo, bo, f, Cx.to x⟩
    | false =>
      repeat' (first
       | with_reducible refine stp ?_
       | with_reducible refine k_blk_o rfl ?_
       | with_reducible refine k_seq_n ?_
       | ((try (conv => arg 1; simp [b, rq, codeW, hva, ha, ha2, hd, hqk, hqk2, hw2, hw, hb, q'.1, q'.2.1, q'.2.2, hp.1, hp.2.1, hp.2.2, ltS, nm_ne])); with_reducible refine evp ?_)
       | ((with_reducible refine apn ?na ?_); (case na => simp [appNames, ints, intss] <;> first | kernel_rfl | (refine ⟨?_, ?_⟩ <;> kernel_rfl)))
       | ((with_reducible refine tcl ?_); first | ((apply tg (in_ _ _ _)); (case e => rfl); (case d => (refine dq ?_); (repeat' (first | ((refine Da.mk ?_); first | assumption) | constructor)))))
       | fail)
      exact .inr ⟨rfl, rfl, ln, wo, bo, f, Cx.to x⟩
end
end Go.Proofs.Ytlmlkkkgcbpaoaa.AM

/-
  A graph's walk, the program's: a step.
-/
set_option linter.unusedVariables false
set_option linter.unusedSimpArgs false
set_option maxRecDepth 4000
namespace Go.Proofs.Ytlmlkkkgcbpaoaa.AM
open Go.RowKit

private def MG91 : FuncId → Mode := fun f => if f = 147 ∨ f = 146 then .heap else .tree

section
variable {h : Hp} {bs : Bx} {os : Ox} {m : RM} {s : Rs} {wp : AV}
set_option maxHeartbeats 4000000 in
theorem instrW (X : WX m s wp bs os h) (hp : wp.one = true ∧ wp.stored = true ∧ wp.cells = [wp]) (hst : s.st = none) {x : Instr} (hx : instrOk s.vars.length s.mem.length x = true) (hm : ∀ q (hq : q < s.mem.length), s.mem[q].length ≤ 16) (hi : s.inp.length ≤ 100) (ho : s.out.length ≤ 100000) :
    Sound Try.prog 123 [.ptr m.nr 0 0 0, .agg x.cells] h fun v h' => v = .bool (stepR s x).st.isNone ∧ WX m (stepR s x) wp bs os h' := by
  have X0 := X
  obtain ⟨mem, vars, inp, fu, st, val, out⟩ := s
  obtain ⟨ln, wo, bo, f, y⟩ := X
  obtain ⟨Op, D, A, B, C, N, Text⟩ := x
  simp only at hst hm hi ho ln f
  subst hst
  have b := y.bxs
  simp only [Bxs, wrkB, codeW] at b
  have q1 := f.one
  have kl : m.kv.1 < h.tick := b.2.2.2.1
  have t1 : m.kv.1 < h.tick + 1 + 1 ∧ m.kv.1 < h.tick + 1 + 1 + 1 ∧ m.kv.1 < h.tick + 1 + 1 + 1 + 1 ∧ m.kv.1 < h.tick + 1 + 1 + 1 + 1 + 1 ∧ m.kv.1 < h.tick + 1 + 1 + 1 + 1 + 1 + 1 ∧ m.kv.1 < h.tick + 1 + 1 + 1 + 1 + 1 + 1 + 1 ∧ m.kv.1 < h.tick + 1 + 1 + 1 + 1 + 1 + 1 + 1 + 1 := by omega
  have t2 : ¬ m.kv.1 = h.tick + 1 + 1 ∧ ¬ m.kv.1 = h.tick + 1 + 1 + 1 ∧ ¬ m.kv.1 = h.tick + 1 + 1 + 1 + 1 ∧ ¬ m.kv.1 = h.tick + 1 + 1 + 1 + 1 + 1 ∧ ¬ m.kv.1 = h.tick + 1 + 1 + 1 + 1 + 1 + 1 ∧ ¬ m.kv.1 = h.tick + 1 + 1 + 1 + 1 + 1 + 1 + 1 := by omega
  refine enter mixed MG91 Try.func123 rfl (by kernel_rfl) rfl ?_
  rcases in_cases hx with ⟨h0, d, hD, hd⟩ | ⟨h0, d, a, ⟨hD, hd⟩, hA, ha⟩ | ⟨h0, d, a, c, ⟨hD, hd⟩, ⟨hA, ha⟩, hB, hc⟩ | ⟨h0, d, hD, hd⟩ | ⟨h0, a, hA, ha⟩ | ⟨h0, d, c, q, ⟨hD, hd⟩, ⟨hB, hc⟩, ⟨hN, hq⟩, hA⟩ | ⟨h0, e, c, q, ⟨hC, he⟩, ⟨hB, hc⟩, ⟨hN, hq⟩, hA⟩
  · simp only at h0 hD
    subst h0 hD
    have hvd := cl1_at hd
    simp only at hd hvd
    have e : stepR ⟨mem, vars, inp, fu, none, val, out⟩ ⟨0, d, A, B, C, N, Text⟩ = ⟨mem, vars.set d N, inp, fu, none, val, out⟩ := by simp [stepR]
    rw [e]
    have hd2 : (d : Int) < vars.length := by omega
    have hd3 : d < (cl1 vars).length := by rw [cl1_len]; exact hd
    repeat' (first
     | with_reducible refine stp ?_
     | with_reducible refine k_blk_o rfl ?_
     | with_reducible refine k_seq_n ?_
     | ((try (conv => arg 1; simp [Instr.cells, b, ltS, nm_ne, tk_ne])); with_reducible refine evp ?_)
     | ((with_reducible refine apn ?na ?_); (case na => simp [appNames, ints, intss] <;> first | kernel_rfl | (refine ⟨?_, ?_⟩ <;> kernel_rfl)))
     | fail)
    repeat (with_reducible first | refine stp ?_ | refine k_seq_n ?_)
    refine st_lz (by kernel_rfl) ?_
    have hF := And.intro b (And.intro hvd (And.intro hd (And.intro hd2 (And.intro hd3 (And.intro t1 t2)))))
    repeat' (first
     | with_reducible refine stp ?_
     | with_reducible refine k_blk_o rfl ?_
     | ((try (conv => arg 1; simp [Instr.cells, @cl1_get, ltS, nm_ne, tk_ne, hF])); with_reducible refine evp ?_)
     | ((with_reducible refine apn ?na ?_); (case na => simp [appNames, ints, intss] <;> first | kernel_rfl | (refine ⟨?_, ?_⟩ <;> kernel_rfl)))
      | ((with_reducible refine la_id ?_); refine la_end rfl ?_; (repeat (first | refine pl_nil ?_ | refine pl_cons ?_)))
      | ((with_reducible refine la_id ?_); refine la_pick ?_; (conv => arg 1; whnf); (repeat ((fail_if_success (first | ((refine la_q0 rfl ?_); (try (conv => arg 1; simp [Instr.cells, @cl1_get, ltS, nm_ne, tk_ne, hF])); with_reducible refine evp ?_) | ((refine la_n rfl rfl ?_); (try (conv => arg 1; simp [Instr.cells, @cl1_get, ltS, nm_ne, tk_ne, hF])); with_reducible refine evp ?_) | ((refine la_q2 rfl (by decide +kernel) ?_); (repeat (first | refine bk_nil ?_ | refine bk_t (by decide +kernel) ?_ | refine bk_f (by decide +kernel) ?_)); (try (conv => arg 1; simp [Instr.cells, @cl1_get, ltS, nm_ne, tk_ne, hF])); with_reducible refine evp ?_) | ((refine la_q1 rfl (by decide +kernel) ?_); (try (conv => arg 1; simp [Instr.cells, @cl1_get, ltS, nm_ne, tk_ne, hF])); with_reducible refine evp ?_) | ((refine la_g0 rfl ?_); (try (conv => arg 1; simp [Instr.cells, @cl1_get, ltS, nm_ne, tk_ne, hF])); with_reducible refine evp ?_; (with_reducible refine evp ?_); try ((try (conv => arg 1; simp [Instr.cells, @cl1_get, ltS, nm_ne, tk_ne, hF])); with_reducible refine evp ?_)))); (refine la_there ?_); (conv => arg 1; whnf))); first | ((refine la_q0 rfl ?_); (try (conv => arg 1; simp [Instr.cells, @cl1_get, ltS, nm_ne, tk_ne, hF])); with_reducible refine evp ?_) | ((refine la_n rfl rfl ?_); (try (conv => arg 1; simp [Instr.cells, @cl1_get, ltS, nm_ne, tk_ne, hF])); with_reducible refine evp ?_) | ((refine la_q2 rfl (by decide +kernel) ?_); (repeat (first | refine bk_nil ?_ | refine bk_t (by decide +kernel) ?_ | refine bk_f (by decide +kernel) ?_)); (try (conv => arg 1; simp [Instr.cells, @cl1_get, ltS, nm_ne, tk_ne, hF])); with_reducible refine evp ?_) | ((refine la_q1 rfl (by decide +kernel) ?_); (try (conv => arg 1; simp [Instr.cells, @cl1_get, ltS, nm_ne, tk_ne, hF])); with_reducible refine evp ?_) | ((refine la_g0 rfl ?_); (try (conv => arg 1; simp [Instr.cells, @cl1_get, ltS, nm_ne, tk_ne, hF])); with_reducible refine evp ?_; (with_reducible refine evp ?_); try ((try (conv => arg 1; simp [Instr.cells, @cl1_get, ltS, nm_ne, tk_ne, hF])); with_reducible refine evp ?_)))
      | ((with_reducible refine la_id ?_); refine la_all rfl ?_)
      | ((with_reducible refine all_id ?_); (conv => arg 1; whnf); first | exact all_nil | refine all_cons ?_ ?_)
      | (refine la_op rfl (by first | exact frm_s (by decide +kernel) | exact frm_a (by repeat' (first | exact fa_nil | refine fa_cons (by decide +kernel) ?_))) (by intro hq; first | exact trivial | (cases hq; done) | simp [appT, Instr.cells, @cl1_get, ltS, nm_ne, tk_ne, hF]) ?_; (repeat (first | refine bk_nil ?_ | refine bk_t (by decide +kernel) ?_ | refine bk_f (by decide +kernel) ?_)))
     | fail)
    refine ⟨rfl, ln, wo, bo, f, ?_⟩
    simp only [wrkB, List.length_set, cl1_set]
    exact Cx.to y
  · simp only at h0 hD hA
    subst h0 hD hA
    have hvd := cl1_at hd
    have hva := cl1_at ha
    simp only at hd hvd ha hva
    have e : stepR ⟨mem, vars, inp, fu, none, val, out⟩ ⟨1, d, a, B, C, N, Text⟩ = ⟨mem, vars.set d (rd vars a), inp, fu, none, val, out⟩ := by simp [stepR]
    rw [e]
    have hd2 : (d : Int) < vars.length := by omega
    have hd3 : d < (cl1 vars).length := by rw [cl1_len]; exact hd
    have ha2 : (a : Int) < vars.length := by omega
    repeat' (first
     | with_reducible refine stp ?_
     | with_reducible refine k_blk_o rfl ?_
     | with_reducible refine k_seq_n ?_
     | ((try (conv => arg 1; simp [Instr.cells, b, ltS, nm_ne, tk_ne])); with_reducible refine evp ?_)
     | ((with_reducible refine apn ?na ?_); (case na => simp [appNames, ints, intss] <;> first | kernel_rfl | (refine ⟨?_, ?_⟩ <;> kernel_rfl)))
     | fail)
    repeat (with_reducible first | refine stp ?_ | refine k_seq_n ?_)
    refine st_lz (by kernel_rfl) ?_
    have hF := And.intro b (And.intro hvd (And.intro hd (And.intro hd2 (And.intro hd3 (And.intro hva (And.intro ha (And.intro ha2 (And.intro t1 t2))))))))
    repeat' (first
     | with_reducible refine stp ?_
     | with_reducible refine k_blk_o rfl ?_
     | ((try (conv => arg 1; simp [Instr.cells, @cl1_get, ltS, nm_ne, tk_ne, hF])); with_reducible refine evp ?_)
     | ((with_reducible refine apn ?na ?_); (case na => simp [appNames, ints, intss] <;> first | kernel_rfl | (refine ⟨?_, ?_⟩ <;> kernel_rfl)))
      | ((with_reducible refine la_id ?_); refine la_end rfl ?_; (repeat (first | refine pl_nil ?_ | refine pl_cons ?_)))
      | ((with_reducible refine la_id ?_); refine la_pick ?_; (conv => arg 1; whnf); (repeat ((fail_if_success (first | ((refine la_q0 rfl ?_); (try (conv => arg 1; simp [Instr.cells, @cl1_get, ltS, nm_ne, tk_ne, hF])); with_reducible refine evp ?_) | ((refine la_n rfl rfl ?_); (try (conv => arg 1; simp [Instr.cells, @cl1_get, ltS, nm_ne, tk_ne, hF])); with_reducible refine evp ?_) | ((refine la_q2 rfl (by decide +kernel) ?_); (repeat (first | refine bk_nil ?_ | refine bk_t (by decide +kernel) ?_ | refine bk_f (by decide +kernel) ?_)); (try (conv => arg 1; simp [Instr.cells, @cl1_get, ltS, nm_ne, tk_ne, hF])); with_reducible refine evp ?_) | ((refine la_q1 rfl (by decide +kernel) ?_); (try (conv => arg 1; simp [Instr.cells, @cl1_get, ltS, nm_ne, tk_ne, hF])); with_reducible refine evp ?_) | ((refine la_g0 rfl ?_); (try (conv => arg 1; simp [Instr.cells, @cl1_get, ltS, nm_ne, tk_ne, hF])); with_reducible refine evp ?_; (with_reducible refine evp ?_); try ((try (conv => arg 1; simp [Instr.cells, @cl1_get, ltS, nm_ne, tk_ne, hF])); with_reducible refine evp ?_)))); (refine la_there ?_); (conv => arg 1; whnf))); first | ((refine la_q0 rfl ?_); (try (conv => arg 1; simp [Instr.cells, @cl1_get, ltS, nm_ne, tk_ne, hF])); with_reducible refine evp ?_) | ((refine la_n rfl rfl ?_); (try (conv => arg 1; simp [Instr.cells, @cl1_get, ltS, nm_ne, tk_ne, hF])); with_reducible refine evp ?_) | ((refine la_q2 rfl (by decide +kernel) ?_); (repeat (first | refine bk_nil ?_ | refine bk_t (by decide +kernel) ?_ | refine bk_f (by decide +kernel) ?_)); (try (conv => arg 1; simp [Instr.cells, @cl1_get, ltS, nm_ne, tk_ne, hF])); with_reducible refine evp ?_) | ((refine la_q1 rfl (by decide +kernel) ?_); (try (conv => arg 1; simp [Instr.cells, @cl1_get, ltS, nm_ne, tk_ne, hF])); with_reducible refine evp ?_) | ((refine la_g0 rfl ?_); (try (conv => arg 1; simp [Instr.cells, @cl1_get, ltS, nm_ne, tk_ne, hF])); with_reducible refine evp ?_; (with_reducible refine evp ?_); try ((try (conv => arg 1; simp [Instr.cells, @cl1_get, ltS, nm_ne, tk_ne, hF])); with_reducible refine evp ?_)))
      | ((with_reducible refine la_id ?_); refine la_all rfl ?_)
      | ((with_reducible refine all_id ?_); (conv => arg 1; whnf); first | exact all_nil | refine all_cons ?_ ?_)
      | (refine la_op rfl (by first | exact frm_s (by decide +kernel) | exact frm_a (by repeat' (first | exact fa_nil | refine fa_cons (by decide +kernel) ?_))) (by intro hq; first | exact trivial | (cases hq; done) | simp [appT, Instr.cells, @cl1_get, ltS, nm_ne, tk_ne, hF]) ?_; (repeat (first | refine bk_nil ?_ | refine bk_t (by decide +kernel) ?_ | refine bk_f (by decide +kernel) ?_)))
     | fail)
    refine ⟨rfl, ln, wo, bo, f, ?_⟩
    simp only [wrkB, List.length_set, cl1_set]
    exact Cx.to y
  · simp only at h0 hD hA hB
    subst h0 hD hA hB
    have hvd := cl1_at hd
    have hva := cl1_at ha
    have hvc := cl1_at hc
    simp only at hd hvd ha hva hc hvc
    have e : stepR ⟨mem, vars, inp, fu, none, val, out⟩ ⟨2, d, a, c, C, N, Text⟩ = ⟨mem, vars.set d (binV Text (rd vars a) (rd vars c)), inp, fu, none, val, out⟩ := by simp [stepR]
    rw [e]
    have hd2 : (d : Int) < vars.length := by omega
    have hd3 : d < (cl1 vars).length := by rw [cl1_len]; exact hd
    have ha2 : (a : Int) < vars.length := by omega
    have hc2 : (c : Int) < vars.length := by omega
    have L := implBin Text (rd vars a) (rd vars c)
    repeat' (first
     | with_reducible refine stp ?_
     | with_reducible refine k_blk_o rfl ?_
     | with_reducible refine k_seq_n ?_
     | ((try (conv => arg 1; simp [Instr.cells, b, ltS, nm_ne, tk_ne])); with_reducible refine evp ?_)
     | ((with_reducible refine apn ?na ?_); (case na => simp [appNames, ints, intss] <;> first | kernel_rfl | (refine ⟨?_, ?_⟩ <;> kernel_rfl)))
     | fail)
    repeat (with_reducible first | refine stp ?_ | refine k_seq_n ?_)
    refine st_lz (by kernel_rfl) ?_
    have hF := And.intro b (And.intro hvd (And.intro hd (And.intro hd2 (And.intro hd3 (And.intro hva (And.intro ha (And.intro ha2 (And.intro hvc (And.intro hc (And.intro hc2 (And.intro t1 t2)))))))))))
    repeat' (first
     | with_reducible refine stp ?_
     | with_reducible refine k_blk_o rfl ?_
     | ((try (conv => arg 1; simp [Instr.cells, @cl1_get, ltS, nm_ne, tk_ne, hF])); with_reducible refine evp ?_)
     | ((with_reducible refine apn ?na ?_); (case na => simp [appNames, ints, intss] <;> first | kernel_rfl | (refine ⟨?_, ?_⟩ <;> kernel_rfl)))
     | ((with_reducible refine tcl ?_); first | ((apply tg (L)); (case e => rfl); (case d => (refine dq ?_); (repeat' (first | ((refine Da.mk ?_); first | assumption) | constructor)))))
      | ((with_reducible refine la_id ?_); refine la_end rfl ?_; (repeat (first | refine pl_nil ?_ | refine pl_cons ?_)))
      | ((with_reducible refine la_id ?_); refine la_pick ?_; (conv => arg 1; whnf); (repeat ((fail_if_success (first | ((refine la_q0 rfl ?_); (try (conv => arg 1; simp [Instr.cells, @cl1_get, ltS, nm_ne, tk_ne, hF])); with_reducible refine evp ?_) | ((refine la_n rfl rfl ?_); (try (conv => arg 1; simp [Instr.cells, @cl1_get, ltS, nm_ne, tk_ne, hF])); with_reducible refine evp ?_) | ((refine la_q2 rfl (by decide +kernel) ?_); (repeat (first | refine bk_nil ?_ | refine bk_t (by decide +kernel) ?_ | refine bk_f (by decide +kernel) ?_)); (try (conv => arg 1; simp [Instr.cells, @cl1_get, ltS, nm_ne, tk_ne, hF])); with_reducible refine evp ?_) | ((refine la_q1 rfl (by decide +kernel) ?_); (try (conv => arg 1; simp [Instr.cells, @cl1_get, ltS, nm_ne, tk_ne, hF])); with_reducible refine evp ?_) | ((refine la_g0 rfl ?_); (try (conv => arg 1; simp [Instr.cells, @cl1_get, ltS, nm_ne, tk_ne, hF])); with_reducible refine evp ?_; (with_reducible refine evp ?_); try ((try (conv => arg 1; simp [Instr.cells, @cl1_get, ltS, nm_ne, tk_ne, hF])); with_reducible refine evp ?_)))); (refine la_there ?_); (conv => arg 1; whnf))); first | ((refine la_q0 rfl ?_); (try (conv => arg 1; simp [Instr.cells, @cl1_get, ltS, nm_ne, tk_ne, hF])); with_reducible refine evp ?_) | ((refine la_n rfl rfl ?_); (try (conv => arg 1; simp [Instr.cells, @cl1_get, ltS, nm_ne, tk_ne, hF])); with_reducible refine evp ?_) | ((refine la_q2 rfl (by decide +kernel) ?_); (repeat (first | refine bk_nil ?_ | refine bk_t (by decide +kernel) ?_ | refine bk_f (by decide +kernel) ?_)); (try (conv => arg 1; simp [Instr.cells, @cl1_get, ltS, nm_ne, tk_ne, hF])); with_reducible refine evp ?_) | ((refine la_q1 rfl (by decide +kernel) ?_); (try (conv => arg 1; simp [Instr.cells, @cl1_get, ltS, nm_ne, tk_ne, hF])); with_reducible refine evp ?_) | ((refine la_g0 rfl ?_); (try (conv => arg 1; simp [Instr.cells, @cl1_get, ltS, nm_ne, tk_ne, hF])); with_reducible refine evp ?_; (with_reducible refine evp ?_); try ((try (conv => arg 1; simp [Instr.cells, @cl1_get, ltS, nm_ne, tk_ne, hF])); with_reducible refine evp ?_)))
      | ((with_reducible refine la_id ?_); refine la_all rfl ?_)
      | ((with_reducible refine all_id ?_); (conv => arg 1; whnf); first | exact all_nil | refine all_cons ?_ ?_)
      | (refine la_op rfl (by first | exact frm_s (by decide +kernel) | exact frm_a (by repeat' (first | exact fa_nil | refine fa_cons (by decide +kernel) ?_))) (by intro hq; first | exact trivial | (cases hq; done) | simp [appT, Instr.cells, @cl1_get, ltS, nm_ne, tk_ne, hF]) ?_; (repeat (first | refine bk_nil ?_ | refine bk_t (by decide +kernel) ?_ | refine bk_f (by decide +kernel) ?_)))
     | fail)
    refine ⟨rfl, ln, wo, bo, f, ?_⟩
    simp only [wrkB, List.length_set, cl1_set]
    exact Cx.to y
  · simp only at h0 hD
    subst h0 hD
    have hvd := cl1_at hd
    simp only at hd hvd
    have e : stepR ⟨mem, vars, inp, fu, none, val, out⟩ ⟨5, d, A, B, C, N, Text⟩ = ⟨mem, vars.set d (inp.head?.getD (-1)), inp.tail, fu, none, val, out⟩ := by simp [stepR]
    rw [e]
    have hd2 : (d : Int) < vars.length := by omega
    have hd3 : d < (cl1 vars).length := by rw [cl1_len]; exact hd
    repeat' (first
     | with_reducible refine stp ?_
     | with_reducible refine k_blk_o rfl ?_
     | ((try (conv => arg 1; simp [Instr.cells])); with_reducible refine evp ?_)
     | ((with_reducible refine apn ?na ?_); (case na => simp [appNames, ints, intss] <;> first | kernel_rfl | (refine ⟨?_, ?_⟩ <;> kernel_rfl)))
     | fail)
    refine gen_k (fun h' => WX m ⟨mem, vars, inp, fu, none, val, out⟩ wp (((h.tick, 0, 0), ⟨0, 7, [[.int .i64 5, .int .i64 d, .int .i64 A, .int .i64 B, .int .i64 C, .int .i64 N, .str Text]]⟩) :: bs) os h') (X0.new _) ?_
    intro h1 X1
    have bx := X1.top
    obtain ⟨ln1, wo1, bo1, f1, y1⟩ := X1
    have b1 := y1.bxs
    simp only [Bxs, wrkB, codeW] at b1
    repeat' (first
     | with_reducible refine stp ?_
     | with_reducible refine k_blk_o rfl ?_
     | with_reducible refine k_seq_n ?_
     | ((try (conv => arg 1; simp [b1, bx, ltS, nm_ne, tk_ne])); with_reducible refine evp ?_)
     | ((with_reducible refine apn ?na ?_); (case na => simp [appNames, ints, intss] <;> first | kernel_rfl | (refine ⟨?_, ?_⟩ <;> kernel_rfl)))
     | fail)
    repeat (with_reducible first | refine stp ?_ | refine k_seq_n ?_)
    refine st_lz (by kernel_rfl) ?_
    have hF := And.intro b1 (And.intro bx (And.intro hvd (And.intro hd (And.intro hd2 hd3))))
    repeat' (first
     | with_reducible refine stp ?_
     | with_reducible refine k_blk_o rfl ?_
     | ((try (conv => arg 1; simp [@cl1_get, ltS, nm_ne, tk_ne, hF])); with_reducible refine evp ?_)
     | ((with_reducible refine apn ?na ?_); (case na => simp [appNames, ints, intss] <;> first | kernel_rfl | (refine ⟨?_, ?_⟩ <;> kernel_rfl)))
      | ((with_reducible refine la_id ?_); refine la_end rfl ?_; (repeat (first | refine pl_nil ?_ | refine pl_cons ?_)))
      | ((with_reducible refine la_id ?_); refine la_pick ?_; (conv => arg 1; whnf); (repeat ((fail_if_success (first | ((refine la_q0 rfl ?_); (try (conv => arg 1; simp [@cl1_get, ltS, nm_ne, tk_ne, hF])); with_reducible refine evp ?_) | ((refine la_n rfl rfl ?_); (try (conv => arg 1; simp [@cl1_get, ltS, nm_ne, tk_ne, hF])); with_reducible refine evp ?_) | ((refine la_q2 rfl (by decide +kernel) ?_); (repeat (first | refine bk_nil ?_ | refine bk_t (by decide +kernel) ?_ | refine bk_f (by decide +kernel) ?_)); (try (conv => arg 1; simp [@cl1_get, ltS, nm_ne, tk_ne, hF])); with_reducible refine evp ?_) | ((refine la_q1 rfl (by decide +kernel) ?_); (try (conv => arg 1; simp [@cl1_get, ltS, nm_ne, tk_ne, hF])); with_reducible refine evp ?_) | ((refine la_g0 rfl ?_); (try (conv => arg 1; simp [@cl1_get, ltS, nm_ne, tk_ne, hF])); with_reducible refine evp ?_; (with_reducible refine evp ?_); try ((try (conv => arg 1; simp [@cl1_get, ltS, nm_ne, tk_ne, hF])); with_reducible refine evp ?_)))); (refine la_there ?_); (conv => arg 1; whnf))); first | ((refine la_q0 rfl ?_); (try (conv => arg 1; simp [@cl1_get, ltS, nm_ne, tk_ne, hF])); with_reducible refine evp ?_) | ((refine la_n rfl rfl ?_); (try (conv => arg 1; simp [@cl1_get, ltS, nm_ne, tk_ne, hF])); with_reducible refine evp ?_) | ((refine la_q2 rfl (by decide +kernel) ?_); (repeat (first | refine bk_nil ?_ | refine bk_t (by decide +kernel) ?_ | refine bk_f (by decide +kernel) ?_)); (try (conv => arg 1; simp [@cl1_get, ltS, nm_ne, tk_ne, hF])); with_reducible refine evp ?_) | ((refine la_q1 rfl (by decide +kernel) ?_); (try (conv => arg 1; simp [@cl1_get, ltS, nm_ne, tk_ne, hF])); with_reducible refine evp ?_) | ((refine la_g0 rfl ?_); (try (conv => arg 1; simp [@cl1_get, ltS, nm_ne, tk_ne, hF])); with_reducible refine evp ?_; (with_reducible refine evp ?_); try ((try (conv => arg 1; simp [@cl1_get, ltS, nm_ne, tk_ne, hF])); with_reducible refine evp ?_)))
      | ((with_reducible refine la_id ?_); refine la_all rfl ?_)
      | ((with_reducible refine all_id ?_); (conv => arg 1; whnf); first | exact all_nil | refine all_cons ?_ ?_)
      | (refine la_op rfl (by first | exact frm_s (by decide +kernel) | exact frm_a (by repeat' (first | exact fa_nil | refine fa_cons (by decide +kernel) ?_))) (by intro hq; first | exact trivial | (cases hq; done) | simp [appT, @cl1_get, ltS, nm_ne, tk_ne, hF]) ?_; (repeat (first | refine bk_nil ?_ | refine bk_t (by decide +kernel) ?_ | refine bk_f (by decide +kernel) ?_)))
     | fail)
    all_goals
      refine st_heap rfl (getW ⟨ln1, wo1, bo1, f1, Cx.to y1⟩ hp hi) ?_
      rintro v h2 ⟨rfl, X2⟩
      have X3 := X2
      have bx2 := X2.top
      obtain ⟨ln2, wo2, bo2, f2, y2⟩ := X2
      have b2 := y2.bxs
      simp only [Bxs, wrkB, codeW] at b2
      have hF := And.intro b2 (And.intro bx2 (And.intro hvd (And.intro hd (And.intro hd2 hd3))))
      repeat' (first
       | with_reducible refine stp ?_
       | with_reducible refine k_blk_o rfl ?_
       | ((try (conv => arg 1; simp [@cl1_get, ltS, nm_ne, tk_ne, hF])); with_reducible refine evp ?_)
       | ((with_reducible refine apn ?na ?_); (case na => simp [appNames, ints, intss] <;> first | kernel_rfl | (refine ⟨?_, ?_⟩ <;> kernel_rfl)))
        | ((with_reducible refine la_id ?_); refine la_end rfl ?_; (repeat (first | refine pl_nil ?_ | refine pl_cons ?_)))
        | ((with_reducible refine la_id ?_); refine la_pick ?_; (conv => arg 1; whnf); (repeat ((fail_if_success (first | ((refine la_q0 rfl ?_); (try (conv => arg 1; simp [@cl1_get, ltS, nm_ne, tk_ne, hF])); with_reducible refine evp ?_) | ((refine la_n rfl rfl ?_); (try (conv => arg 1; simp [@cl1_get, ltS, nm_ne, tk_ne, hF])); with_reducible refine evp ?_) | ((refine la_q2 rfl (by decide +kernel) ?_); (repeat (first | refine bk_nil ?_ | refine bk_t (by decide +kernel) ?_ | refine bk_f (by decide +kernel) ?_)); (try (conv => arg 1; simp [@cl1_get, ltS, nm_ne, tk_ne, hF])); with_reducible refine evp ?_) | ((refine la_q1 rfl (by decide +kernel) ?_); (try (conv => arg 1; simp [@cl1_get, ltS, nm_ne, tk_ne, hF])); with_reducible refine evp ?_) | ((refine la_g0 rfl ?_); (try (conv => arg 1; simp [@cl1_get, ltS, nm_ne, tk_ne, hF])); with_reducible refine evp ?_; (with_reducible refine evp ?_); try ((try (conv => arg 1; simp [@cl1_get, ltS, nm_ne, tk_ne, hF])); with_reducible refine evp ?_)))); (refine la_there ?_); (conv => arg 1; whnf))); first | ((refine la_q0 rfl ?_); (try (conv => arg 1; simp [@cl1_get, ltS, nm_ne, tk_ne, hF])); with_reducible refine evp ?_) | ((refine la_n rfl rfl ?_); (try (conv => arg 1; simp [@cl1_get, ltS, nm_ne, tk_ne, hF])); with_reducible refine evp ?_) | ((refine la_q2 rfl (by decide +kernel) ?_); (repeat (first | refine bk_nil ?_ | refine bk_t (by decide +kernel) ?_ | refine bk_f (by decide +kernel) ?_)); (try (conv => arg 1; simp [@cl1_get, ltS, nm_ne, tk_ne, hF])); with_reducible refine evp ?_) | ((refine la_q1 rfl (by decide +kernel) ?_); (try (conv => arg 1; simp [@cl1_get, ltS, nm_ne, tk_ne, hF])); with_reducible refine evp ?_) | ((refine la_g0 rfl ?_); (try (conv => arg 1; simp [@cl1_get, ltS, nm_ne, tk_ne, hF])); with_reducible refine evp ?_; (with_reducible refine evp ?_); try ((try (conv => arg 1; simp [@cl1_get, ltS, nm_ne, tk_ne, hF])); with_reducible refine evp ?_)))
        | ((with_reducible refine la_id ?_); refine la_all rfl ?_)
        | ((with_reducible refine all_id ?_); (conv => arg 1; whnf); first | exact all_nil | refine all_cons ?_ ?_)
        | (refine la_op rfl (by first | exact frm_s (by decide +kernel) | exact frm_a (by repeat' (first | exact fa_nil | refine fa_cons (by decide +kernel) ?_))) (by intro hq; first | exact trivial | (cases hq; done) | simp [appT, @cl1_get, ltS, nm_ne, tk_ne, hF]) ?_; (repeat (first | refine bk_nil ?_ | refine bk_t (by decide +kernel) ?_ | refine bk_f (by decide +kernel) ?_)))
       | fail)
      refine ⟨rfl, X3.dropOf ⟨ln2, wo2, bo2, f2, ?_⟩⟩
      simp only [wrkB, List.length_set, cl1_set]
      exact Cx.to y2
  · simp only at h0 hA
    subst h0 hA
    have hva := cl1_at ha
    simp only at ha hva
    have e : stepR ⟨mem, vars, inp, fu, none, val, out⟩ ⟨6, D, a, B, C, N, Text⟩ = ⟨mem, vars, inp, fu, none, val, out ++ [rd vars a]⟩ := by simp [stepR]
    rw [e]
    have ha2 : (a : Int) < vars.length := by omega
    repeat' (first
     | with_reducible refine stp ?_
     | with_reducible refine k_blk_o rfl ?_
     | ((try (conv => arg 1; simp [Instr.cells])); with_reducible refine evp ?_)
     | ((with_reducible refine apn ?na ?_); (case na => simp [appNames, ints, intss] <;> first | kernel_rfl | (refine ⟨?_, ?_⟩ <;> kernel_rfl)))
     | fail)
    refine gen_k (fun h' => WX m ⟨mem, vars, inp, fu, none, val, out⟩ wp (((h.tick, 0, 0), ⟨0, 7, [[.int .i64 6, .int .i64 D, .int .i64 a, .int .i64 B, .int .i64 C, .int .i64 N, .str Text]]⟩) :: bs) os h') (X0.new _) ?_
    intro h1 X1
    have bx := X1.top
    obtain ⟨ln1, wo1, bo1, f1, y1⟩ := X1
    have b1 := y1.bxs
    simp only [Bxs, wrkB, codeW] at b1
    have q2 := f1.one
    repeat' (first
     | with_reducible refine stp ?_
     | with_reducible refine k_blk_o rfl ?_
     | with_reducible refine k_seq_n ?_
     | ((try (conv => arg 1; simp [b1, bx, q2.1, q2.2.1, q2.2.2, hp.1, hp.2.1, hp.2.2, ltS, nm_ne, tk_ne])); with_reducible refine evp ?_)
     | ((with_reducible refine apn ?na ?_); (case na => simp [appNames, ints, intss] <;> first | kernel_rfl | (refine ⟨?_, ?_⟩ <;> kernel_rfl)))
     | fail)
    repeat (with_reducible first | refine stp ?_ | refine k_seq_n ?_)
    refine st_lz (by kernel_rfl) ?_
    have hF := And.intro b1 (And.intro bx (And.intro hva (And.intro ha (And.intro ha2 (And.intro q2.1 (And.intro q2.2.1 (And.intro q2.2.2 (And.intro hp.1 (And.intro hp.2.1 hp.2.2)))))))))
    repeat' (first
     | with_reducible refine stp ?_
     | with_reducible refine k_blk_o rfl ?_
     | ((try (conv => arg 1; simp [@cl1_get, ltS, nm_ne, tk_ne, hF])); with_reducible refine evp ?_)
     | ((with_reducible refine apn ?na ?_); (case na => simp [appNames, ints, intss] <;> first | kernel_rfl | (refine ⟨?_, ?_⟩ <;> kernel_rfl)))
      | ((with_reducible refine la_id ?_); refine la_end rfl ?_; (repeat (first | refine pl_nil ?_ | refine pl_cons ?_)))
      | ((with_reducible refine la_id ?_); refine la_pick ?_; (conv => arg 1; whnf); (repeat ((fail_if_success (first | ((refine la_q0 rfl ?_); (try (conv => arg 1; simp [@cl1_get, ltS, nm_ne, tk_ne, hF])); with_reducible refine evp ?_) | ((refine la_n rfl rfl ?_); (try (conv => arg 1; simp [@cl1_get, ltS, nm_ne, tk_ne, hF])); with_reducible refine evp ?_) | ((refine la_q2 rfl (by decide +kernel) ?_); (repeat (first | refine bk_nil ?_ | refine bk_t (by decide +kernel) ?_ | refine bk_f (by decide +kernel) ?_)); (try (conv => arg 1; simp [@cl1_get, ltS, nm_ne, tk_ne, hF])); with_reducible refine evp ?_) | ((refine la_q1 rfl (by decide +kernel) ?_); (try (conv => arg 1; simp [@cl1_get, ltS, nm_ne, tk_ne, hF])); with_reducible refine evp ?_) | ((refine la_g0 rfl ?_); (try (conv => arg 1; simp [@cl1_get, ltS, nm_ne, tk_ne, hF])); with_reducible refine evp ?_; (with_reducible refine evp ?_); try ((try (conv => arg 1; simp [@cl1_get, ltS, nm_ne, tk_ne, hF])); with_reducible refine evp ?_)))); (refine la_there ?_); (conv => arg 1; whnf))); first | ((refine la_q0 rfl ?_); (try (conv => arg 1; simp [@cl1_get, ltS, nm_ne, tk_ne, hF])); with_reducible refine evp ?_) | ((refine la_n rfl rfl ?_); (try (conv => arg 1; simp [@cl1_get, ltS, nm_ne, tk_ne, hF])); with_reducible refine evp ?_) | ((refine la_q2 rfl (by decide +kernel) ?_); (repeat (first | refine bk_nil ?_ | refine bk_t (by decide +kernel) ?_ | refine bk_f (by decide +kernel) ?_)); (try (conv => arg 1; simp [@cl1_get, ltS, nm_ne, tk_ne, hF])); with_reducible refine evp ?_) | ((refine la_q1 rfl (by decide +kernel) ?_); (try (conv => arg 1; simp [@cl1_get, ltS, nm_ne, tk_ne, hF])); with_reducible refine evp ?_) | ((refine la_g0 rfl ?_); (try (conv => arg 1; simp [@cl1_get, ltS, nm_ne, tk_ne, hF])); with_reducible refine evp ?_; (with_reducible refine evp ?_); try ((try (conv => arg 1; simp [@cl1_get, ltS, nm_ne, tk_ne, hF])); with_reducible refine evp ?_)))
      | ((with_reducible refine la_id ?_); refine la_all rfl ?_)
      | ((with_reducible refine all_id ?_); (conv => arg 1; whnf); first | exact all_nil | refine all_cons ?_ ?_)
      | (refine la_op rfl (by first | exact frm_s (by decide +kernel) | exact frm_a (by repeat' (first | exact fa_nil | refine fa_cons (by decide +kernel) ?_))) (by intro hq; first | exact trivial | (cases hq; done) | simp [appT, @cl1_get, ltS, nm_ne, tk_ne, hF]) ?_; (repeat (first | refine bk_nil ?_ | refine bk_t (by decide +kernel) ?_ | refine bk_f (by decide +kernel) ?_)))
     | fail)
    conv => arg 1; simp
    refine out_app (l := out) (e := rd vars a) (fs := [(m.nr, wrkB m ⟨mem, vars, inp, fu, none, val, out⟩ wo1 wp), (m.kv, ⟨m.vv, 1, cl1 vars⟩), (m.km, ⟨m.vm, 1, m.hdr⟩)]) (by kernel_rfl) f1 (Cx.to y1) ?hk ?hl ?hn ?ht ?kk
    case hk => simp
    case hl => omega
    case hn => refine Cx.new_nin y1 ?_; first | (simp; done) | (simp; omega) | omega
    case ht => simp
    intro w' b' h2 fl' y2 tk q'
    have X3 : WX m ⟨mem, vars, inp, fu, none, val, out⟩ wp (((h.tick, 0, 0), ⟨0, 7, [[.int .i64 6, .int .i64 D, .int .i64 a, .int .i64 B, .int .i64 C, .int .i64 N, .str Text]]⟩) :: bs) os h1 := ⟨ln1, wo1, bo1, f1, y1⟩
    simp only [List.cons_append, List.nil_append] at y2
    have b2 := y2.bxs
    simp only [Bxs, wrkB, codeW] at b2
    have hF := And.intro b2 (And.intro q'.1 (And.intro q'.2.1 (And.intro q'.2.2 (And.intro hp.1 (And.intro hp.2.1 hp.2.2)))))
    repeat' (first
     | with_reducible refine stp ?_
     | with_reducible refine k_blk_o rfl ?_
     | ((try (conv => arg 1; simp [ltS, nm_ne, tk_ne, hF])); with_reducible refine evp ?_)
     | ((with_reducible refine apn ?na ?_); (case na => simp [appNames, ints, intss] <;> first | kernel_rfl | (refine ⟨?_, ?_⟩ <;> kernel_rfl)))
      | ((with_reducible refine la_id ?_); refine la_end rfl ?_; (repeat (first | refine pl_nil ?_ | refine pl_cons ?_)))
      | ((with_reducible refine la_id ?_); refine la_pick ?_; (conv => arg 1; whnf); (repeat ((fail_if_success (first | ((refine la_q0 rfl ?_); (try (conv => arg 1; simp [ltS, nm_ne, tk_ne, hF])); with_reducible refine evp ?_) | ((refine la_n rfl rfl ?_); (try (conv => arg 1; simp [ltS, nm_ne, tk_ne, hF])); with_reducible refine evp ?_) | ((refine la_q2 rfl (by decide +kernel) ?_); (repeat (first | refine bk_nil ?_ | refine bk_t (by decide +kernel) ?_ | refine bk_f (by decide +kernel) ?_)); (try (conv => arg 1; simp [ltS, nm_ne, tk_ne, hF])); with_reducible refine evp ?_) | ((refine la_q1 rfl (by decide +kernel) ?_); (try (conv => arg 1; simp [ltS, nm_ne, tk_ne, hF])); with_reducible refine evp ?_) | ((refine la_g0 rfl ?_); (try (conv => arg 1; simp [ltS, nm_ne, tk_ne, hF])); with_reducible refine evp ?_; (with_reducible refine evp ?_); try ((try (conv => arg 1; simp [ltS, nm_ne, tk_ne, hF])); with_reducible refine evp ?_)))); (refine la_there ?_); (conv => arg 1; whnf))); first | ((refine la_q0 rfl ?_); (try (conv => arg 1; simp [ltS, nm_ne, tk_ne, hF])); with_reducible refine evp ?_) | ((refine la_n rfl rfl ?_); (try (conv => arg 1; simp [ltS, nm_ne, tk_ne, hF])); with_reducible refine evp ?_) | ((refine la_q2 rfl (by decide +kernel) ?_); (repeat (first | refine bk_nil ?_ | refine bk_t (by decide +kernel) ?_ | refine bk_f (by decide +kernel) ?_)); (try (conv => arg 1; simp [ltS, nm_ne, tk_ne, hF])); with_reducible refine evp ?_) | ((refine la_q1 rfl (by decide +kernel) ?_); (try (conv => arg 1; simp [ltS, nm_ne, tk_ne, hF])); with_reducible refine evp ?_) | ((refine la_g0 rfl ?_); (try (conv => arg 1; simp [ltS, nm_ne, tk_ne, hF])); with_reducible refine evp ?_; (with_reducible refine evp ?_); try ((try (conv => arg 1; simp [ltS, nm_ne, tk_ne, hF])); with_reducible refine evp ?_)))
      | ((with_reducible refine la_id ?_); refine la_all rfl ?_)
      | ((with_reducible refine all_id ?_); (conv => arg 1; whnf); first | exact all_nil | refine all_cons ?_ ?_)
      | (refine la_op rfl (by first | exact frm_s (by decide +kernel) | exact frm_a (by repeat' (first | exact fa_nil | refine fa_cons (by decide +kernel) ?_))) (by intro hq; first | exact trivial | (cases hq; done) | simp [appT, ltS, nm_ne, tk_ne, hF]) ?_; (repeat (first | refine bk_nil ?_ | refine bk_t (by decide +kernel) ?_ | refine bk_f (by decide +kernel) ?_)))
     | fail)
    exact ⟨rfl, X3.dropOf ⟨ln1, w', b', fl', Cx.to y2⟩⟩
  · simp only at h0 hD hB hN
    subst h0 hD hB hN
    have hvd := cl1_at hd
    have hvc := cl1_at hc
    simp only at hd hvd hc hvc hq hA
    have hkl := ks_len (s := ⟨mem, vars, inp, fu, none, val, out⟩) ln
    simp only at hkl
    have hqk : q < m.ks.length := by omega
    have hqk2 : (q : Int) < m.ks.length := by omega
    have hdr := hdr_at (s := ⟨mem, vars, inp, fu, none, val, out⟩) ln hqk hq
    simp only at hdr
    have hgq : mem.getD q [] = mem[q] := by simp [hq]
    have hix : idxR ⟨mem, vars, inp, fu, none, val, out⟩ ⟨3, d, A, c, C, q, Text⟩ = atR ⟨mem, vars, inp, fu, none, val, out⟩ A (rd vars c) := rfl
    have hd2 : (d : Int) < vars.length := by omega
    have hd3 : d < (cl1 vars).length := by rw [cl1_len]; exact hd
    have hc2 : (c : Int) < vars.length := by omega
    repeat' (first
     | with_reducible refine stp ?_
     | with_reducible refine k_blk_o rfl ?_
     | ((try (conv => arg 1; simp [Instr.cells])); with_reducible refine evp ?_)
     | ((with_reducible refine apn ?na ?_); (case na => simp [appNames, ints, intss] <;> first | kernel_rfl | (refine ⟨?_, ?_⟩ <;> kernel_rfl)))
     | fail)
    refine gen_k (fun h' => WX m ⟨mem, vars, inp, fu, none, val, out⟩ wp (((h.tick, 0, 0), ⟨0, 7, [[.int .i64 3, .int .i64 d, .int .i64 A, .int .i64 c, .int .i64 C, .int .i64 q, .str Text]]⟩) :: bs) os h') (X0.new _) ?_
    intro h1 X1
    have bx := X1.top
    obtain ⟨ln1, wo1, bo1, f1, y1⟩ := X1
    have b1 := y1.bxs
    simp only [Bxs, wrkB, codeW] at b1
    repeat' (first
     | with_reducible refine stp ?_
     | with_reducible refine k_blk_o rfl ?_
     | with_reducible refine k_seq_n ?_
     | ((try (conv => arg 1; simp [b1, bx, ltS, nm_ne, tk_ne])); with_reducible refine evp ?_)
     | ((with_reducible refine apn ?na ?_); (case na => simp [appNames, ints, intss] <;> first | kernel_rfl | (refine ⟨?_, ?_⟩ <;> kernel_rfl)))
     | fail)
    repeat (with_reducible first | refine stp ?_ | refine k_seq_n ?_)
    refine st_lz (by kernel_rfl) ?_
    have hF := And.intro b1 (And.intro bx (And.intro hvc (And.intro hc hc2)))
    repeat' (first
     | with_reducible refine stp ?_
     | with_reducible refine k_blk_o rfl ?_
     | ((try (conv => arg 1; simp [@cl1_get, ltS, nm_ne, tk_ne, hF])); with_reducible refine evp ?_)
     | ((with_reducible refine apn ?na ?_); (case na => simp [appNames, ints, intss] <;> first | kernel_rfl | (refine ⟨?_, ?_⟩ <;> kernel_rfl)))
      | ((with_reducible refine la_id ?_); refine la_end rfl ?_; (repeat (first | refine pl_nil ?_ | refine pl_cons ?_)))
      | ((with_reducible refine la_id ?_); refine la_pick ?_; (conv => arg 1; whnf); (repeat ((fail_if_success (first | ((refine la_q0 rfl ?_); (try (conv => arg 1; simp [@cl1_get, ltS, nm_ne, tk_ne, hF])); with_reducible refine evp ?_) | ((refine la_n rfl rfl ?_); (try (conv => arg 1; simp [@cl1_get, ltS, nm_ne, tk_ne, hF])); with_reducible refine evp ?_) | ((refine la_q2 rfl (by decide +kernel) ?_); (repeat (first | refine bk_nil ?_ | refine bk_t (by decide +kernel) ?_ | refine bk_f (by decide +kernel) ?_)); (try (conv => arg 1; simp [@cl1_get, ltS, nm_ne, tk_ne, hF])); with_reducible refine evp ?_) | ((refine la_q1 rfl (by decide +kernel) ?_); (try (conv => arg 1; simp [@cl1_get, ltS, nm_ne, tk_ne, hF])); with_reducible refine evp ?_) | ((refine la_g0 rfl ?_); (try (conv => arg 1; simp [@cl1_get, ltS, nm_ne, tk_ne, hF])); with_reducible refine evp ?_; (with_reducible refine evp ?_); try ((try (conv => arg 1; simp [@cl1_get, ltS, nm_ne, tk_ne, hF])); with_reducible refine evp ?_)))); (refine la_there ?_); (conv => arg 1; whnf))); first | ((refine la_q0 rfl ?_); (try (conv => arg 1; simp [@cl1_get, ltS, nm_ne, tk_ne, hF])); with_reducible refine evp ?_) | ((refine la_n rfl rfl ?_); (try (conv => arg 1; simp [@cl1_get, ltS, nm_ne, tk_ne, hF])); with_reducible refine evp ?_) | ((refine la_q2 rfl (by decide +kernel) ?_); (repeat (first | refine bk_nil ?_ | refine bk_t (by decide +kernel) ?_ | refine bk_f (by decide +kernel) ?_)); (try (conv => arg 1; simp [@cl1_get, ltS, nm_ne, tk_ne, hF])); with_reducible refine evp ?_) | ((refine la_q1 rfl (by decide +kernel) ?_); (try (conv => arg 1; simp [@cl1_get, ltS, nm_ne, tk_ne, hF])); with_reducible refine evp ?_) | ((refine la_g0 rfl ?_); (try (conv => arg 1; simp [@cl1_get, ltS, nm_ne, tk_ne, hF])); with_reducible refine evp ?_; (with_reducible refine evp ?_); try ((try (conv => arg 1; simp [@cl1_get, ltS, nm_ne, tk_ne, hF])); with_reducible refine evp ?_)))
      | ((with_reducible refine la_id ?_); refine la_all rfl ?_)
      | ((with_reducible refine all_id ?_); (conv => arg 1; whnf); first | exact all_nil | refine all_cons ?_ ?_)
      | (refine la_op rfl (by first | exact frm_s (by decide +kernel) | exact frm_a (by repeat' (first | exact fa_nil | refine fa_cons (by decide +kernel) ?_))) (by intro hq; first | exact trivial | (cases hq; done) | simp [appT, @cl1_get, ltS, nm_ne, tk_ne, hF]) ?_; (repeat (first | refine bk_nil ?_ | refine bk_t (by decide +kernel) ?_ | refine bk_f (by decide +kernel) ?_)))
     | fail)
    all_goals
      refine st_heap rfl (placeW ⟨ln1, wo1, bo1, f1, Cx.to y1⟩ hp rfl hq (hm q hq) hA (rd vars c) hqk) ?_
      rintro v h2 (⟨j, hj1, hj2, rfl, X2⟩ | ⟨hj, rfl, X2⟩)
      · skip
        have hj2 : j < mem[q].length := hj2
        have hj : inB (atR ⟨mem, vars, inp, fu, none, val, out⟩ A (rd vars c)) 0 ((mem[q].length : Int) - 1) = true := by rw [hj1]; simp [inB]; omega
        have e : stepR ⟨mem, vars, inp, fu, none, val, out⟩ ⟨3, d, A, c, C, q, Text⟩ = ⟨mem, vars.set d (rd mem[q] (atR ⟨mem, vars, inp, fu, none, val, out⟩ A (rd vars c))), inp, fu, none, val, out⟩ := by simp [stepR, hix, memR, hq, hj]
        rw [e]
        rw [hj1]
        have hj3 : (j : Int) < mem[q].length := by omega
        have hj4 : j < (cl1 mem[q]).length := by rw [cl1_len]; exact hj2
        have X3 := X2
        have bx2 := X2.top
        obtain ⟨ln2, wo2, bo2, f2, y2⟩ := X2
        have b2 := y2.bxs
        simp only [Bxs, wrkB, codeW] at b2
        have rq := y2.rgs_at hqk hq
        simp only at rq
        repeat' (first
         | with_reducible refine stp ?_
         | with_reducible refine k_blk_o rfl ?_
         | ((try (conv => arg 1; simp [b2, bx2, ltS, nm_ne, tk_ne])); with_reducible refine evp ?_)
         | ((with_reducible refine apn ?na ?_); (case na => simp [appNames, ints, intss] <;> first | kernel_rfl | (refine ⟨?_, ?_⟩ <;> kernel_rfl)))
          | ((with_reducible refine la_id ?_); refine la_end rfl ?_; (repeat (first | refine pl_nil ?_ | refine pl_cons ?_)))
          | ((with_reducible refine la_id ?_); refine la_pick ?_; (conv => arg 1; whnf); (repeat ((fail_if_success (first | ((refine la_q0 rfl ?_); (try (conv => arg 1; simp [b2, bx2, ltS, nm_ne, tk_ne])); with_reducible refine evp ?_) | ((refine la_n rfl rfl ?_); (try (conv => arg 1; simp [b2, bx2, ltS, nm_ne, tk_ne])); with_reducible refine evp ?_) | ((refine la_q2 rfl (by decide +kernel) ?_); (repeat (first | refine bk_nil ?_ | refine bk_t (by decide +kernel) ?_ | refine bk_f (by decide +kernel) ?_)); (try (conv => arg 1; simp [b2, bx2, ltS, nm_ne, tk_ne])); with_reducible refine evp ?_) | ((refine la_q1 rfl (by decide +kernel) ?_); (try (conv => arg 1; simp [b2, bx2, ltS, nm_ne, tk_ne])); with_reducible refine evp ?_) | ((refine la_g0 rfl ?_); (try (conv => arg 1; simp [b2, bx2, ltS, nm_ne, tk_ne])); with_reducible refine evp ?_; (with_reducible refine evp ?_); try ((try (conv => arg 1; simp [b2, bx2, ltS, nm_ne, tk_ne])); with_reducible refine evp ?_)))); (refine la_there ?_); (conv => arg 1; whnf))); first | ((refine la_q0 rfl ?_); (try (conv => arg 1; simp [b2, bx2, ltS, nm_ne, tk_ne])); with_reducible refine evp ?_) | ((refine la_n rfl rfl ?_); (try (conv => arg 1; simp [b2, bx2, ltS, nm_ne, tk_ne])); with_reducible refine evp ?_) | ((refine la_q2 rfl (by decide +kernel) ?_); (repeat (first | refine bk_nil ?_ | refine bk_t (by decide +kernel) ?_ | refine bk_f (by decide +kernel) ?_)); (try (conv => arg 1; simp [b2, bx2, ltS, nm_ne, tk_ne])); with_reducible refine evp ?_) | ((refine la_q1 rfl (by decide +kernel) ?_); (try (conv => arg 1; simp [b2, bx2, ltS, nm_ne, tk_ne])); with_reducible refine evp ?_) | ((refine la_g0 rfl ?_); (try (conv => arg 1; simp [b2, bx2, ltS, nm_ne, tk_ne])); with_reducible refine evp ?_; (with_reducible refine evp ?_); try ((try (conv => arg 1; simp [b2, bx2, ltS, nm_ne, tk_ne])); with_reducible refine evp ?_)))
          | ((with_reducible refine la_id ?_); refine la_all rfl ?_)
          | ((with_reducible refine all_id ?_); (conv => arg 1; whnf); first | exact all_nil | refine all_cons ?_ ?_)
          | (refine la_op rfl (by first | exact frm_s (by decide +kernel) | exact frm_a (by repeat' (first | exact fa_nil | refine fa_cons (by decide +kernel) ?_))) (by intro hq; first | exact trivial | (cases hq; done) | simp [appT, b2, bx2, ltS, nm_ne, tk_ne]) ?_; (repeat (first | refine bk_nil ?_ | refine bk_t (by decide +kernel) ?_ | refine bk_f (by decide +kernel) ?_)))
         | fail)
        repeat' (first
         | with_reducible refine stp ?_
         | with_reducible refine k_blk_o rfl ?_
         | with_reducible refine k_seq_n ?_
         | ((try (conv => arg 1; simp [b2, bx2, hj1, ltS, nm_ne, tk_ne])); with_reducible refine evp ?_)
         | ((with_reducible refine apn ?na ?_); (case na => simp [appNames, ints, intss] <;> first | kernel_rfl | (refine ⟨?_, ?_⟩ <;> kernel_rfl)))
         | fail)
        repeat (with_reducible first | refine stp ?_ | refine k_seq_n ?_)
        refine st_lz (by kernel_rfl) ?_
        have hF := And.intro b2 (And.intro bx2 (And.intro rq (And.intro hdr (And.intro hqk (And.intro hqk2 (And.intro hj2 (And.intro hj3 (And.intro hj4 (And.intro hvd (And.intro hd (And.intro hd2 hd3)))))))))))
        repeat' (first
         | with_reducible refine stp ?_
         | with_reducible refine k_blk_o rfl ?_
         | ((try (conv => arg 1; simp [@cl1_get, ltS, nm_ne, tk_ne, hF])); with_reducible refine evp ?_)
         | ((with_reducible refine apn ?na ?_); (case na => simp [appNames, ints, intss] <;> first | kernel_rfl | (refine ⟨?_, ?_⟩ <;> kernel_rfl)))
          | ((with_reducible refine la_id ?_); refine la_end rfl ?_; (repeat (first | refine pl_nil ?_ | refine pl_cons ?_)))
          | ((with_reducible refine la_id ?_); refine la_pick ?_; (conv => arg 1; whnf); (repeat ((fail_if_success (first | ((refine la_q0 rfl ?_); (try (conv => arg 1; simp [@cl1_get, ltS, nm_ne, tk_ne, hF])); with_reducible refine evp ?_) | ((refine la_n rfl rfl ?_); (try (conv => arg 1; simp [@cl1_get, ltS, nm_ne, tk_ne, hF])); with_reducible refine evp ?_) | ((refine la_q2 rfl (by decide +kernel) ?_); (repeat (first | refine bk_nil ?_ | refine bk_t (by decide +kernel) ?_ | refine bk_f (by decide +kernel) ?_)); (try (conv => arg 1; simp [@cl1_get, ltS, nm_ne, tk_ne, hF])); with_reducible refine evp ?_) | ((refine la_q1 rfl (by decide +kernel) ?_); (try (conv => arg 1; simp [@cl1_get, ltS, nm_ne, tk_ne, hF])); with_reducible refine evp ?_) | ((refine la_g0 rfl ?_); (try (conv => arg 1; simp [@cl1_get, ltS, nm_ne, tk_ne, hF])); with_reducible refine evp ?_; (with_reducible refine evp ?_); try ((try (conv => arg 1; simp [@cl1_get, ltS, nm_ne, tk_ne, hF])); with_reducible refine evp ?_)))); (refine la_there ?_); (conv => arg 1; whnf))); first | ((refine la_q0 rfl ?_); (try (conv => arg 1; simp [@cl1_get, ltS, nm_ne, tk_ne, hF])); with_reducible refine evp ?_) | ((refine la_n rfl rfl ?_); (try (conv => arg 1; simp [@cl1_get, ltS, nm_ne, tk_ne, hF])); with_reducible refine evp ?_) | ((refine la_q2 rfl (by decide +kernel) ?_); (repeat (first | refine bk_nil ?_ | refine bk_t (by decide +kernel) ?_ | refine bk_f (by decide +kernel) ?_)); (try (conv => arg 1; simp [@cl1_get, ltS, nm_ne, tk_ne, hF])); with_reducible refine evp ?_) | ((refine la_q1 rfl (by decide +kernel) ?_); (try (conv => arg 1; simp [@cl1_get, ltS, nm_ne, tk_ne, hF])); with_reducible refine evp ?_) | ((refine la_g0 rfl ?_); (try (conv => arg 1; simp [@cl1_get, ltS, nm_ne, tk_ne, hF])); with_reducible refine evp ?_; (with_reducible refine evp ?_); try ((try (conv => arg 1; simp [@cl1_get, ltS, nm_ne, tk_ne, hF])); with_reducible refine evp ?_)))
          | ((with_reducible refine la_id ?_); refine la_all rfl ?_)
          | ((with_reducible refine all_id ?_); (conv => arg 1; whnf); first | exact all_nil | refine all_cons ?_ ?_)
          | (refine la_op rfl (by first | exact frm_s (by decide +kernel) | exact frm_a (by repeat' (first | exact fa_nil | refine fa_cons (by decide +kernel) ?_))) (by intro hq; first | exact trivial | (cases hq; done) | simp [appT, @cl1_get, ltS, nm_ne, tk_ne, hF]) ?_; (repeat (first | refine bk_nil ?_ | refine bk_t (by decide +kernel) ?_ | refine bk_f (by decide +kernel) ?_)))
         | fail)
        refine ⟨rfl, X3.dropOf ⟨ln2, wo2, bo2, f2, ?_⟩⟩
        simp only [wrkB, List.length_set, cl1_set]
        exact Cx.to y2
      · have e : stepR ⟨mem, vars, inp, fu, none, val, out⟩ ⟨3, d, A, c, C, q, Text⟩ = ⟨mem, vars, inp, fu, some 1, val, out⟩ := by simp [stepR, hix, memR, hq, hj]
        rw [e]
        have X3 := X2
        have bx2 := X2.top
        obtain ⟨ln2, wo2, bo2, f2, y2⟩ := X2
        have b2 := y2.bxs
        simp only [Bxs, wrkB, codeW] at b2
        repeat' (first
         | with_reducible refine stp ?_
         | with_reducible refine k_blk_o rfl ?_
         | ((try (conv => arg 1; simp [b2, bx2, ltS, nm_ne, tk_ne])); with_reducible refine evp ?_)
         | ((with_reducible refine apn ?na ?_); (case na => simp [appNames, ints, intss] <;> first | kernel_rfl | (refine ⟨?_, ?_⟩ <;> kernel_rfl)))
          | ((with_reducible refine la_id ?_); refine la_end rfl ?_; (repeat (first | refine pl_nil ?_ | refine pl_cons ?_)))
          | ((with_reducible refine la_id ?_); refine la_pick ?_; (conv => arg 1; whnf); (repeat ((fail_if_success (first | ((refine la_q0 rfl ?_); (try (conv => arg 1; simp [b2, bx2, ltS, nm_ne, tk_ne])); with_reducible refine evp ?_) | ((refine la_n rfl rfl ?_); (try (conv => arg 1; simp [b2, bx2, ltS, nm_ne, tk_ne])); with_reducible refine evp ?_) | ((refine la_q2 rfl (by decide +kernel) ?_); (repeat (first | refine bk_nil ?_ | refine bk_t (by decide +kernel) ?_ | refine bk_f (by decide +kernel) ?_)); (try (conv => arg 1; simp [b2, bx2, ltS, nm_ne, tk_ne])); with_reducible refine evp ?_) | ((refine la_q1 rfl (by decide +kernel) ?_); (try (conv => arg 1; simp [b2, bx2, ltS, nm_ne, tk_ne])); with_reducible refine evp ?_) | ((refine la_g0 rfl ?_); (try (conv => arg 1; simp [b2, bx2, ltS, nm_ne, tk_ne])); with_reducible refine evp ?_; (with_reducible refine evp ?_); try ((try (conv => arg 1; simp [b2, bx2, ltS, nm_ne, tk_ne])); with_reducible refine evp ?_)))); (refine la_there ?_); (conv => arg 1; whnf))); first | ((refine la_q0 rfl ?_); (try (conv => arg 1; simp [b2, bx2, ltS, nm_ne, tk_ne])); with_reducible refine evp ?_) | ((refine la_n rfl rfl ?_); (try (conv => arg 1; simp [b2, bx2, ltS, nm_ne, tk_ne])); with_reducible refine evp ?_) | ((refine la_q2 rfl (by decide +kernel) ?_); (repeat (first | refine bk_nil ?_ | refine bk_t (by decide +kernel) ?_ | refine bk_f (by decide +kernel) ?_)); (try (conv => arg 1; simp [b2, bx2, ltS, nm_ne, tk_ne])); with_reducible refine evp ?_) | ((refine la_q1 rfl (by decide +kernel) ?_); (try (conv => arg 1; simp [b2, bx2, ltS, nm_ne, tk_ne])); with_reducible refine evp ?_) | ((refine la_g0 rfl ?_); (try (conv => arg 1; simp [b2, bx2, ltS, nm_ne, tk_ne])); with_reducible refine evp ?_; (with_reducible refine evp ?_); try ((try (conv => arg 1; simp [b2, bx2, ltS, nm_ne, tk_ne])); with_reducible refine evp ?_)))
          | ((with_reducible refine la_id ?_); refine la_all rfl ?_)
          | ((with_reducible refine all_id ?_); (conv => arg 1; whnf); first | exact all_nil | refine all_cons ?_ ?_)
          | (refine la_op rfl (by first | exact frm_s (by decide +kernel) | exact frm_a (by repeat' (first | exact fa_nil | refine fa_cons (by decide +kernel) ?_))) (by intro hq; first | exact trivial | (cases hq; done) | simp [appT, b2, bx2, ltS, nm_ne, tk_ne]) ?_; (repeat (first | refine bk_nil ?_ | refine bk_t (by decide +kernel) ?_ | refine bk_f (by decide +kernel) ?_)))
         | fail)
        repeat' (first
         | with_reducible refine stp ?_
         | with_reducible refine k_blk_o rfl ?_
         | with_reducible refine k_seq_n ?_
         | ((try (conv => arg 1; simp [b2, bx2, ltS, nm_ne, tk_ne])); with_reducible refine evp ?_)
         | ((with_reducible refine apn ?na ?_); (case na => simp [appNames, ints, intss] <;> first | kernel_rfl | (refine ⟨?_, ?_⟩ <;> kernel_rfl)))
         | fail)
        exact ⟨rfl, X3.dropOf ⟨ln2, wo2, bo2, f2, Cx.to y2⟩⟩
  · simp only at h0 hC hB hN
    subst h0 hC hB hN
    have hve := cl1_at he
    have hvc := cl1_at hc
    simp only at he hve hc hvc hq hA
    have hkl := ks_len (s := ⟨mem, vars, inp, fu, none, val, out⟩) ln
    simp only at hkl
    have hqk : q < m.ks.length := by omega
    have hqk2 : (q : Int) < m.ks.length := by omega
    have hdr := hdr_at (s := ⟨mem, vars, inp, fu, none, val, out⟩) ln hqk hq
    simp only at hdr
    have hgq : mem.getD q [] = mem[q] := by simp [hq]
    have hix : idxR ⟨mem, vars, inp, fu, none, val, out⟩ ⟨4, D, A, c, e, q, Text⟩ = atR ⟨mem, vars, inp, fu, none, val, out⟩ A (rd vars c) := rfl
    have he2 : (e : Int) < vars.length := by omega
    have hc2 : (c : Int) < vars.length := by omega
    repeat' (first
     | with_reducible refine stp ?_
     | with_reducible refine k_blk_o rfl ?_
     | ((try (conv => arg 1; simp [Instr.cells])); with_reducible refine evp ?_)
     | ((with_reducible refine apn ?na ?_); (case na => simp [appNames, ints, intss] <;> first | kernel_rfl | (refine ⟨?_, ?_⟩ <;> kernel_rfl)))
     | fail)
    refine gen_k (fun h' => WX m ⟨mem, vars, inp, fu, none, val, out⟩ wp (((h.tick, 0, 0), ⟨0, 7, [[.int .i64 4, .int .i64 D, .int .i64 A, .int .i64 c, .int .i64 e, .int .i64 q, .str Text]]⟩) :: bs) os h') (X0.new _) ?_
    intro h1 X1
    have bx := X1.top
    obtain ⟨ln1, wo1, bo1, f1, y1⟩ := X1
    have b1 := y1.bxs
    simp only [Bxs, wrkB, codeW] at b1
    repeat' (first
     | with_reducible refine stp ?_
     | with_reducible refine k_blk_o rfl ?_
     | with_reducible refine k_seq_n ?_
     | ((try (conv => arg 1; simp [b1, bx, ltS, nm_ne, tk_ne])); with_reducible refine evp ?_)
     | ((with_reducible refine apn ?na ?_); (case na => simp [appNames, ints, intss] <;> first | kernel_rfl | (refine ⟨?_, ?_⟩ <;> kernel_rfl)))
     | fail)
    repeat (with_reducible first | refine stp ?_ | refine k_seq_n ?_)
    refine st_lz (by kernel_rfl) ?_
    have hF := And.intro b1 (And.intro bx (And.intro hvc (And.intro hc hc2)))
    repeat' (first
     | with_reducible refine stp ?_
     | with_reducible refine k_blk_o rfl ?_
     | ((try (conv => arg 1; simp [@cl1_get, ltS, nm_ne, tk_ne, hF])); with_reducible refine evp ?_)
     | ((with_reducible refine apn ?na ?_); (case na => simp [appNames, ints, intss] <;> first | kernel_rfl | (refine ⟨?_, ?_⟩ <;> kernel_rfl)))
      | ((with_reducible refine la_id ?_); refine la_end rfl ?_; (repeat (first | refine pl_nil ?_ | refine pl_cons ?_)))
      | ((with_reducible refine la_id ?_); refine la_pick ?_; (conv => arg 1; whnf); (repeat ((fail_if_success (first | ((refine la_q0 rfl ?_); (try (conv => arg 1; simp [@cl1_get, ltS, nm_ne, tk_ne, hF])); with_reducible refine evp ?_) | ((refine la_n rfl rfl ?_); (try (conv => arg 1; simp [@cl1_get, ltS, nm_ne, tk_ne, hF])); with_reducible refine evp ?_) | ((refine la_q2 rfl (by decide +kernel) ?_); (repeat (first | refine bk_nil ?_ | refine bk_t (by decide +kernel) ?_ | refine bk_f (by decide +kernel) ?_)); (try (conv => arg 1; simp [@cl1_get, ltS, nm_ne, tk_ne, hF])); with_reducible refine evp ?_) | ((refine la_q1 rfl (by decide +kernel) ?_); (try (conv => arg 1; simp [@cl1_get, ltS, nm_ne, tk_ne, hF])); with_reducible refine evp ?_) | ((refine la_g0 rfl ?_); (try (conv => arg 1; simp [@cl1_get, ltS, nm_ne, tk_ne, hF])); with_reducible refine evp ?_; (with_reducible refine evp ?_); try ((try (conv => arg 1; simp [@cl1_get, ltS, nm_ne, tk_ne, hF])); with_reducible refine evp ?_)))); (refine la_there ?_); (conv => arg 1; whnf))); first | ((refine la_q0 rfl ?_); (try (conv => arg 1; simp [@cl1_get, ltS, nm_ne, tk_ne, hF])); with_reducible refine evp ?_) | ((refine la_n rfl rfl ?_); (try (conv => arg 1; simp [@cl1_get, ltS, nm_ne, tk_ne, hF])); with_reducible refine evp ?_) | ((refine la_q2 rfl (by decide +kernel) ?_); (repeat (first | refine bk_nil ?_ | refine bk_t (by decide +kernel) ?_ | refine bk_f (by decide +kernel) ?_)); (try (conv => arg 1; simp [@cl1_get, ltS, nm_ne, tk_ne, hF])); with_reducible refine evp ?_) | ((refine la_q1 rfl (by decide +kernel) ?_); (try (conv => arg 1; simp [@cl1_get, ltS, nm_ne, tk_ne, hF])); with_reducible refine evp ?_) | ((refine la_g0 rfl ?_); (try (conv => arg 1; simp [@cl1_get, ltS, nm_ne, tk_ne, hF])); with_reducible refine evp ?_; (with_reducible refine evp ?_); try ((try (conv => arg 1; simp [@cl1_get, ltS, nm_ne, tk_ne, hF])); with_reducible refine evp ?_)))
      | ((with_reducible refine la_id ?_); refine la_all rfl ?_)
      | ((with_reducible refine all_id ?_); (conv => arg 1; whnf); first | exact all_nil | refine all_cons ?_ ?_)
      | (refine la_op rfl (by first | exact frm_s (by decide +kernel) | exact frm_a (by repeat' (first | exact fa_nil | refine fa_cons (by decide +kernel) ?_))) (by intro hq; first | exact trivial | (cases hq; done) | simp [appT, @cl1_get, ltS, nm_ne, tk_ne, hF]) ?_; (repeat (first | refine bk_nil ?_ | refine bk_t (by decide +kernel) ?_ | refine bk_f (by decide +kernel) ?_)))
     | fail)
    all_goals
      refine st_heap rfl (placeW ⟨ln1, wo1, bo1, f1, Cx.to y1⟩ hp rfl hq (hm q hq) hA (rd vars c) hqk) ?_
      rintro v h2 (⟨j, hj1, hj2, rfl, X2⟩ | ⟨hj, rfl, X2⟩)
      · skip
        have hj2 : j < mem[q].length := hj2
        have hj : inB (atR ⟨mem, vars, inp, fu, none, val, out⟩ A (rd vars c)) 0 ((mem[q].length : Int) - 1) = true := by rw [hj1]; simp [inB]; omega
        have es : stepR ⟨mem, vars, inp, fu, none, val, out⟩ ⟨4, D, A, c, e, q, Text⟩ = ⟨mem.set q (mem[q].set (atR ⟨mem, vars, inp, fu, none, val, out⟩ A (rd vars c)).toNat (rd vars e)), vars, inp, fu, none, val, out⟩ := by simp [stepR, hix, memR, hq, hj]
        rw [es]
        rw [hj1, Int.toNat_natCast]
        have hj3 : (j : Int) < mem[q].length := by omega
        have hj4 : j < (cl1 mem[q]).length := by rw [cl1_len]; exact hj2
        have X3 := X2
        have bx2 := X2.top
        obtain ⟨ln2, wo2, bo2, f2, y2⟩ := X2
        have b2 := y2.bxs
        simp only [Bxs, wrkB, codeW] at b2
        have rq := y2.rgs_at hqk hq
        simp only at rq
        repeat' (first
         | with_reducible refine stp ?_
         | with_reducible refine k_blk_o rfl ?_
         | ((try (conv => arg 1; simp [b2, bx2, ltS, nm_ne, tk_ne])); with_reducible refine evp ?_)
         | ((with_reducible refine apn ?na ?_); (case na => simp [appNames, ints, intss] <;> first | kernel_rfl | (refine ⟨?_, ?_⟩ <;> kernel_rfl)))
          | ((with_reducible refine la_id ?_); refine la_end rfl ?_; (repeat (first | refine pl_nil ?_ | refine pl_cons ?_)))
          | ((with_reducible refine la_id ?_); refine la_pick ?_; (conv => arg 1; whnf); (repeat ((fail_if_success (first | ((refine la_q0 rfl ?_); (try (conv => arg 1; simp [b2, bx2, ltS, nm_ne, tk_ne])); with_reducible refine evp ?_) | ((refine la_n rfl rfl ?_); (try (conv => arg 1; simp [b2, bx2, ltS, nm_ne, tk_ne])); with_reducible refine evp ?_) | ((refine la_q2 rfl (by decide +kernel) ?_); (repeat (first | refine bk_nil ?_ | refine bk_t (by decide +kernel) ?_ | refine bk_f (by decide +kernel) ?_)); (try (conv => arg 1; simp [b2, bx2, ltS, nm_ne, tk_ne])); with_reducible refine evp ?_) | ((refine la_q1 rfl (by decide +kernel) ?_); (try (conv => arg 1; simp [b2, bx2, ltS, nm_ne, tk_ne])); with_reducible refine evp ?_) | ((refine la_g0 rfl ?_); (try (conv => arg 1; simp [b2, bx2, ltS, nm_ne, tk_ne])); with_reducible refine evp ?_; (with_reducible refine evp ?_); try ((try (conv => arg 1; simp [b2, bx2, ltS, nm_ne, tk_ne])); with_reducible refine evp ?_)))); (refine la_there ?_); (conv => arg 1; whnf))); first | ((refine la_q0 rfl ?_); (try (conv => arg 1; simp [b2, bx2, ltS, nm_ne, tk_ne])); with_reducible refine evp ?_) | ((refine la_n rfl rfl ?_); (try (conv => arg 1; simp [b2, bx2, ltS, nm_ne, tk_ne])); with_reducible refine evp ?_) | ((refine la_q2 rfl (by decide +kernel) ?_); (repeat (first | refine bk_nil ?_ | refine bk_t (by decide +kernel) ?_ | refine bk_f (by decide +kernel) ?_)); (try (conv => arg 1; simp [b2, bx2, ltS, nm_ne, tk_ne])); with_reducible refine evp ?_) | ((refine la_q1 rfl (by decide +kernel) ?_); (try (conv => arg 1; simp [b2, bx2, ltS, nm_ne, tk_ne])); with_reducible refine evp ?_) | ((refine la_g0 rfl ?_); (try (conv => arg 1; simp [b2, bx2, ltS, nm_ne, tk_ne])); with_reducible refine evp ?_; (with_reducible refine evp ?_); try ((try (conv => arg 1; simp [b2, bx2, ltS, nm_ne, tk_ne])); with_reducible refine evp ?_)))
          | ((with_reducible refine la_id ?_); refine la_all rfl ?_)
          | ((with_reducible refine all_id ?_); (conv => arg 1; whnf); first | exact all_nil | refine all_cons ?_ ?_)
          | (refine la_op rfl (by first | exact frm_s (by decide +kernel) | exact frm_a (by repeat' (first | exact fa_nil | refine fa_cons (by decide +kernel) ?_))) (by intro hq; first | exact trivial | (cases hq; done) | simp [appT, b2, bx2, ltS, nm_ne, tk_ne]) ?_; (repeat (first | refine bk_nil ?_ | refine bk_t (by decide +kernel) ?_ | refine bk_f (by decide +kernel) ?_)))
         | fail)
        repeat' (first
         | with_reducible refine stp ?_
         | with_reducible refine k_blk_o rfl ?_
         | with_reducible refine k_seq_n ?_
         | ((try (conv => arg 1; simp [b2, bx2, hj1, ltS, nm_ne, tk_ne])); with_reducible refine evp ?_)
         | ((with_reducible refine apn ?na ?_); (case na => simp [appNames, ints, intss] <;> first | kernel_rfl | (refine ⟨?_, ?_⟩ <;> kernel_rfl)))
         | fail)
        repeat (with_reducible first | refine stp ?_ | refine k_seq_n ?_)
        refine st_lz (by kernel_rfl) ?_
        have hF := And.intro b2 (And.intro bx2 (And.intro rq (And.intro hdr (And.intro hqk (And.intro hqk2 (And.intro hj2 (And.intro hj3 (And.intro hj4 (And.intro hve (And.intro he he2))))))))))
        repeat' (first
         | with_reducible refine stp ?_
         | with_reducible refine k_blk_o rfl ?_
         | ((try (conv => arg 1; simp [@cl1_get, ltS, nm_ne, tk_ne, hF])); with_reducible refine evp ?_)
         | ((with_reducible refine apn ?na ?_); (case na => simp [appNames, ints, intss] <;> first | kernel_rfl | (refine ⟨?_, ?_⟩ <;> kernel_rfl)))
          | ((with_reducible refine la_id ?_); refine la_end rfl ?_; (repeat (first | refine pl_nil ?_ | refine pl_cons ?_)))
          | ((with_reducible refine la_id ?_); refine la_pick ?_; (conv => arg 1; whnf); (repeat ((fail_if_success (first | ((refine la_q0 rfl ?_); (try (conv => arg 1; simp [@cl1_get, ltS, nm_ne, tk_ne, hF])); with_reducible refine evp ?_) | ((refine la_n rfl rfl ?_); (try (conv => arg 1; simp [@cl1_get, ltS, nm_ne, tk_ne, hF])); with_reducible refine evp ?_) | ((refine la_q2 rfl (by decide +kernel) ?_); (repeat (first | refine bk_nil ?_ | refine bk_t (by decide +kernel) ?_ | refine bk_f (by decide +kernel) ?_)); (try (conv => arg 1; simp [@cl1_get, ltS, nm_ne, tk_ne, hF])); with_reducible refine evp ?_) | ((refine la_q1 rfl (by decide +kernel) ?_); (try (conv => arg 1; simp [@cl1_get, ltS, nm_ne, tk_ne, hF])); with_reducible refine evp ?_) | ((refine la_g0 rfl ?_); (try (conv => arg 1; simp [@cl1_get, ltS, nm_ne, tk_ne, hF])); with_reducible refine evp ?_; (with_reducible refine evp ?_); try ((try (conv => arg 1; simp [@cl1_get, ltS, nm_ne, tk_ne, hF])); with_reducible refine evp ?_)))); (refine la_there ?_); (conv => arg 1; whnf))); first | ((refine la_q0 rfl ?_); (try (conv => arg 1; simp [@cl1_get, ltS, nm_ne, tk_ne, hF])); with_reducible refine evp ?_) | ((refine la_n rfl rfl ?_); (try (conv => arg 1; simp [@cl1_get, ltS, nm_ne, tk_ne, hF])); with_reducible refine evp ?_) | ((refine la_q2 rfl (by decide +kernel) ?_); (repeat (first | refine bk_nil ?_ | refine bk_t (by decide +kernel) ?_ | refine bk_f (by decide +kernel) ?_)); (try (conv => arg 1; simp [@cl1_get, ltS, nm_ne, tk_ne, hF])); with_reducible refine evp ?_) | ((refine la_q1 rfl (by decide +kernel) ?_); (try (conv => arg 1; simp [@cl1_get, ltS, nm_ne, tk_ne, hF])); with_reducible refine evp ?_) | ((refine la_g0 rfl ?_); (try (conv => arg 1; simp [@cl1_get, ltS, nm_ne, tk_ne, hF])); with_reducible refine evp ?_; (with_reducible refine evp ?_); try ((try (conv => arg 1; simp [@cl1_get, ltS, nm_ne, tk_ne, hF])); with_reducible refine evp ?_)))
          | ((with_reducible refine la_id ?_); refine la_all rfl ?_)
          | ((with_reducible refine all_id ?_); (conv => arg 1; whnf); first | exact all_nil | refine all_cons ?_ ?_)
          | (refine la_op rfl (by first | exact frm_s (by decide +kernel) | exact frm_a (by repeat' (first | exact fa_nil | refine fa_cons (by decide +kernel) ?_))) (by intro hq; first | exact trivial | (cases hq; done) | simp [appT, @cl1_get, ltS, nm_ne, tk_ne, hF]) ?_; (repeat (first | refine bk_nil ?_ | refine bk_t (by decide +kernel) ?_ | refine bk_f (by decide +kernel) ?_)))
         | fail)
        refine ⟨rfl, X3.dropOf ⟨?_, wo2, bo2, f2, ?_⟩⟩
        · rw [map_len_set (by simp [hq])]; exact ln2
        · rw [← cl1_set]
          exact (Cx.rgs_put (Cx.to y2) hqk hq (mem[q].set j (rd vars e))).next
      · have es : stepR ⟨mem, vars, inp, fu, none, val, out⟩ ⟨4, D, A, c, e, q, Text⟩ = ⟨mem, vars, inp, fu, some 1, val, out⟩ := by simp [stepR, hix, memR, hq, hj]
        rw [es]
        have X3 := X2
        have bx2 := X2.top
        obtain ⟨ln2, wo2, bo2, f2, y2⟩ := X2
        have b2 := y2.bxs
        simp only [Bxs, wrkB, codeW] at b2
        repeat' (first
         | with_reducible refine stp ?_
         | with_reducible refine k_blk_o rfl ?_
         | ((try (conv => arg 1; simp [b2, bx2, ltS, nm_ne, tk_ne])); with_reducible refine evp ?_)
         | ((with_reducible refine apn ?na ?_); (case na => simp [appNames, ints, intss] <;> first | kernel_rfl | (refine ⟨?_, ?_⟩ <;> kernel_rfl)))
          | ((with_reducible refine la_id ?_); refine la_end rfl ?_; (repeat (first | refine pl_nil ?_ | refine pl_cons ?_)))
          | ((with_reducible refine la_id ?_); refine la_pick ?_; (conv => arg 1; whnf); (repeat ((fail_if_success (first | ((refine la_q0 rfl ?_); (try (conv => arg 1; simp [b2, bx2, ltS, nm_ne, tk_ne])); with_reducible refine evp ?_) | ((refine la_n rfl rfl ?_); (try (conv => arg 1; simp [b2, bx2, ltS, nm_ne, tk_ne])); with_reducible refine evp ?_) | ((refine la_q2 rfl (by decide +kernel) ?_); (repeat (first | refine bk_nil ?_ | refine bk_t (by decide +kernel) ?_ | refine bk_f (by decide +kernel) ?_)); (try (conv => arg 1; simp [b2, bx2, ltS, nm_ne, tk_ne])); with_reducible refine evp ?_) | ((refine la_q1 rfl (by decide +kernel) ?_); (try (conv => arg 1; simp [b2, bx2, ltS, nm_ne, tk_ne])); with_reducible refine evp ?_) | ((refine la_g0 rfl ?_); (try (conv => arg 1; simp [b2, bx2, ltS, nm_ne, tk_ne])); with_reducible refine evp ?_; (with_reducible refine evp ?_); try ((try (conv => arg 1; simp [b2, bx2, ltS, nm_ne, tk_ne])); with_reducible refine evp ?_)))); (refine la_there ?_); (conv => arg 1; whnf))); first | ((refine la_q0 rfl ?_); (try (conv => arg 1; simp [b2, bx2, ltS, nm_ne, tk_ne])); with_reducible refine evp ?_) | ((refine la_n rfl rfl ?_); (try (conv => arg 1; simp [b2, bx2, ltS, nm_ne, tk_ne])); with_reducible refine evp ?_) | ((refine la_q2 rfl (by decide +kernel) ?_); (repeat (first | refine bk_nil ?_ | refine bk_t (by decide +kernel) ?_ | refine bk_f (by decide +kernel) ?_)); (try (conv => arg 1; simp [b2, bx2, ltS, nm_ne, tk_ne])); with_reducible refine evp ?_) | ((refine la_q1 rfl (by decide +kernel) ?_); (try (conv => arg 1; simp [b2, bx2, ltS, nm_ne, tk_ne])); with_reducible refine evp ?_) | ((refine la_g0 rfl ?_); (try (conv => arg 1; simp [b2, bx2, ltS, nm_ne, tk_ne])); with_reducible refine evp ?_; (with_reducible refine evp ?_); try ((try (conv => arg 1; simp [b2, bx2, ltS, nm_ne, tk_ne])); with_reducible refine evp ?_)))
          | ((with_reducible refine la_id ?_); refine la_all rfl ?_)
          | ((with_reducible refine all_id ?_); (conv => arg 1; whnf); first | exact all_nil | refine all_cons ?_ ?_)
          | (refine la_op rfl (by first | exact frm_s (by decide +kernel) | exact frm_a (by repeat' (first | exact fa_nil | refine fa_cons (by decide +kernel) ?_))) (by intro hq; first | exact trivial | (cases hq; done) | simp [appT, b2, bx2, ltS, nm_ne, tk_ne]) ?_; (repeat (first | refine bk_nil ?_ | refine bk_t (by decide +kernel) ?_ | refine bk_f (by decide +kernel) ?_)))
         | fail)
        repeat' (first
         | with_reducible refine stp ?_
         | with_reducible refine k_blk_o rfl ?_
         | with_reducible refine k_seq_n ?_
         | ((try (conv => arg 1; simp [b2, bx2, ltS, nm_ne, tk_ne])); with_reducible refine evp ?_)
         | ((with_reducible refine apn ?na ?_); (case na => simp [appNames, ints, intss] <;> first | kernel_rfl | (refine ⟨?_, ?_⟩ <;> kernel_rfl)))
         | fail)
        exact ⟨rfl, X3.dropOf ⟨ln2, wo2, bo2, f2, Cx.to y2⟩⟩
end
end Go.Proofs.Ytlmlkkkgcbpaoaa.AM
