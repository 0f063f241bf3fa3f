/- Lemmas: an abstract machine over named rows, and what single functions compute (parts G9, G4, G12, G13, G14, G15, G7, G16, G29, G17, G18, G19, G20, G21, G22, G23, G24, G80, G70, G71, G72, G73, G74, G75, G76). -/
import Derived.Test.YtlmlkkkgcbpaoaaGreatKk2
import Derived.Shelf.Slices.In.SortAlone
import Derived.Lib.SortBridge
set_option linter.unusedVariables false
set_option linter.unusedSimpArgs false
set_option maxRecDepth 4000
namespace Go.Proofs.YtlmlkkkgcbpaoaaGreat.AM
open Go.RowKit

private def MG9 : FuncId → Mode := fun f => .tree

/-- What the laws' sizes say of a graph. -/
structure Graph.Fit (g : Graph) : Prop where
  sizes : g.Sizes.length ≤ 2 ^ 20
  blocks : g.Blocks.length ≤ 2 ^ 20
  code : ∀ b ∈ g.Blocks, b.Code.length ≤ 2 ^ 20
theorem codeLen_le (xs : List Block) (i : Nat) : codeLen xs i ≤ codeLen xs xs.length := gsum_le _ xs i
theorem codeLen_succ {xs : List Block} {i : Nat} (h : i < xs.length) : codeLen xs (i + 1) = codeLen xs i + xs[i].Code.length := gsum_succ _ xs i h
def graphRow (g : Graph) : Row := ⟨0, 5, [[ints true g.Sizes, .int .i64 g.Params, .int .i64 g.Vars, .int .i64 g.Slots, blocks true g.Blocks]]⟩

set_option maxHeartbeats 4000000 in
theorem graphOkSpec (g : Graph) (d : g.Fit) : Pure Tryz.prog 35 [.agg (g.cells true)] (.bool (graphOk g)) := by
  intro T
  have d1 := d.sizes
  have d2 := d.blocks
  refine enter mixed MG9 Tryz.func35 rfl (by kernel_rfl) rfl ?_
  repeat' (first | (with_reducible first | refine stp ?_ | refine k_blk_o rfl ?_) | ((try (conv => arg 1; simp [Graph.cells])); with_reducible refine evp ?_) | fail)
  refine cx_k (Cx.mt.next.box_one (T := T) (i := 0) Cx.mt.off (by simp)) ?_
  intro h1 x1
  have b1 := x1.bxs
  simp only [Bxs] at b1
  repeat' (first | (with_reducible first | refine stp ?_ | refine k_blk_o rfl ?_ | refine k_seq_n ?_) | ((try (conv => arg 1; simp [b1])); with_reducible refine evp ?_) | fail)
  refine st_loop (fun (i : Nat) σ h => i ≤ g.Sizes.length ∧ σ 1 = .ptr (T, 0, 0) 0 0 0 ∧ σ 3 = .int .i64 i ∧ (g.Sizes.take i).all (fun n => inB n 1 16) = true ∧ Cx h [((T, 0, 0), graphRow g)] []) (fun i => g.Sizes.length - i) 0 ?init ?step
  case init => exact ⟨Nat.zero_le _, by simp, by simp, rfl, Cx.to x1⟩
  case step =>
    rintro i σ h ⟨hi, s1, s3, ha, x⟩
    have b2 := x.bxs
    simp only [Bxs, graphRow] at b2
    by_cases hlt : i < g.Sizes.length
    · have hlt2 : (i : Int) < g.Sizes.length := by omega
      have hx : g.Sizes[i]? = some g.Sizes[i] := by simp
      have hw : IntKind.i64.wrap (i + 1) = i + 1 := wrap_id (by omega) (by omega)
      cases hv : inB g.Sizes[i] 1 16 with
      | false =>
        repeat' (first | (with_reducible first | refine stp ?_ | refine k_blk_o rfl ?_ | refine k_seq_n ?_) | ((try (conv => arg 1; simp [s1, s3, b2, hlt2, hx, ints, hv, ltS, nm_ne])); with_reducible refine evp ?_) | ((with_reducible refine tcl ?_); first | ((apply tg (l01In _ _ _)); (case e => rfl); (case d => (refine dq ?_); (repeat' (first | ((refine Da.mk ?_); first | assumption) | constructor))))) | fail)
        have e : graphOk g = false := by unfold graphOk headOk; rw [all_false hlt hv]; simp
        rw [e]
        exact .bool _
      | true =>
        repeat' (first | (with_reducible first | refine stp ?_ | refine k_blk_o rfl ?_ | refine k_seq_n ?_) | ((try (conv => arg 1; simp [s1, s3, b2, hlt2, hx, ints, hv, hw, ltS, nm_ne])); with_reducible refine evp ?_) | ((with_reducible refine tcl ?_); first | ((apply tg (l01In _ _ _)); (case e => rfl); (case d => (refine dq ?_); (repeat' (first | ((refine Da.mk ?_); first | assumption) | constructor))))) | fail)
        refine k_lp_n (i + 1) (by omega) ⟨by omega, by simp [s1], by simp, by rw [all_take hlt, ha, hv]; rfl, Cx.to x⟩
    · have hlt2 : ¬ (i : Int) < g.Sizes.length := by omega
      rw [List.take_of_length_le (by omega)] at ha
      repeat' (first | (with_reducible first | refine stp ?_ | refine k_blk_o rfl ?_ | refine k_seq_n ?_) | ((try (conv => arg 1; simp [s1, s3, b2, hlt2, ltS, nm_ne])); with_reducible refine evp ?_) | fail)
      have x' := x.next
      generalize h.next = hq at *
      have b3 := x'.bxs
      simp only [Bxs, graphRow] at b3
      repeat' (first
        | (with_reducible first | refine st_seq ?_ | refine st_reg ?_ | refine st_block ?_ | refine st_nil ?_ | refine st_skip ?_ | refine st_ret ?_ | refine st_exit ?_ | refine fr_nil ?_ | refine k_seq_n ?_ | refine k_seq_r ?_ | refine k_seq_e ?_ | refine k_blk_n ?_ | refine k_blk_r ?_ | refine k_blk_s ?_ | refine k_blk_o rfl ?_ | refine k_fn_r ?_ | refine k_fn_n ?_ | refine k_lp_r ?_ | refine k_lp_e ?_)
        | ((with_reducible first | refine st_move ?_ | refine st_asg ?_ | refine st_c ?_ | refine fr_c ?_); (try (conv => arg 1; simp [s1, b3])); (with_reducible refine at_mk ?_))
        | ((with_reducible first | refine st_g ?_ | refine fr_g ?_); (try (conv => arg 1; simp [s1, b3])); (with_reducible refine at_mk ?_); with_reducible first | refine gd_tt ?_ | refine gd_ff ?_ | refine gd_tf ?_ | refine gd_ft ?_ | refine gd_no ?_)
        | ((with_reducible first | refine st_gm ?_ | refine fr_gm ?_); (try (conv => arg 1; simp [s1, b3])); (with_reducible refine at_mk ?_); (with_reducible first | refine gm_bool ?_ | refine gm_gv ?_); refine ⟨_, (by intro hc; first | ((try simp only [Bool.and_eq_true] at hc); (try (conv => lhs; simp [hc, s1, b3])); first | done | exact rfl) | ((try simp [gq] at hc); (try (conv => lhs; simp [gq, hc, s1, b3])); first | done | exact rfl)), ?_⟩)
        | ((with_reducible refine st_gmc ?_); (try (conv => arg 1; simp [s1, b3])); (with_reducible refine at_mk ?_); (with_reducible first | refine gm_bool ?_ | refine gm_gv ?_); refine ⟨_, _, _, (by intro hc; first | ((try simp only [Bool.and_eq_true] at hc); (try (conv => lhs; simp [hc, s1, b3])); first | done | exact rfl) | ((try simp [gq] at hc); (try (conv => lhs; simp [gq, hc, s1, b3])); first | done | exact rfl)), rfl, l01In _ _ _, (by intro hc; (try simp at hc); (repeat' (first | exact DRs.nil | refine DRs.cons ?_ ?_ | exact .int _ _ | exact .bool _ | exact .str _ | exact .nilsl | exact .nilp | exact dr_ints (by simp) _ | exact dr_intss (by simp) _ | refine dr_agg ?_ | refine dr_fn ?_ | refine dr_tptr' (by simp) ?_ | assumption))), ?_⟩)
        | ((with_reducible refine fr_gmc ?_); (try (conv => arg 1; simp [s1, b3])); (with_reducible refine at_mk ?_); (with_reducible first | refine gm_bool ?_ | refine gm_gv ?_); refine ⟨_, _, _, (by intro hc; first | ((try simp only [Bool.and_eq_true] at hc); (try (conv => lhs; simp [hc, s1, b3])); first | done | exact rfl) | ((try simp [gq] at hc); (try (conv => lhs; simp [gq, hc, s1, b3])); first | done | exact rfl)), l01In _ _ _, (by intro hc; (try simp at hc); (repeat' (first | exact DRs.nil | refine DRs.cons ?_ ?_ | exact .int _ _ | exact .bool _ | exact .str _ | exact .nilsl | exact .nilp | exact dr_ints (by simp) _ | exact dr_intss (by simp) _ | refine dr_agg ?_ | refine dr_fn ?_ | refine dr_tptr' (by simp) ?_ | assumption))), ?_⟩)
        | ((with_reducible refine st_gmv ?_); (try (conv => arg 1; simp [s1, b3])); (with_reducible refine at_mk ?_); (with_reducible first | refine gm_bool ?_ | refine gm_gv ?_); refine ⟨_, _, _, _, _, (by intro hc; first | ((try simp only [Bool.and_eq_true] at hc); (try (conv => lhs; simp [hc, s1, b3])); first | done | exact rfl) | ((try simp [gq] at hc); (try (conv => lhs; simp [gq, hc, s1, b3])); first | done | exact rfl)), (by intro hc; first | ((try simp only [Bool.and_eq_true] at hc); (try (conv => lhs; simp [hc, s1, b3])); first | done | exact rfl) | ((try simp [gq] at hc); (try (conv => lhs; simp [gq, hc, s1, b3])); first | done | exact rfl)), rfl, l01In _ _ _, (by intro hc; (try simp at hc); (repeat' (first | exact DRs.nil | refine DRs.cons ?_ ?_ | exact .int _ _ | exact .bool _ | exact .str _ | exact .nilsl | exact .nilp | exact dr_ints (by simp) _ | exact dr_intss (by simp) _ | refine dr_agg ?_ | refine dr_fn ?_ | refine dr_tptr' (by simp) ?_ | assumption))), ?_⟩)
        | ((with_reducible refine st_m rfl ?_); (try (conv => arg 1; simp [s1, b3])); (with_reducible refine ev2_some ?_))
        | ((with_reducible refine fr_n rfl ?_); (try (conv => arg 1; simp [s1, b3])); (with_reducible refine evn_some ?_))
        | ((with_reducible first | refine st_cv ?_ | refine fr_cv ?_); (try (conv => arg 1; simp [s1, b3])); (with_reducible refine at_mk ?_); (with_reducible refine fn_mk ?_); (try (conv => arg 1; simp [s1, b3])); (with_reducible refine at_mk ?_))
        | ((with_reducible refine fr_a ?_); (try (conv => arg 1; simp [s1, b3])); (with_reducible refine at_mk ?_); (try (conv => arg 1; simp [s1, b3])); (with_reducible refine at_mk ?_); refine ⟨?names, ?_⟩; (case names => (simp [appNames, ints, intss] <;> first | kernel_rfl | (refine ⟨?_, ?_⟩ <;> kernel_rfl))); (try (conv => arg 1; simp [s1, b3])); (with_reducible refine ev2_some ?_))
        | ((with_reducible first | refine st_q ?_ | refine fr_q ?_ | refine st_res ?_); (try (conv => arg 1; simp [s1, b3])); (with_reducible refine ev_some ?_))
        | ((with_reducible refine st_if ?_); (try (conv => arg 1; simp [s1, b3])); (with_reducible refine at_mk ?_); with_reducible first | refine br_t ?_ | refine br_f ?_)
        | ((with_reducible refine ct_id ?_); refine st_tree rfl (l01In _ _ _) (by (repeat' (first | exact DRs.nil | refine DRs.cons ?_ ?_ | exact .int _ _ | exact .bool _ | exact .str _ | exact .nilsl | exact .nilp | exact dr_ints (by simp) _ | exact dr_intss (by simp) _ | refine dr_agg ?_ | refine dr_fn ?_ | refine dr_tptr' (by simp) ?_ | assumption))) ?_)
        | ((with_reducible refine tw_id ?_); refine treeW_pure (l01In _ _ _) (by (repeat' (first | exact DRs.nil | refine DRs.cons ?_ ?_ | exact .int _ _ | exact .bool _ | exact .str _ | exact .nilsl | exact .nilp | exact dr_ints (by simp) _ | exact dr_intss (by simp) _ | refine dr_agg ?_ | refine dr_fn ?_ | refine dr_tptr' (by simp) ?_ | assumption))) ?_))
      (try with_reducible refine st_if ?_)
      (try (conv => arg 1; simp [d1]))
      (try with_reducible refine at_mk ?_)
      refine ⟨fun hb => ?_, fun hb => ?_⟩
      · have e : graphOk g = false := by
          have : headOk g = false := by
            cases hk : headOk g with
            | false => rfl
            | true =>
              have H := headOk_head hk
              have e1 := H.sizes
              have e2 := H.params
              have e3 := H.vars
              have e4 := H.slots
              have e5 := H.blocks
              exfalso
              simp only [Bool.or_eq_true, Bool.not_eq_true', inB, decide_eq_true_eq, Bool.and_eq_false_iff, decide_eq_false_iff_not] at hb
              omega
          simp [graphOk, this]
        repeat' (first | (with_reducible first | refine stp ?_ | refine k_blk_o rfl ?_ | refine k_seq_n ?_) | ((try (conv => arg 1; simp [d1])); with_reducible refine evp ?_) | fail)
        rw [e]
        exact .bool _
      have hk : headOk g = true := by
        simp only [headOk, inB, Bool.and_eq_true, decide_eq_true_eq]
        simp only [Bool.not_eq_true, Bool.or_eq_false_iff, Bool.not_eq_false', inB, Bool.and_eq_true, decide_eq_true_eq, decide_eq_false_iff_not] at hb
        repeat' apply And.intro
        all_goals first | exact ha | omega
      have H := headOk_head hk
      have e4 := H.slots
      have e2 := H.params
      have e5 := H.blocks
      repeat' (first | (with_reducible first | refine stp ?_ | refine k_blk_o rfl ?_ | refine k_seq_n ?_) | ((try (conv => arg 1; simp [d1])); with_reducible refine evp ?_) | fail)
      refine st_loop (fun (i : Nat) σ h => i ≤ g.Blocks.length ∧ σ 1 = .ptr (T, 0, 0) 0 0 0 ∧ σ 4 = .int .i64 (codeLen g.Blocks i) ∧ σ 5 = .int .i64 i ∧ codeLen g.Blocks i ≤ 1000 ∧ (g.Blocks.take i).all (blockOk g) = true ∧ Cx h [((T, 0, 0), graphRow g)] []) (fun i => g.Blocks.length - i) 0 ?init ?step
      case init => exact ⟨Nat.zero_le _, by simp [s1], by simp [codeLen, gsum_zero], by simp, by simp [codeLen, gsum_zero], rfl, Cx.to x'⟩
      case step =>
        rintro i σ h ⟨hi, s1, s4, s5, hn, ha2, x⟩
        have b2 := x.bxs
        simp only [Bxs, graphRow] at b2
        by_cases hlt : i < g.Blocks.length
        · have hlt2 : (i : Int) < g.Blocks.length := by omega
          have hx : g.Blocks[i]? = some g.Blocks[i] := by simp
          have hlen := block_len true g.Blocks[i]
          have hc := d.code _ (List.getElem_mem hlt)
          have hw : IntKind.i64.wrap (i + 1) = i + 1 := wrap_id (by omega) (by omega)
          have hs := codeLen_succ hlt
          have hw2 : IntKind.i64.wrap ((codeLen g.Blocks i : Int) + g.Blocks[i].Code.length) = codeLen g.Blocks (i + 1) := by rw [wrap_id (by omega) (by omega)]; omega
          have B := l04BlockOk g g.Blocks[i] (by omega) d1 d2 hc
          have hT : ¬ T = h.tick + 1 + 1 := by omega
          repeat' (first | (with_reducible first | refine stp ?_ | refine k_blk_o rfl ?_ | refine k_seq_n ?_) | ((try (conv => arg 1; simp [s1, s4, s5, b2, hlt2, hx, hlen, blocks, Block.cells, hw2, ltS, nm_ne])); with_reducible refine evp ?_) | fail)
          by_cases h1000 : codeLen g.Blocks (i + 1) > 1000
          · have h2 : (1000 : Int) < codeLen g.Blocks (i + 1) := by omega
            have e : graphOk g = false := by
              have := codeLen_le g.Blocks (i + 1)
              simp only [graphOk]
              rw [show decide (codeLen g.Blocks g.Blocks.length ≤ 1000) = false by simp; omega]
              simp
            repeat (with_reducible first | refine stp ?_ | refine k_seq_n ?_)
            refine st_draw 12 (fun _ => false) (by kernel_rfl) ?_
            simp only [List.take_succ_cons, List.take_zero, List.drop_succ_cons, List.drop_zero, List.take_nil, List.drop_nil]
            repeat' (first | (with_reducible first | refine stp ?_ | refine k_blk_o rfl ?_ | refine k_seq_n ?_) | ((try (conv => arg 1; simp [s1, s5, b2, h2, hT])); with_reducible refine evp ?_) | ((with_reducible refine apn ?na ?_); (case na => simp [appNames, ints, intss] <;> first | kernel_rfl | (refine ⟨?_, ?_⟩ <;> kernel_rfl))) | fail)
            rw [e]
            exact .bool _
          · have h2 : ¬ (1000 : Int) < codeLen g.Blocks (i + 1) := by omega
            cases hv : blockOk g g.Blocks[i] with
            | false =>
              rw [hv] at B
              repeat (with_reducible first | refine stp ?_ | refine k_seq_n ?_)
              refine st_draw 12 (fun _ => false) (by kernel_rfl) ?_
              simp only [List.take_succ_cons, List.take_zero, List.drop_succ_cons, List.drop_zero, List.take_nil, List.drop_nil]
              repeat' (first | (with_reducible first | refine stp ?_ | refine k_blk_o rfl ?_ | refine k_seq_n ?_) | ((try (conv => arg 1; simp [s1, s5, b2, h2, hT, hx, hlen, hw, blocks, Block.cells, Graph.cells])); with_reducible refine evp ?_) | ((with_reducible refine apn ?na ?_); (case na => simp [appNames, ints, intss] <;> first | kernel_rfl | (refine ⟨?_, ?_⟩ <;> kernel_rfl))) | ((with_reducible refine tcl ?_); first | ((apply tg (B)); (case e => rfl); (case d => (refine dq ?_); (repeat' (first | ((refine Da.mk ?_); first | exact dr_blocks (by simp) _ | exact dr_instrs (by simp) _ | assumption) | constructor))))) | fail)
              have e : graphOk g = false := by simp only [graphOk]; rw [all_false hlt hv, Bool.and_false]
              rw [e]
              exact .bool _
            | true =>
              rw [hv] at B
              repeat (with_reducible first | refine stp ?_ | refine k_seq_n ?_)
              refine st_draw 12 (fun _ => false) (by kernel_rfl) ?_
              simp only [List.take_succ_cons, List.take_zero, List.drop_succ_cons, List.drop_zero, List.take_nil, List.drop_nil]
              repeat' (first | (with_reducible first | refine stp ?_ | refine k_blk_o rfl ?_ | refine k_seq_n ?_) | ((try (conv => arg 1; simp [s1, s5, b2, h2, hT, hx, hlen, hw, blocks, Block.cells, Graph.cells])); with_reducible refine evp ?_) | ((with_reducible refine apn ?na ?_); (case na => simp [appNames, ints, intss] <;> first | kernel_rfl | (refine ⟨?_, ?_⟩ <;> kernel_rfl))) | ((with_reducible refine tcl ?_); first | ((apply tg (B)); (case e => rfl); (case d => (refine dq ?_); (repeat' (first | ((refine Da.mk ?_); first | exact dr_blocks (by simp) _ | exact dr_instrs (by simp) _ | assumption) | constructor))))) | fail)
              refine k_lp_n (i + 1) (by omega) ⟨by omega, by simp [s1], by simp, by simp, by omega, by rw [all_take hlt, ha2, hv]; rfl, Cx.to x⟩
        · have hlt2 : ¬ (i : Int) < g.Blocks.length := by omega
          rw [List.take_of_length_le (by omega)] at ha2
          have hi2 : i = g.Blocks.length := by omega
          rw [hi2] at hn
          repeat' (first | (with_reducible first | refine stp ?_ | refine k_blk_o rfl ?_ | refine k_seq_n ?_) | ((try (conv => arg 1; simp [s1, s5, b2, hlt2, ltS, nm_ne])); with_reducible refine evp ?_) | ((with_reducible refine apn ?na ?_); (case na => simp [appNames, ints, intss] <;> first | kernel_rfl | (refine ⟨?_, ?_⟩ <;> kernel_rfl))) | fail)
          have e : graphOk g = true := by simp [graphOk, hk, hn, ha2]
          rw [e]
          exact .bool _
end Go.Proofs.YtlmlkkkgcbpaoaaGreat.AM

namespace Go.Proofs.YtlmlkkkgcbpaoaaGreat.AM
open Go.RowKit

private def MG4 : FuncId → Mode := fun f => if f = 9 ∨ f = 25 then .fresh else .tree

theorem Graph.Small.code {g : Graph} (h : g.Small) : ∀ x ∈ g.Blocks, x.Code.length ≤ 2 ^ 20 := fun x hx => by
  have := wtBS_mem hx
  have := h.blocks
  omega
theorem Graph.Small.len {g : Graph} (h : g.Small) : g.Blocks.length ≤ 2 ^ 20 := by
  have := wtBS_len (xs := g.Blocks)
  have := h.blocks
  omega

theorem Cx.graph_join {h : Hp} {bs : Bx} {os : Ox} {w1 w2 : AV} {n1 n2 : List Nm} {g : Graph} (x : Cx h bs ((w1, (fun b => ints b g.Sizes), n1) :: (w2, (fun b => blocks b g.Blocks), n2) :: os)) :
    Cx h bs ((.agg [w1, .int .i64 g.Params, .int .i64 g.Vars, .int .i64 g.Slots, w2], (fun b => .agg (g.cells b)), n1 ++ n2) :: os) := by
  refine ⟨x.box, fun y hy b => ?_, ?_, fun m hm => x.lt m ?_⟩
  · simp only [List.mem_cons] at hy
    rcases hy with rfl | hy
    · exact .agg (Own.append (own_of (x.o0 b) rfl) (.int _ _ (.int _ _ (.int _ _ (own_of (x.o1 b) rfl)))))
    · exact x.own y (by simp [hy]) b
  · have := x.nd
    simpa [nms, List.append_assoc] using this
  · simpa [nms, List.append_assoc] using hm
theorem ownV_graph {rows : Nm → Option Row} {b : Bool} {v : AV} {g : Graph} {ns : List Nm} (h : OwnV rows b v (.agg (g.cells b)) ns) : ∃ w1 w2 n1 n2, v = .agg [w1, .int .i64 g.Params, .int .i64 g.Vars, .int .i64 g.Slots, w2] ∧ ns = n1 ++ n2 ∧ Own rows b [w1] [ints b g.Sizes] n1 ∧ Own rows b [w2] [blocks b g.Blocks] n2 := by
  generalize ht : AV.agg (g.cells b) = t at h
  cases h with
  | one h => subst ht; unfold Graph.cells at h; cases h
  | tup2 => cases ht
  | @agg l _ _ h =>
    cases ht
    unfold Graph.cells at h
    obtain ⟨w1, l1, n1, m1, rfl, rfl, o1, h⟩ := own_cons1 h
    cases h with
    | int _ _ h => cases h with
      | int _ _ h => cases h with
        | int _ _ h =>
          obtain ⟨w2, l2, n2, m2, rfl, rfl, o2, h⟩ := own_cons1 h
          cases h with
          | nil => exact ⟨w1, w2, n1, n2, rfl, by simp, o1, o2⟩

theorem toGraph (g : Graph) (hs : g.Small) : FreshW Tryz.prog 8 [.agg (g.cells true)] (fun b => .agg (g.cells b)) := by
  intro T
  have hnil : True := trivial
  refine enter mixed MG4 Tryz.func8 rfl (by kernel_rfl) rfl ?_
  repeat' (first | (with_reducible first | refine stp ?_ | refine k_blk_o rfl ?_) | ((try (conv => arg 1; simp [Graph.cells])); with_reducible refine evp ?_) | fail)
  refine cx_k ((Cx.mt.next.box_one (T := T) (i := 0) Cx.mt.off (by simp)).box_add (n := (T, 1, 0)) (by simp [nms]) (by simp)) ?_
  intro h1 x1
  have hT := x1.l0
  have hT2 : ¬ h1.tick = T := fun e => hT e.symm
  repeat' (first | (with_reducible first | refine stp ?_ | refine k_blk_o rfl ?_) | ((try (conv => arg 1; simp [hnil])); with_reducible refine evp ?_) | fail)
  refine cx_k (x1.next.box_one (T := h1.tick) (i := 0) x1.off (by simp)) ?_
  intro h2 x2
  have b2 := x2.bxs
  simp only [Bxs] at b2
  repeat' (first | (with_reducible first | refine stp ?_ | refine k_blk_o rfl ?_ | refine k_seq_n ?_) | ((try (conv => arg 1; simp [hT, hT2, b2, nm_ne, ltS])); with_reducible refine evp ?_) | fail)
  refine st_fresh rfl (toIntS g.Sizes hs.sizes) (.cons (dr_ints (fun h => h) _) .nil) ?_
  intro v h3 n o d f p t
  have x3 := x2.next.fresh o d f p t
  have q := own_one (ownV_ints (o true))
  have b3 := x3.bxs
  simp only [Bxs] at b3
  have x3' := x3.box_set (r' := ⟨0, 5, [[v, .int .i64 0, .int .i64 0, .int .i64 0, .nilsl]]⟩)
  repeat' (first | (with_reducible first | refine stp ?_ | refine k_blk_o rfl ?_) | ((try (conv => arg 1; simp [hT, hT2, b3, q.1, q.2.1, q.2.2, nm_ne, ltS])); with_reducible refine evp ?_) | fail)
  refine cx_k x3' ?_
  intro h4 x4
  have b4 := x4.bxs
  simp only [Bxs] at b4
  repeat' (first | (with_reducible first | refine stp ?_ | refine k_blk_o rfl ?_) | ((try (conv => arg 1; simp [hT, hT2, b4, q.1, q.2.1, q.2.2, nm_ne, ltS])); with_reducible refine evp ?_) | fail)
  refine cx_k (x4.next.box_set (r' := ⟨0, 5, [[v, .int .i64 g.Params, .int .i64 0, .int .i64 0, .nilsl]]⟩)) ?_
  intro h5 x5
  have b5 := x5.bxs
  simp only [Bxs] at b5
  repeat' (first | (with_reducible first | refine stp ?_ | refine k_blk_o rfl ?_) | ((try (conv => arg 1; simp [hT, hT2, b5, q.1, q.2.1, q.2.2, nm_ne, ltS])); with_reducible refine evp ?_) | fail)
  refine cx_k (x5.next.box_set (r' := ⟨0, 5, [[v, .int .i64 g.Params, .int .i64 g.Vars, .int .i64 0, .nilsl]]⟩)) ?_
  intro h6 x6
  have b6 := x6.bxs
  simp only [Bxs] at b6
  repeat' (first | (with_reducible first | refine stp ?_ | refine k_blk_o rfl ?_) | ((try (conv => arg 1; simp [hT, hT2, b6, q.1, q.2.1, q.2.2, nm_ne, ltS])); with_reducible refine evp ?_) | fail)
  refine cx_k (x6.next.box_set (r' := ⟨0, 5, [[v, .int .i64 g.Params, .int .i64 g.Vars, .int .i64 g.Slots, .nilsl]]⟩)) ?_
  intro h7 x7
  have b7 := x7.bxs
  simp only [Bxs] at b7
  repeat' (first | (with_reducible first | refine stp ?_ | refine k_blk_o rfl ?_ | refine k_seq_n ?_) | ((try (conv => arg 1; simp [hT, hT2, b7, q.1, q.2.1, q.2.2, nm_ne, ltS])); with_reducible refine evp ?_) | fail)
  refine st_freshw rfl (toBlockS g.Blocks hs.len hs.code) (.cons (dr_blocks (fun h => h) _) .nil) ?_
  intro v2 h8 n2 o2 d2 f2 p2 t2
  have x8 := x7.next.fresh o2 d2 f2 p2 t2
  have q2 := own_one' (own_of (o2 true) rfl)
  have b8 := x8.bxs
  simp only [Bxs] at b8
  repeat' (first | (with_reducible first | refine stp ?_ | refine k_blk_o rfl ?_ | refine k_seq_n ?_) | ((try (conv => arg 1; simp [hT, hT2, b8, q.1, q.2.1, q.2.2, q2.1, q2.2.1, q2.2.2, nm_ne, ltS])); with_reducible refine evp ?_) | fail)
  refine fin_own (os := []) (ns := n ++ n2) (bs := ?bs) (Cx.graph_join (g := g) (w1 := v) (w2 := v2) (n1 := n) (n2 := n2) (Cx.rot1 ?y))
  case y => exact Cx.to x8

theorem eqGraph (g : Graph) (hs : g.Small) : Pure Tryz.prog 11 [.agg (g.cells true), .agg (g.cells true)] (.bool true) := by
  intro T
  refine enter mixed MG4 Tryz.func11 rfl (by kernel_rfl) rfl ?_
  repeat' (first | (with_reducible first | refine stp ?_ | refine k_blk_o rfl ?_ | refine k_seq_n ?_) | ((try (conv => arg 1; simp [Graph.cells])); with_reducible refine evp ?_) | ((with_reducible refine tcl ?_); first | ((apply tg (eqIntS g.Sizes (by have := hs.sizes; omega))); (case e => rfl); (case d => (refine dq ?_); (repeat' (first | ((refine Da.mk ?_); first | exact dr_blocks (by simp) _ | assumption) | constructor)))) | ((apply tg (eqBlockS g.Blocks (by have := hs.len; omega) (fun x hx => by have := hs.code x hx; omega))); (case e => rfl); (case d => (refine dq ?_); (repeat' (first | ((refine Da.mk ?_); first | exact dr_blocks (by simp) _ | assumption) | constructor))))) | fail)
  exact .bool true
end Go.Proofs.YtlmlkkkgcbpaoaaGreat.AM

namespace Go.Proofs.YtlmlkkkgcbpaoaaGreat.AM
open Go.RowKit

private def MG12 : FuncId → Mode := fun f => .tree

theorem Graph.Small.fit {g : Graph} (h : g.Small) : g.Fit := ⟨h.sizes, h.len, h.code⟩
theorem gsum_mono {α : Type} {f e : α → Nat} (h : ∀ a, f a ≤ e a) (l : List α) (i : Nat) : gsum f l i ≤ gsum e l i := by
  unfold gsum
  generalize List.take i l = k
  induction k with
  | nil => simp
  | cons a k ih =>
    have := h a
    simp
    omega
theorem codeLen_small {g : Graph} (h : g.Small) (i : Nat) : codeLen g.Blocks i ≤ 2 ^ 20 := by
  have h1 := codeLen_le g.Blocks i
  have h2 : codeLen g.Blocks g.Blocks.length ≤ gsum wtB g.Blocks g.Blocks.length := gsum_mono (fun b => wtIS_len) _ _
  have h3 := h.blocks
  unfold wtBS at h3
  omega

theorem notInstr (g : Graph) (x : Instr) (hs : 0 ≤ g.Slots ∧ g.Slots ≤ 1000) (hr : g.Sizes.length ≤ 2 ^ 20) : Pure Tryz.prog 172 [.agg x.cells, .tptr true (g.cells true)] (.bool (!instrOk g.Slots g.Sizes.length x)) := by
  intro T
  have I := isInstr g x hs hr
  refine enter mixed MG12 Tryz.func172 rfl (by kernel_rfl) rfl ?_
  repeat' (first | (with_reducible first | refine stp ?_ | refine k_blk_o rfl ?_ | refine k_seq_n ?_) | ((try (conv => arg 1; simp [Graph.cells, Instr.cells])); with_reducible refine evp ?_) | ((with_reducible refine tcl ?_); first | ((apply tg (I)); (case e => rfl); (case d => (refine dq ?_); (repeat' (first | ((refine Da.mk ?_); first | exact dr_blocks (by simp) _ | assumption) | constructor))))) | fail)
  exact .bool _

set_option maxHeartbeats 8000000 in
theorem isBlock (g : Graph) (b : Block) (hs : 0 ≤ g.Slots ∧ g.Slots ≤ 1000) (hr : g.Sizes.length ≤ 2 ^ 20) (hb : g.Blocks.length ≤ 2 ^ 20) (hc : b.Code.length ≤ 2 ^ 20) : Pure Tryz.prog 132 [.agg (g.cells true), .agg (b.cells true)] (.bool (blockOk g b)) := by
  intro T
  have w1 : IntKind.i64.wrap (g.Slots - 1) = g.Slots - 1 := wrap_id (by omega) (by omega)
  have w2 : IntKind.i64.wrap ((g.Blocks.length : Int) - 1) = (g.Blocks.length : Int) - 1 := wrap_id (by omega) (by omega)
  have hs0 : ¬ g.Slots < 0 := by omega
  have H := containsFuncW b.Code 172 [.tptr true (g.cells true)] (fun x => !instrOk g.Slots g.Sizes.length x) (fun x _ => notInstr g x hs hr) (fun _ => .cons (dr_tptr' (fun h => h) (drs_graph (fun h => h) g)) .nil) (by omega)
  have e1 : (b.Code.any fun x => !instrOk g.Slots g.Sizes.length x) = !(b.Code.all (instrOk g.Slots g.Sizes.length)) := by rw [List.all_eq_not_any_not, Bool.not_not]
  rw [e1] at H
  refine enter mixed MG12 Tryz.func132 rfl (by kernel_rfl) rfl ?_
  cases ha : b.Code.all (instrOk g.Slots g.Sizes.length) with
  | false =>
    rw [ha] at H
    repeat' (first | (with_reducible first | refine stp ?_ | refine k_blk_o rfl ?_ | refine k_seq_n ?_) | ((try (conv => arg 1; simp [Graph.cells, Block.cells])); with_reducible refine evp ?_) | ((with_reducible refine tcl ?_); first | ((apply tg (H)); (case e => rfl); (case d => (refine dq ?_); (repeat' (first | ((refine Da.mk ?_); first | exact dr_instrs (by simp) _ | exact dr_ptr0 (r := ⟨0, 5, [g.cells true]⟩) (by simp [Graph.cells]) rfl rfl (drs_graph (by simp) _) | assumption) | constructor))))) | fail)
    have e : blockOk g b = false := by unfold blockOk; rw [ha, Bool.false_and]
    rw [e]
    exact .bool _
  | true =>
    rw [ha] at H
    repeat' (first | (with_reducible first | refine stp ?_ | refine k_blk_o rfl ?_ | refine k_seq_n ?_) | ((try (conv => arg 1; simp [Graph.cells, Block.cells])); with_reducible refine evp ?_) | ((with_reducible refine tcl ?_); first | ((apply tg (H)); (case e => rfl); (case d => (refine dq ?_); (repeat' (first | ((refine Da.mk ?_); first | exact dr_instrs (by simp) _ | exact dr_ptr0 (r := ⟨0, 5, [g.cells true]⟩) (by simp [Graph.cells]) rfl rfl (drs_graph (by simp) _) | assumption) | constructor))))) | fail)
    have e : blockOk g b = (if b.Jump = 0 then inB b.To 0 ((g.Blocks.length : Int) - 1) && decide (b.A = 0) && decide (b.Else = 0)
        else if b.Jump = 1 then inB b.To 0 ((g.Blocks.length : Int) - 1) && inB b.Else 0 ((g.Blocks.length : Int) - 1) && inB b.A 0 (g.Slots - 1)
        else if b.Jump = 2 then inB b.A 0 (g.Slots - 1) && decide (b.To = 0) && decide (b.Else = 0)
        else false) := by unfold blockOk; rw [ha, Bool.true_and]
    rw [e]
    repeat (with_reducible first | refine stp ?_ | refine k_seq_n ?_)
    refine st_draw 27 (fun _ => false) (by kernel_rfl) ?_
    simp only [List.take_succ_cons, List.take_zero, List.drop_succ_cons, List.drop_zero, List.take_nil, List.drop_nil]
    repeat' (first
      | (with_reducible first | refine st_seq ?_ | refine st_reg ?_ | refine st_block ?_ | refine st_nil ?_ | refine st_skip ?_ | refine st_ret ?_ | refine st_exit ?_ | refine fr_nil ?_ | refine k_seq_n ?_ | refine k_seq_r ?_ | refine k_seq_e ?_ | refine k_blk_n ?_ | refine k_blk_r ?_ | refine k_blk_s ?_ | refine k_blk_o rfl ?_ | refine k_fn_r ?_ | refine k_fn_n ?_ | refine k_lp_r ?_ | refine k_lp_e ?_)
      | ((with_reducible first | refine st_move ?_ | refine st_asg ?_ | refine st_c ?_ | refine fr_c ?_); (try (conv => arg 1; simp [w1, w2, hs0])); (with_reducible refine at_mk ?_))
      | ((with_reducible first | refine st_g ?_ | refine fr_g ?_); (try (conv => arg 1; simp [w1, w2, hs0])); (with_reducible refine at_mk ?_); with_reducible first | refine gd_tt ?_ | refine gd_ff ?_ | refine gd_tf ?_ | refine gd_ft ?_ | refine gd_no ?_)
      | ((with_reducible first | refine st_gm ?_ | refine fr_gm ?_); (try (conv => arg 1; simp [w1, w2, hs0])); (with_reducible refine at_mk ?_); (with_reducible first | refine gm_bool ?_ | refine gm_gv ?_); refine ⟨_, (by intro hc; first | ((try simp only [Bool.and_eq_true] at hc); (try (conv => lhs; simp [hc, w1, w2, hs0])); first | done | exact rfl) | ((try simp [gq] at hc); (try (conv => lhs; simp [gq, hc, w1, w2, hs0])); first | done | exact rfl)), ?_⟩)
      | ((with_reducible refine st_gmc ?_); (try (conv => arg 1; simp [w1, w2, hs0])); (with_reducible refine at_mk ?_); (with_reducible first | refine gm_bool ?_ | refine gm_gv ?_); refine ⟨_, _, _, (by intro hc; first | ((try simp only [Bool.and_eq_true] at hc); (try (conv => lhs; simp [hc, w1, w2, hs0])); first | done | exact rfl) | ((try simp [gq] at hc); (try (conv => lhs; simp [gq, hc, w1, w2, hs0])); first | done | exact rfl)), rfl, in_ _ _ _, (by intro hc; (try simp at hc); (repeat' (first | exact DRs.nil | refine DRs.cons ?_ ?_ | exact .int _ _ | exact .bool _ | exact .str _ | exact .nilsl | exact .nilp | exact dr_ints (by simp) _ | exact dr_intss (by simp) _ | refine dr_agg ?_ | refine dr_fn ?_ | refine dr_tptr' (by simp) ?_ | assumption))), ?_⟩)
      | ((with_reducible refine fr_gmc ?_); (try (conv => arg 1; simp [w1, w2, hs0])); (with_reducible refine at_mk ?_); (with_reducible first | refine gm_bool ?_ | refine gm_gv ?_); refine ⟨_, _, _, (by intro hc; first | ((try simp only [Bool.and_eq_true] at hc); (try (conv => lhs; simp [hc, w1, w2, hs0])); first | done | exact rfl) | ((try simp [gq] at hc); (try (conv => lhs; simp [gq, hc, w1, w2, hs0])); first | done | exact rfl)), in_ _ _ _, (by intro hc; (try simp at hc); (repeat' (first | exact DRs.nil | refine DRs.cons ?_ ?_ | exact .int _ _ | exact .bool _ | exact .str _ | exact .nilsl | exact .nilp | exact dr_ints (by simp) _ | exact dr_intss (by simp) _ | refine dr_agg ?_ | refine dr_fn ?_ | refine dr_tptr' (by simp) ?_ | assumption))), ?_⟩)
      | ((with_reducible refine st_gmv ?_); (try (conv => arg 1; simp [w1, w2, hs0])); (with_reducible refine at_mk ?_); (with_reducible first | refine gm_bool ?_ | refine gm_gv ?_); refine ⟨_, _, _, _, _, (by intro hc; first | ((try simp only [Bool.and_eq_true] at hc); (try (conv => lhs; simp [hc, w1, w2, hs0])); first | done | exact rfl) | ((try simp [gq] at hc); (try (conv => lhs; simp [gq, hc, w1, w2, hs0])); first | done | exact rfl)), (by intro hc; first | ((try simp only [Bool.and_eq_true] at hc); (try (conv => lhs; simp [hc, w1, w2, hs0])); first | done | exact rfl) | ((try simp [gq] at hc); (try (conv => lhs; simp [gq, hc, w1, w2, hs0])); first | done | exact rfl)), rfl, in_ _ _ _, (by intro hc; (try simp at hc); (repeat' (first | exact DRs.nil | refine DRs.cons ?_ ?_ | exact .int _ _ | exact .bool _ | exact .str _ | exact .nilsl | exact .nilp | exact dr_ints (by simp) _ | exact dr_intss (by simp) _ | refine dr_agg ?_ | refine dr_fn ?_ | refine dr_tptr' (by simp) ?_ | assumption))), ?_⟩)
      | ((with_reducible refine st_m rfl ?_); (try (conv => arg 1; simp [w1, w2, hs0])); (with_reducible refine ev2_some ?_))
      | ((with_reducible refine fr_n rfl ?_); (try (conv => arg 1; simp [w1, w2, hs0])); (with_reducible refine evn_some ?_))
      | ((with_reducible first | refine st_cv ?_ | refine fr_cv ?_); (try (conv => arg 1; simp [w1, w2, hs0])); (with_reducible refine at_mk ?_); (with_reducible refine fn_mk ?_); (try (conv => arg 1; simp [w1, w2, hs0])); (with_reducible refine at_mk ?_))
      | ((with_reducible refine fr_a ?_); (try (conv => arg 1; simp [w1, w2, hs0])); (with_reducible refine at_mk ?_); (try (conv => arg 1; simp [w1, w2, hs0])); (with_reducible refine at_mk ?_); refine ⟨?names, ?_⟩; (case names => (simp [appNames, ints, intss] <;> first | kernel_rfl | (refine ⟨?_, ?_⟩ <;> kernel_rfl))); (try (conv => arg 1; simp [w1, w2, hs0])); (with_reducible refine ev2_some ?_))
      | ((with_reducible first | refine st_q ?_ | refine fr_q ?_ | refine st_res ?_); (try (conv => arg 1; simp [w1, w2, hs0])); (with_reducible refine ev_some ?_))
      | ((with_reducible refine st_if ?_); (try (conv => arg 1; simp [w1, w2, hs0])); (with_reducible refine at_mk ?_); with_reducible first | refine br_t ?_ | refine br_f ?_ | (refine br_b (fun hb => ?_) (fun hb => ?_) <;> ((try simp only [Bool.not_eq_eq_eq_not, Bool.not_true, Bool.not_false] at hb); (try simp only [hb]); (try simp at hb))))
      | ((with_reducible refine ct_id ?_); refine st_tree rfl (in_ _ _ _) (by (repeat' (first | exact DRs.nil | refine DRs.cons ?_ ?_ | exact .int _ _ | exact .bool _ | exact .str _ | exact .nilsl | exact .nilp | exact dr_ints (by simp) _ | exact dr_intss (by simp) _ | refine dr_agg ?_ | refine dr_fn ?_ | refine dr_tptr' (by simp) ?_ | assumption))) ?_)
      | ((with_reducible refine tw_id ?_); refine treeW_pure (in_ _ _ _) (by (repeat' (first | exact DRs.nil | refine DRs.cons ?_ ?_ | exact .int _ _ | exact .bool _ | exact .str _ | exact .nilsl | exact .nilp | exact dr_ints (by simp) _ | exact dr_intss (by simp) _ | refine dr_agg ?_ | refine dr_fn ?_ | refine dr_tptr' (by simp) ?_ | assumption))) ?_))
    all_goals refine dr_bool ?_
    all_goals rw [Bool.eq_iff_iff]
    all_goals (try simp_all [inB])
    all_goals grind

theorem isSize (n : Int) : Pure Tryz.prog 169 [.int .i64 n] (.bool (!inB n 1 16)) := by
  intro T
  refine enter mixed MG12 Tryz.func169 rfl (by kernel_rfl) rfl ?_
  repeat' (first | (with_reducible first | refine stp ?_ | refine k_blk_o rfl ?_ | refine k_seq_n ?_) | ((try (conv => arg 1; simp)); with_reducible refine evp ?_) | ((with_reducible refine tcl ?_); first | ((apply tg (in_ _ _ _)); (case e => rfl); (case d => (refine dq ?_); (repeat' (first | ((refine Da.mk ?_); first | assumption) | constructor))))) | fail)
  exact .bool _
theorem areStmts0 (sizes : List Int) (P V : Int) : Pure Tryz.prog 170 [.agg [ints true sizes, .int .i64 P, .int .i64 V, .tr true []], .tr true [], .int .i64 0] (.bool true) := by
  intro T
  refine enter mixed MG12 Tryz.func170 rfl (by kernel_rfl) rfl ?_
  repeat' (first
    | (with_reducible first | refine st_seq ?_ | refine st_reg ?_ | refine st_block ?_ | refine st_nil ?_ | refine st_skip ?_ | refine st_ret ?_ | refine st_exit ?_ | refine fr_nil ?_ | refine k_seq_n ?_ | refine k_seq_r ?_ | refine k_seq_e ?_ | refine k_blk_n ?_ | refine k_blk_r ?_ | refine k_blk_s ?_ | refine k_blk_o rfl ?_ | refine k_fn_r ?_ | refine k_fn_n ?_ | refine k_lp_r ?_ | refine k_lp_e ?_)
    | ((with_reducible first | refine st_move ?_ | refine st_asg ?_ | refine st_c ?_ | refine fr_c ?_); (try (conv => arg 1; simp)); (with_reducible refine at_mk ?_))
    | ((with_reducible first | refine st_g ?_ | refine fr_g ?_); (try (conv => arg 1; simp)); (with_reducible refine at_mk ?_); with_reducible first | refine gd_tt ?_ | refine gd_ff ?_ | refine gd_tf ?_ | refine gd_ft ?_ | refine gd_no ?_)
    | ((with_reducible first | refine st_gm ?_ | refine fr_gm ?_); (try (conv => arg 1; simp)); (with_reducible refine at_mk ?_); (with_reducible first | refine gm_bool ?_ | refine gm_gv ?_); refine ⟨_, (by intro hc; first | ((try simp only [Bool.and_eq_true] at hc); (try (conv => lhs; simp [hc])); first | done | exact rfl) | ((try simp [gq] at hc); (try (conv => lhs; simp [gq, hc])); first | done | exact rfl)), ?_⟩)
    | ((with_reducible refine st_m rfl ?_); (try (conv => arg 1; simp)); (with_reducible refine ev2_some ?_))
    | ((with_reducible refine fr_n rfl ?_); (try (conv => arg 1; simp)); (with_reducible refine evn_some ?_))
    | ((with_reducible first | refine st_cv ?_ | refine fr_cv ?_); (try (conv => arg 1; simp)); (with_reducible refine at_mk ?_); (with_reducible refine fn_mk ?_); (try (conv => arg 1; simp)); (with_reducible refine at_mk ?_))
    | ((with_reducible refine fr_a ?_); (try (conv => arg 1; simp)); (with_reducible refine at_mk ?_); (try (conv => arg 1; simp)); (with_reducible refine at_mk ?_); refine ⟨?names, ?_⟩; (case names => (simp [appNames, ints, intss] <;> first | kernel_rfl | (refine ⟨?_, ?_⟩ <;> kernel_rfl))); (try (conv => arg 1; simp)); (with_reducible refine ev2_some ?_))
    | ((with_reducible first | refine st_q ?_ | refine fr_q ?_ | refine st_res ?_); (try (conv => arg 1; simp)); (with_reducible refine ev_some ?_))
    | ((with_reducible refine st_if ?_); (try (conv => arg 1; simp)); (with_reducible refine at_mk ?_); with_reducible first | refine br_t ?_ | refine br_f ?_))
  refine st_loop (fun (i : Nat) σ h => σ 24 = .int .i64 0 ∧ σ 25 = .int .i64 0) (fun i => 0) 0 ?init ?step
  case init =>
    simp
  case step =>
    rintro i σ h ⟨h0, h1⟩
    repeat' (first | (with_reducible first | refine stp ?_ | refine k_blk_o rfl ?_ | refine k_seq_n ?_) | ((try (conv => arg 1; simp [h0, h1])); with_reducible refine evp ?_) | fail)
    exact .bool _
def progOk (sizes : List Int) (P V : Int) : Bool := (inB sizes.length 1 4 && sizes.all fun n => inB n 1 16) && inB P 0 (if V < 6 then V else 6) && decide (V ≤ 20)
theorem isProgram0 (sizes : List Int) (P V : Int) (hl : sizes.length ≤ 2 ^ 62) : Pure Tryz.prog 131 [.agg [ints true sizes, .int .i64 P, .int .i64 V, .tr true []]] (.bool (progOk sizes P V)) := by
  intro T
  have hc := containsFuncI sizes 169 [] (fun n => !inB n 1 16) (fun w _ => isSize w) (fun _ => .nil) hl
  have hA := areStmts0 sizes P V
  refine enter mixed MG12 Tryz.func131 rfl (by kernel_rfl) rfl ?_
  repeat' (first
    | (with_reducible first | refine st_seq ?_ | refine st_reg ?_ | refine st_block ?_ | refine st_nil ?_ | refine st_skip ?_ | refine st_ret ?_ | refine st_exit ?_ | refine fr_nil ?_ | refine k_seq_n ?_ | refine k_seq_r ?_ | refine k_seq_e ?_ | refine k_blk_n ?_ | refine k_blk_r ?_ | refine k_blk_s ?_ | refine k_blk_o rfl ?_ | refine k_fn_r ?_ | refine k_fn_n ?_ | refine k_lp_r ?_ | refine k_lp_e ?_)
    | ((with_reducible first | refine st_move ?_ | refine st_asg ?_ | refine st_c ?_ | refine fr_c ?_); (try (conv => arg 1; simp [mmA])); (with_reducible refine at_mk ?_))
    | ((with_reducible first | refine st_g ?_ | refine fr_g ?_); (try (conv => arg 1; simp [mmA])); (with_reducible refine at_mk ?_); with_reducible first | refine gd_tt ?_ | refine gd_ff ?_ | refine gd_tf ?_ | refine gd_ft ?_ | refine gd_no ?_)
    | ((with_reducible first | refine st_gm ?_ | refine fr_gm ?_); (try (conv => arg 1; simp [mmA])); (with_reducible refine at_mk ?_); (with_reducible first | refine gm_bool ?_ | refine gm_gv ?_); refine ⟨_, (by intro hc; first | ((try simp only [Bool.and_eq_true] at hc); (try (conv => lhs; simp [hc, mmA])); first | done | exact rfl) | ((try simp [gq] at hc); (try (conv => lhs; simp [gq, hc, mmA])); first | done | exact rfl)), ?_⟩)
    | ((with_reducible refine st_gmc ?_); (try (conv => arg 1; simp [mmA])); (with_reducible refine at_mk ?_); (with_reducible first | refine gm_bool ?_ | refine gm_gv ?_); refine ⟨_, _, _, (by intro hc; first | ((try simp only [Bool.and_eq_true] at hc); (try (conv => lhs; simp [hc, mmA])); first | done | exact rfl) | ((try simp [gq] at hc); (try (conv => lhs; simp [gq, hc, mmA])); first | done | exact rfl)), rfl, hc, (by intro hc; (try simp at hc); (repeat' (first | exact DRs.nil | refine DRs.cons ?_ ?_ | exact .int _ _ | exact .bool _ | exact .str _ | exact .nilsl | exact .nilp | exact dr_ints (by simp) _ | exact dr_intss (by simp) _ | refine dr_agg ?_ | refine dr_fn ?_ | refine dr_tptr' (by simp) ?_ | assumption | exact .tr0 _))), ?_⟩)
    | ((with_reducible refine fr_gmc ?_); (try (conv => arg 1; simp [mmA])); (with_reducible refine at_mk ?_); (with_reducible first | refine gm_bool ?_ | refine gm_gv ?_); refine ⟨_, _, _, (by intro hc; first | ((try simp only [Bool.and_eq_true] at hc); (try (conv => lhs; simp [hc, mmA])); first | done | exact rfl) | ((try simp [gq] at hc); (try (conv => lhs; simp [gq, hc, mmA])); first | done | exact rfl)), hc, (by intro hc; (try simp at hc); (repeat' (first | exact DRs.nil | refine DRs.cons ?_ ?_ | exact .int _ _ | exact .bool _ | exact .str _ | exact .nilsl | exact .nilp | exact dr_ints (by simp) _ | exact dr_intss (by simp) _ | refine dr_agg ?_ | refine dr_fn ?_ | refine dr_tptr' (by simp) ?_ | assumption | exact .tr0 _))), ?_⟩)
    | ((with_reducible refine st_gmv ?_); (try (conv => arg 1; simp [mmA])); (with_reducible refine at_mk ?_); (with_reducible first | refine gm_bool ?_ | refine gm_gv ?_); refine ⟨_, _, _, _, _, (by intro hc; first | ((try simp only [Bool.and_eq_true] at hc); (try (conv => lhs; simp [hc, mmA])); first | done | exact rfl) | ((try simp [gq] at hc); (try (conv => lhs; simp [gq, hc, mmA])); first | done | exact rfl)), (by intro hc; first | ((try simp only [Bool.and_eq_true] at hc); (try (conv => lhs; simp [hc, mmA])); first | done | exact rfl) | ((try simp [gq] at hc); (try (conv => lhs; simp [gq, hc, mmA])); first | done | exact rfl)), rfl, hc, (by intro hc; (try simp at hc); (repeat' (first | exact DRs.nil | refine DRs.cons ?_ ?_ | exact .int _ _ | exact .bool _ | exact .str _ | exact .nilsl | exact .nilp | exact dr_ints (by simp) _ | exact dr_intss (by simp) _ | refine dr_agg ?_ | refine dr_fn ?_ | refine dr_tptr' (by simp) ?_ | assumption | exact .tr0 _))), ?_⟩)
    | ((with_reducible refine st_gmc ?_); (try (conv => arg 1; simp [mmA])); (with_reducible refine at_mk ?_); (with_reducible first | refine gm_bool ?_ | refine gm_gv ?_); refine ⟨_, _, _, (by intro hc; first | ((try simp only [Bool.and_eq_true] at hc); (try (conv => lhs; simp [hc, mmA])); first | done | exact rfl) | ((try simp [gq] at hc); (try (conv => lhs; simp [gq, hc, mmA])); first | done | exact rfl)), rfl, in_ _ _ _, (by intro hc; (try simp at hc); (repeat' (first | exact DRs.nil | refine DRs.cons ?_ ?_ | exact .int _ _ | exact .bool _ | exact .str _ | exact .nilsl | exact .nilp | exact dr_ints (by simp) _ | exact dr_intss (by simp) _ | refine dr_agg ?_ | refine dr_fn ?_ | refine dr_tptr' (by simp) ?_ | assumption | exact .tr0 _))), ?_⟩)
    | ((with_reducible refine fr_gmc ?_); (try (conv => arg 1; simp [mmA])); (with_reducible refine at_mk ?_); (with_reducible first | refine gm_bool ?_ | refine gm_gv ?_); refine ⟨_, _, _, (by intro hc; first | ((try simp only [Bool.and_eq_true] at hc); (try (conv => lhs; simp [hc, mmA])); first | done | exact rfl) | ((try simp [gq] at hc); (try (conv => lhs; simp [gq, hc, mmA])); first | done | exact rfl)), in_ _ _ _, (by intro hc; (try simp at hc); (repeat' (first | exact DRs.nil | refine DRs.cons ?_ ?_ | exact .int _ _ | exact .bool _ | exact .str _ | exact .nilsl | exact .nilp | exact dr_ints (by simp) _ | exact dr_intss (by simp) _ | refine dr_agg ?_ | refine dr_fn ?_ | refine dr_tptr' (by simp) ?_ | assumption | exact .tr0 _))), ?_⟩)
    | ((with_reducible refine st_gmv ?_); (try (conv => arg 1; simp [mmA])); (with_reducible refine at_mk ?_); (with_reducible first | refine gm_bool ?_ | refine gm_gv ?_); refine ⟨_, _, _, _, _, (by intro hc; first | ((try simp only [Bool.and_eq_true] at hc); (try (conv => lhs; simp [hc, mmA])); first | done | exact rfl) | ((try simp [gq] at hc); (try (conv => lhs; simp [gq, hc, mmA])); first | done | exact rfl)), (by intro hc; first | ((try simp only [Bool.and_eq_true] at hc); (try (conv => lhs; simp [hc, mmA])); first | done | exact rfl) | ((try simp [gq] at hc); (try (conv => lhs; simp [gq, hc, mmA])); first | done | exact rfl)), rfl, in_ _ _ _, (by intro hc; (try simp at hc); (repeat' (first | exact DRs.nil | refine DRs.cons ?_ ?_ | exact .int _ _ | exact .bool _ | exact .str _ | exact .nilsl | exact .nilp | exact dr_ints (by simp) _ | exact dr_intss (by simp) _ | refine dr_agg ?_ | refine dr_fn ?_ | refine dr_tptr' (by simp) ?_ | assumption | exact .tr0 _))), ?_⟩)
    | ((with_reducible refine st_gmc ?_); (try (conv => arg 1; simp [mmA])); (with_reducible refine at_mk ?_); (with_reducible first | refine gm_bool ?_ | refine gm_gv ?_); refine ⟨_, _, _, (by intro hc; first | ((try simp only [Bool.and_eq_true] at hc); (try (conv => lhs; simp [hc, mmA])); first | done | exact rfl) | ((try simp [gq] at hc); (try (conv => lhs; simp [gq, hc, mmA])); first | done | exact rfl)), rfl, hA, (by intro hc; (try simp at hc); (repeat' (first | exact DRs.nil | refine DRs.cons ?_ ?_ | exact .int _ _ | exact .bool _ | exact .str _ | exact .nilsl | exact .nilp | exact dr_ints (by simp) _ | exact dr_intss (by simp) _ | refine dr_agg ?_ | refine dr_fn ?_ | refine dr_tptr' (by simp) ?_ | assumption | exact .tr0 _))), ?_⟩)
    | ((with_reducible refine fr_gmc ?_); (try (conv => arg 1; simp [mmA])); (with_reducible refine at_mk ?_); (with_reducible first | refine gm_bool ?_ | refine gm_gv ?_); refine ⟨_, _, _, (by intro hc; first | ((try simp only [Bool.and_eq_true] at hc); (try (conv => lhs; simp [hc, mmA])); first | done | exact rfl) | ((try simp [gq] at hc); (try (conv => lhs; simp [gq, hc, mmA])); first | done | exact rfl)), hA, (by intro hc; (try simp at hc); (repeat' (first | exact DRs.nil | refine DRs.cons ?_ ?_ | exact .int _ _ | exact .bool _ | exact .str _ | exact .nilsl | exact .nilp | exact dr_ints (by simp) _ | exact dr_intss (by simp) _ | refine dr_agg ?_ | refine dr_fn ?_ | refine dr_tptr' (by simp) ?_ | assumption | exact .tr0 _))), ?_⟩)
    | ((with_reducible refine st_gmv ?_); (try (conv => arg 1; simp [mmA])); (with_reducible refine at_mk ?_); (with_reducible first | refine gm_bool ?_ | refine gm_gv ?_); refine ⟨_, _, _, _, _, (by intro hc; first | ((try simp only [Bool.and_eq_true] at hc); (try (conv => lhs; simp [hc, mmA])); first | done | exact rfl) | ((try simp [gq] at hc); (try (conv => lhs; simp [gq, hc, mmA])); first | done | exact rfl)), (by intro hc; first | ((try simp only [Bool.and_eq_true] at hc); (try (conv => lhs; simp [hc, mmA])); first | done | exact rfl) | ((try simp [gq] at hc); (try (conv => lhs; simp [gq, hc, mmA])); first | done | exact rfl)), rfl, hA, (by intro hc; (try simp at hc); (repeat' (first | exact DRs.nil | refine DRs.cons ?_ ?_ | exact .int _ _ | exact .bool _ | exact .str _ | exact .nilsl | exact .nilp | exact dr_ints (by simp) _ | exact dr_intss (by simp) _ | refine dr_agg ?_ | refine dr_fn ?_ | refine dr_tptr' (by simp) ?_ | assumption | exact .tr0 _))), ?_⟩)
    | ((with_reducible refine st_m rfl ?_); (try (conv => arg 1; simp [mmA])); (with_reducible refine ev2_some ?_))
    | ((with_reducible refine fr_n rfl ?_); (try (conv => arg 1; simp [mmA])); (with_reducible refine evn_some ?_))
    | ((with_reducible first | refine st_cv ?_ | refine fr_cv ?_); (try (conv => arg 1; simp [mmA])); (with_reducible refine at_mk ?_); (with_reducible refine fn_mk ?_); (try (conv => arg 1; simp [mmA])); (with_reducible refine at_mk ?_))
    | ((with_reducible refine fr_a ?_); (try (conv => arg 1; simp [mmA])); (with_reducible refine at_mk ?_); (try (conv => arg 1; simp [mmA])); (with_reducible refine at_mk ?_); refine ⟨?names, ?_⟩; (case names => (simp [appNames, ints, intss] <;> first | kernel_rfl | (refine ⟨?_, ?_⟩ <;> kernel_rfl))); (try (conv => arg 1; simp [mmA])); (with_reducible refine ev2_some ?_))
    | ((with_reducible first | refine st_q ?_ | refine fr_q ?_ | refine st_res ?_); (try (conv => arg 1; simp [mmA])); (with_reducible refine ev_some ?_))
    | ((with_reducible refine st_if ?_); (try (conv => arg 1; simp [mmA])); (with_reducible refine at_mk ?_); with_reducible first | refine br_t ?_ | refine br_f ?_)
    | ((with_reducible refine ct_id ?_); refine st_tree rfl (hc) (by (repeat' (first | exact DRs.nil | refine DRs.cons ?_ ?_ | exact .int _ _ | exact .bool _ | exact .str _ | exact .nilsl | exact .nilp | exact dr_ints (by simp) _ | exact dr_intss (by simp) _ | refine dr_agg ?_ | refine dr_fn ?_ | refine dr_tptr' (by simp) ?_ | assumption | exact .tr0 _))) ?_)
    | ((with_reducible refine tw_id ?_); refine treeW_pure (hc) (by (repeat' (first | exact DRs.nil | refine DRs.cons ?_ ?_ | exact .int _ _ | exact .bool _ | exact .str _ | exact .nilsl | exact .nilp | exact dr_ints (by simp) _ | exact dr_intss (by simp) _ | refine dr_agg ?_ | refine dr_fn ?_ | refine dr_tptr' (by simp) ?_ | assumption | exact .tr0 _))) ?_)
    | ((with_reducible refine ct_id ?_); refine st_tree rfl (in_ _ _ _) (by (repeat' (first | exact DRs.nil | refine DRs.cons ?_ ?_ | exact .int _ _ | exact .bool _ | exact .str _ | exact .nilsl | exact .nilp | exact dr_ints (by simp) _ | exact dr_intss (by simp) _ | refine dr_agg ?_ | refine dr_fn ?_ | refine dr_tptr' (by simp) ?_ | assumption | exact .tr0 _))) ?_)
    | ((with_reducible refine tw_id ?_); refine treeW_pure (in_ _ _ _) (by (repeat' (first | exact DRs.nil | refine DRs.cons ?_ ?_ | exact .int _ _ | exact .bool _ | exact .str _ | exact .nilsl | exact .nilp | exact dr_ints (by simp) _ | exact dr_intss (by simp) _ | refine dr_agg ?_ | refine dr_fn ?_ | refine dr_tptr' (by simp) ?_ | assumption | exact .tr0 _))) ?_)
    | ((with_reducible refine ct_id ?_); refine st_tree rfl (hA) (by (repeat' (first | exact DRs.nil | refine DRs.cons ?_ ?_ | exact .int _ _ | exact .bool _ | exact .str _ | exact .nilsl | exact .nilp | exact dr_ints (by simp) _ | exact dr_intss (by simp) _ | refine dr_agg ?_ | refine dr_fn ?_ | refine dr_tptr' (by simp) ?_ | assumption | exact .tr0 _))) ?_)
    | ((with_reducible refine tw_id ?_); refine treeW_pure (hA) (by (repeat' (first | exact DRs.nil | refine DRs.cons ?_ ?_ | exact .int _ _ | exact .bool _ | exact .str _ | exact .nilsl | exact .nilp | exact dr_ints (by simp) _ | exact dr_intss (by simp) _ | refine dr_agg ?_ | refine dr_fn ?_ | refine dr_tptr' (by simp) ?_ | assumption | exact .tr0 _))) ?_))
  refine dr_bool ?_
  have e1 : (sizes.all fun n => inB n 1 16) = !sizes.any fun n => !inB n 1 16 := by rw [List.all_eq_not_any_not]
  unfold progOk
  rw [e1]
theorem progOk_iff {g : Graph} : (progOk g.Sizes g.Params g.Vars && inB g.Slots g.Vars 1000 && inB g.Blocks.length 1 300) = headOk g := by
  rw [Bool.eq_iff_iff]
  simp only [progOk, headOk, inB, Bool.and_eq_true, decide_eq_true_eq]
  constructor
  · rintro ⟨⟨⟨⟨⟨h1, h2⟩, h3⟩, h4⟩, h5⟩, h6⟩
    refine ⟨⟨⟨⟨⟨⟨h1, h2⟩, ?_⟩, ?_⟩, h4⟩, h5⟩, h6⟩
    · split at h3 <;> omega
    · split at h3 <;> omega
  · rintro ⟨⟨⟨⟨⟨⟨h1, h2⟩, h3⟩, h3'⟩, h4⟩, h5⟩, h6⟩
    refine ⟨⟨⟨⟨⟨h1, h2⟩, ?_⟩, h4⟩, h5⟩, h6⟩
    split <;> omega

set_option maxHeartbeats 8000000 in
theorem isGraph (g : Graph) (d : g.Small) : Pure Tryz.prog 82 [.agg (g.cells true)] (.bool (graphOk g)) := by
  intro T
  have d1 := d.sizes
  have d2 := d.len
  have hP := isProgram0 g.Sizes g.Params g.Vars (by omega)
  have hh := progOk_iff (g := g)
  refine enter mixed MG12 Tryz.func82 rfl (by kernel_rfl) rfl ?_
  repeat' (first | (with_reducible first | refine stp ?_ | refine k_blk_o rfl ?_) | ((try (conv => arg 1; simp [Graph.cells])); with_reducible refine evp ?_) | fail)
  refine cx_k (Cx.mt.next.box_one (T := T) (i := 0) Cx.mt.off (by simp)) ?_
  intro h1 x1
  have b1 := x1.bxs
  simp only [Bxs] at b1
  repeat' (first
    | (with_reducible first | refine st_seq ?_ | refine st_reg ?_ | refine st_block ?_ | refine st_nil ?_ | refine st_skip ?_ | refine st_ret ?_ | refine st_exit ?_ | refine fr_nil ?_ | refine k_seq_n ?_ | refine k_seq_r ?_ | refine k_seq_e ?_ | refine k_blk_n ?_ | refine k_blk_r ?_ | refine k_blk_s ?_ | refine k_blk_o rfl ?_ | refine k_fn_r ?_ | refine k_fn_n ?_ | refine k_lp_r ?_ | refine k_lp_e ?_)
    | ((with_reducible first | refine st_move ?_ | refine st_asg ?_ | refine st_c ?_ | refine fr_c ?_); (try (conv => arg 1; simp [b1])); (with_reducible refine at_mk ?_))
    | ((with_reducible first | refine st_g ?_ | refine fr_g ?_); (try (conv => arg 1; simp [b1])); (with_reducible refine at_mk ?_); with_reducible first | refine gd_tt ?_ | refine gd_ff ?_ | refine gd_tf ?_ | refine gd_ft ?_ | refine gd_no ?_)
    | ((with_reducible first | refine st_gm ?_ | refine fr_gm ?_); (try (conv => arg 1; simp [b1])); (with_reducible refine at_mk ?_); (with_reducible first | refine gm_bool ?_ | refine gm_gv ?_); refine ⟨_, (by intro hc; first | ((try simp only [Bool.and_eq_true] at hc); (try (conv => lhs; simp [hc, b1])); first | done | exact rfl) | ((try simp [gq] at hc); (try (conv => lhs; simp [gq, hc, b1])); first | done | exact rfl)), ?_⟩)
    | ((with_reducible refine st_gmc ?_); (try (conv => arg 1; simp [b1])); (with_reducible refine at_mk ?_); (with_reducible first | refine gm_bool ?_ | refine gm_gv ?_); refine ⟨_, _, _, (by intro hc; first | ((try simp only [Bool.and_eq_true] at hc); (try (conv => lhs; simp [hc, b1])); first | done | exact rfl) | ((try simp [gq] at hc); (try (conv => lhs; simp [gq, hc, b1])); first | done | exact rfl)), rfl, hP, (by intro hc; (try simp at hc); (repeat' (first | exact DRs.nil | refine DRs.cons ?_ ?_ | exact .int _ _ | exact .bool _ | exact .str _ | exact .nilsl | exact .nilp | exact dr_ints (by simp) _ | exact dr_intss (by simp) _ | refine dr_agg ?_ | refine dr_fn ?_ | refine dr_tptr' (by simp) ?_ | assumption | exact .nilsl))), ?_⟩)
    | ((with_reducible refine fr_gmc ?_); (try (conv => arg 1; simp [b1])); (with_reducible refine at_mk ?_); (with_reducible first | refine gm_bool ?_ | refine gm_gv ?_); refine ⟨_, _, _, (by intro hc; first | ((try simp only [Bool.and_eq_true] at hc); (try (conv => lhs; simp [hc, b1])); first | done | exact rfl) | ((try simp [gq] at hc); (try (conv => lhs; simp [gq, hc, b1])); first | done | exact rfl)), hP, (by intro hc; (try simp at hc); (repeat' (first | exact DRs.nil | refine DRs.cons ?_ ?_ | exact .int _ _ | exact .bool _ | exact .str _ | exact .nilsl | exact .nilp | exact dr_ints (by simp) _ | exact dr_intss (by simp) _ | refine dr_agg ?_ | refine dr_fn ?_ | refine dr_tptr' (by simp) ?_ | assumption | exact .nilsl))), ?_⟩)
    | ((with_reducible refine st_gmv ?_); (try (conv => arg 1; simp [b1])); (with_reducible refine at_mk ?_); (with_reducible first | refine gm_bool ?_ | refine gm_gv ?_); refine ⟨_, _, _, _, _, (by intro hc; first | ((try simp only [Bool.and_eq_true] at hc); (try (conv => lhs; simp [hc, b1])); first | done | exact rfl) | ((try simp [gq] at hc); (try (conv => lhs; simp [gq, hc, b1])); first | done | exact rfl)), (by intro hc; first | ((try simp only [Bool.and_eq_true] at hc); (try (conv => lhs; simp [hc, b1])); first | done | exact rfl) | ((try simp [gq] at hc); (try (conv => lhs; simp [gq, hc, b1])); first | done | exact rfl)), rfl, hP, (by intro hc; (try simp at hc); (repeat' (first | exact DRs.nil | refine DRs.cons ?_ ?_ | exact .int _ _ | exact .bool _ | exact .str _ | exact .nilsl | exact .nilp | exact dr_ints (by simp) _ | exact dr_intss (by simp) _ | refine dr_agg ?_ | refine dr_fn ?_ | refine dr_tptr' (by simp) ?_ | assumption | exact .nilsl))), ?_⟩)
    | ((with_reducible refine st_gmc ?_); (try (conv => arg 1; simp [b1])); (with_reducible refine at_mk ?_); (with_reducible first | refine gm_bool ?_ | refine gm_gv ?_); refine ⟨_, _, _, (by intro hc; first | ((try simp only [Bool.and_eq_true] at hc); (try (conv => lhs; simp [hc, b1])); first | done | exact rfl) | ((try simp [gq] at hc); (try (conv => lhs; simp [gq, hc, b1])); first | done | exact rfl)), rfl, in_ _ _ _, (by intro hc; (try simp at hc); (repeat' (first | exact DRs.nil | refine DRs.cons ?_ ?_ | exact .int _ _ | exact .bool _ | exact .str _ | exact .nilsl | exact .nilp | exact dr_ints (by simp) _ | exact dr_intss (by simp) _ | refine dr_agg ?_ | refine dr_fn ?_ | refine dr_tptr' (by simp) ?_ | assumption | exact .nilsl))), ?_⟩)
    | ((with_reducible refine fr_gmc ?_); (try (conv => arg 1; simp [b1])); (with_reducible refine at_mk ?_); (with_reducible first | refine gm_bool ?_ | refine gm_gv ?_); refine ⟨_, _, _, (by intro hc; first | ((try simp only [Bool.and_eq_true] at hc); (try (conv => lhs; simp [hc, b1])); first | done | exact rfl) | ((try simp [gq] at hc); (try (conv => lhs; simp [gq, hc, b1])); first | done | exact rfl)), in_ _ _ _, (by intro hc; (try simp at hc); (repeat' (first | exact DRs.nil | refine DRs.cons ?_ ?_ | exact .int _ _ | exact .bool _ | exact .str _ | exact .nilsl | exact .nilp | exact dr_ints (by simp) _ | exact dr_intss (by simp) _ | refine dr_agg ?_ | refine dr_fn ?_ | refine dr_tptr' (by simp) ?_ | assumption | exact .nilsl))), ?_⟩)
    | ((with_reducible refine st_gmv ?_); (try (conv => arg 1; simp [b1])); (with_reducible refine at_mk ?_); (with_reducible first | refine gm_bool ?_ | refine gm_gv ?_); refine ⟨_, _, _, _, _, (by intro hc; first | ((try simp only [Bool.and_eq_true] at hc); (try (conv => lhs; simp [hc, b1])); first | done | exact rfl) | ((try simp [gq] at hc); (try (conv => lhs; simp [gq, hc, b1])); first | done | exact rfl)), (by intro hc; first | ((try simp only [Bool.and_eq_true] at hc); (try (conv => lhs; simp [hc, b1])); first | done | exact rfl) | ((try simp [gq] at hc); (try (conv => lhs; simp [gq, hc, b1])); first | done | exact rfl)), rfl, in_ _ _ _, (by intro hc; (try simp at hc); (repeat' (first | exact DRs.nil | refine DRs.cons ?_ ?_ | exact .int _ _ | exact .bool _ | exact .str _ | exact .nilsl | exact .nilp | exact dr_ints (by simp) _ | exact dr_intss (by simp) _ | refine dr_agg ?_ | refine dr_fn ?_ | refine dr_tptr' (by simp) ?_ | assumption | exact .nilsl))), ?_⟩)
    | ((with_reducible refine st_m rfl ?_); (try (conv => arg 1; simp [b1])); (with_reducible refine ev2_some ?_))
    | ((with_reducible refine fr_n rfl ?_); (try (conv => arg 1; simp [b1])); (with_reducible refine evn_some ?_))
    | ((with_reducible first | refine st_cv ?_ | refine fr_cv ?_); (try (conv => arg 1; simp [b1])); (with_reducible refine at_mk ?_); (with_reducible refine fn_mk ?_); (try (conv => arg 1; simp [b1])); (with_reducible refine at_mk ?_))
    | ((with_reducible refine fr_a ?_); (try (conv => arg 1; simp [b1])); (with_reducible refine at_mk ?_); (try (conv => arg 1; simp [b1])); (with_reducible refine at_mk ?_); refine ⟨?names, ?_⟩; (case names => (simp [appNames, ints, intss] <;> first | kernel_rfl | (refine ⟨?_, ?_⟩ <;> kernel_rfl))); (try (conv => arg 1; simp [b1])); (with_reducible refine ev2_some ?_))
    | ((with_reducible first | refine st_q ?_ | refine fr_q ?_ | refine st_res ?_); (try (conv => arg 1; simp [b1])); (with_reducible refine ev_some ?_))
    | ((with_reducible refine st_if ?_); (try (conv => arg 1; simp [b1])); (with_reducible refine at_mk ?_); with_reducible first | refine br_t ?_ | refine br_f ?_)
    | ((with_reducible refine ct_id ?_); refine st_tree rfl (hP) (by (repeat' (first | exact DRs.nil | refine DRs.cons ?_ ?_ | exact .int _ _ | exact .bool _ | exact .str _ | exact .nilsl | exact .nilp | exact dr_ints (by simp) _ | exact dr_intss (by simp) _ | refine dr_agg ?_ | refine dr_fn ?_ | refine dr_tptr' (by simp) ?_ | assumption | exact .nilsl))) ?_)
    | ((with_reducible refine tw_id ?_); refine treeW_pure (hP) (by (repeat' (first | exact DRs.nil | refine DRs.cons ?_ ?_ | exact .int _ _ | exact .bool _ | exact .str _ | exact .nilsl | exact .nilp | exact dr_ints (by simp) _ | exact dr_intss (by simp) _ | refine dr_agg ?_ | refine dr_fn ?_ | refine dr_tptr' (by simp) ?_ | assumption | exact .nilsl))) ?_)
    | ((with_reducible refine ct_id ?_); refine st_tree rfl (in_ _ _ _) (by (repeat' (first | exact DRs.nil | refine DRs.cons ?_ ?_ | exact .int _ _ | exact .bool _ | exact .str _ | exact .nilsl | exact .nilp | exact dr_ints (by simp) _ | exact dr_intss (by simp) _ | refine dr_agg ?_ | refine dr_fn ?_ | refine dr_tptr' (by simp) ?_ | assumption | exact .nilsl))) ?_)
    | ((with_reducible refine tw_id ?_); refine treeW_pure (in_ _ _ _) (by (repeat' (first | exact DRs.nil | refine DRs.cons ?_ ?_ | exact .int _ _ | exact .bool _ | exact .str _ | exact .nilsl | exact .nilp | exact dr_ints (by simp) _ | exact dr_intss (by simp) _ | refine dr_agg ?_ | refine dr_fn ?_ | refine dr_tptr' (by simp) ?_ | assumption | exact .nilsl))) ?_))
  (try with_reducible refine st_if ?_)
  (try (conv => arg 1; simp [d1]))
  (try with_reducible refine at_mk ?_)
  refine ⟨fun hb => ?_, fun hb => ?_⟩
  · have e : graphOk g = false := by
      unfold graphOk
      rw [← hh]
      simp only [Bool.or_eq_true, Bool.not_eq_true'] at hb
      rcases hb with (h | h) | h <;> simp only [h, Bool.false_and, Bool.and_false]
    repeat' (first | (with_reducible first | refine stp ?_ | refine k_blk_o rfl ?_ | refine k_seq_n ?_) | ((try (conv => arg 1; simp [d1])); with_reducible refine evp ?_) | fail)
    rw [e]
    exact .bool _
  have hk : headOk g = true := by
    rw [← hh]
    simp only [Bool.not_eq_true, Bool.or_eq_false_iff, Bool.not_eq_false'] at hb
    simp only [hb, Bool.and_true]
  have H := headOk_head hk
  have e4 := H.slots
  have e2 := H.params
  have e5 := H.blocks
  repeat' (first | (with_reducible first | refine stp ?_ | refine k_blk_o rfl ?_ | refine k_seq_n ?_) | ((try (conv => arg 1; simp [b1])); with_reducible refine evp ?_) | fail)
  refine st_loop (fun (i : Nat) σ h => i ≤ g.Blocks.length ∧ σ 1 = .ptr (T, 0, 0) 0 0 0 ∧ σ 31 = blocks true g.Blocks ∧ σ 32 = .int .i64 g.Blocks.length ∧ σ 3 = .int .i64 (codeLen g.Blocks i) ∧ σ 33 = .int .i64 i ∧ (g.Blocks.take i).all (blockOk g) = true ∧ Cx h [((T, 0, 0), graphRow g)] []) (fun i => g.Blocks.length - i) 0 ?init ?step
  case init => exact ⟨Nat.zero_le _, by simp, by simp, by simp, by simp [codeLen, gsum_zero], by simp, rfl, Cx.to x1⟩
  case step =>
    rintro i σ h ⟨hi, s1, s31, s32, s3, s33, ha2, x⟩
    have b2 := x.bxs
    simp only [Bxs, graphRow] at b2
    have hn := codeLen_small d i
    by_cases hlt : i < g.Blocks.length
    · have hlt2 : (i : Int) < g.Blocks.length := by omega
      have hx : g.Blocks[i]? = some g.Blocks[i] := by simp
      have hlen := block_len true g.Blocks[i]
      have hc := d.code _ (List.getElem_mem hlt)
      have hw : IntKind.i64.wrap (i + 1) = i + 1 := wrap_id (by omega) (by omega)
      have hs := codeLen_succ hlt
      have hw2 : IntKind.i64.wrap ((codeLen g.Blocks i : Int) + g.Blocks[i].Code.length) = codeLen g.Blocks (i + 1) := by rw [wrap_id (by omega) (by omega)]; omega
      have B := isBlock g g.Blocks[i] (by omega) d1 d2 hc
      cases hv : blockOk g g.Blocks[i] with
      | false =>
        rw [hv] at B
        repeat' (first | (with_reducible first | refine stp ?_ | refine k_blk_o rfl ?_ | refine k_seq_n ?_) | ((try (conv => arg 1; simp [s1, s31, s32, s3, s33, b2, hlt2, hx, hlen, blocks, Block.cells, Graph.cells, hw2, ltS, nm_ne])); with_reducible refine evp ?_) | ((with_reducible refine tcl ?_); first | ((apply tg (B)); (case e => rfl); (case d => (refine dq ?_); (repeat' (first | ((refine Da.mk ?_); first | exact dr_blocks (by simp) _ | exact dr_instrs (by simp) _ | assumption) | constructor))))) | fail)
        have e : graphOk g = false := by simp only [graphOk]; rw [all_false hlt hv, Bool.and_false]
        rw [e]
        exact .bool _
      | true =>
        rw [hv] at B
        repeat' (first | (with_reducible first | refine stp ?_ | refine k_blk_o rfl ?_ | refine k_seq_n ?_) | ((try (conv => arg 1; simp [s1, s31, s32, s3, s33, b2, hlt2, hx, hlen, blocks, Block.cells, Graph.cells, hw, hw2, ltS, nm_ne])); with_reducible refine evp ?_) | ((with_reducible refine tcl ?_); first | ((apply tg (B)); (case e => rfl); (case d => (refine dq ?_); (repeat' (first | ((refine Da.mk ?_); first | exact dr_blocks (by simp) _ | exact dr_instrs (by simp) _ | assumption) | constructor))))) | fail)
        refine k_lp_n (i + 1) (by omega) ⟨by omega, by simp [s1], by simp [s31], by simp [s32], by simp, by simp, by rw [all_take hlt, ha2, hv]; rfl, Cx.to x⟩
    · have hlt2 : ¬ (i : Int) < g.Blocks.length := by omega
      rw [List.take_of_length_le (by omega)] at ha2
      have hi2 : i = g.Blocks.length := by omega
      rw [hi2] at s3
      repeat' (first | (with_reducible first | refine stp ?_ | refine k_blk_o rfl ?_ | refine k_seq_n ?_) | ((try (conv => arg 1; simp [s1, s3, s32, s33, b2, hlt2, ltS, nm_ne])); with_reducible refine evp ?_) | fail)
      refine dr_bool ?_
      simp only [graphOk, hk, ha2, Bool.true_and, Bool.and_true]
      rw [Bool.eq_iff_iff]
      simp
      omega
end Go.Proofs.YtlmlkkkgcbpaoaaGreat.AM

namespace Go.Proofs.YtlmlkkkgcbpaoaaGreat.AM
open Go.RowKit

private def MG13 : FuncId → Mode := fun f => .tree

def isFall (b : Block) (i : Nat) : Bool := !decide (b.Jump = 2) && decide (b.To = (i : Int) + 1)
def fallsN (l : List Block) : Nat → Nat
  | 0 => 0
  | i + 1 => fallsN l i + (if ((l[i]?).map fun b => isFall b i) = some true then 1 else 0)
def falls (g : Graph) : Int := if graphOk g = true then fallsN g.Blocks g.Blocks.length else -1

end Go.Proofs.YtlmlkkkgcbpaoaaGreat.AM

namespace Go.Proofs.YtlmlkkkgcbpaoaaGreat.AM
open Go.RowKit

theorem drs_graphL {c b : Bool} {rows : Nm → Option Row} (g : Graph) (hb : b = true → c = true) : DRs c rows (g.cells b) (g.cells c) := drs_graph hb g
theorem shp_instr {cells : List AV} (h : Shp Tryz.prog 161 cells) : ∃ x : Instr, cells = x.cells ∧ x.Text.size ≤ maxLen := by
  have hs : stTys Tryz.prog 161 = some [3, 3, 3, 3, 3, 3, 9] := by kernel_rfl
  obtain ⟨p0, q0, rfl, s0, p1, q1, rfl, s1, p2, q2, rfl, s2, p3, q3, rfl, s3, p4, q4, rfl, s4, p5, q5, rfl, s5, p6, q6, rfl, s6, rfl⟩ := h.st_inv hs
  obtain ⟨a0, rfl, g0⟩ := s0.int_inv und_3
  obtain ⟨a1, rfl, g1⟩ := s1.int_inv und_3
  obtain ⟨a2, rfl, g2⟩ := s2.int_inv und_3
  obtain ⟨a3, rfl, g3⟩ := s3.int_inv und_3
  obtain ⟨a4, rfl, g4⟩ := s4.int_inv und_3
  obtain ⟨a5, rfl, g5⟩ := s5.int_inv und_3
  obtain ⟨a6, rfl, g6⟩ := s6.str_inv und_9
  exact ⟨⟨a0, a1, a2, a3, a4, a5, a6⟩, rfl, g6⟩
theorem shp_block {cells : List AV} (h : Shp Tryz.prog 54 cells) : ∃ x : Block, cells = x.cells true ∧ (x.Code.length ≤ maxLen ∧ ∀ y ∈ x.Code, y.Text.size ≤ maxLen) := by
  have hs : stTys Tryz.prog 54 = some [52, 3, 3, 3, 3] := by kernel_rfl
  obtain ⟨p0, q0, rfl, s0, p1, q1, rfl, s1, p2, q2, rfl, s2, p3, q3, rfl, s3, p4, q4, rfl, s4, rfl⟩ := h.st_inv hs
  obtain ⟨elems, rfl, g0, g0'⟩ := s0.sl_inv und_52
  obtain ⟨a1, rfl, g1⟩ := s1.int_inv und_3
  obtain ⟨a2, rfl, g2⟩ := s2.int_inv und_3
  obtain ⟨a3, rfl, g3⟩ := s3.int_inv und_3
  obtain ⟨a4, rfl, g4⟩ := s4.int_inv und_3
  obtain ⟨ws, rfl, gw⟩ := unmap Instr.cells (fun w => w.Text.size ≤ maxLen) elems fun y hy => shp_instr (g0' y hy)
  exact ⟨⟨ws, a1, a2, a3, a4⟩, rfl, by simpa using g0, gw⟩
theorem shp_graph {cells : List AV} (h : Shp Tryz.prog 25 cells) : ∃ g : Graph, cells = g.cells true ∧ g.Data := by
  have hs : stTys Tryz.prog 25 = some [22, 3, 3, 3, 23] := by kernel_rfl
  obtain ⟨p0, q0, rfl, s0, p1, q1, rfl, s1, p2, q2, rfl, s2, p3, q3, rfl, s3, p4, q4, rfl, s4, rfl⟩ := h.st_inv hs
  obtain ⟨a0, rfl, g0, g0'⟩ := s0.ints_inv und_22 und_3
  obtain ⟨a1, rfl, g1⟩ := s1.int_inv und_3
  obtain ⟨a2, rfl, g2⟩ := s2.int_inv und_3
  obtain ⟨a3, rfl, g3⟩ := s3.int_inv und_3
  obtain ⟨elems, rfl, g4, g4'⟩ := s4.sl_inv und_23
  obtain ⟨ws, rfl, gw⟩ := unmap (Block.cells true) (fun x => x.Code.length ≤ maxLen ∧ ∀ y ∈ x.Code, y.Text.size ≤ maxLen) elems fun y hy => shp_block (g4' y hy)
  exact ⟨⟨a0, a1, a2, a3, ws⟩, rfl, ⟨g0, by simpa using g4, gw⟩⟩
theorem agg_graph (cells : List AV) : avOf Tryz.prog 25 cells = .agg cells := agg_of (by kernel_rfl) cells
theorem av22 (c : AV) : avOf Tryz.prog 22 [c] = c := av_oneX und_22 rfl c
end Go.Proofs.YtlmlkkkgcbpaoaaGreat.AM


namespace Go.Proofs.YtlmlkkkgcbpaoaaGreat.AM
open Go.RowKit

private def MG7 : FuncId → Mode := fun f => .tree

def mb (k : Nat) : Int := IntKind.u8.wrap (IntKind.i64.wrap (48 + ((k : Int).tmod 10)))
def mdig (k : Nat) (out : ByteArray) : ByteArray := if h : k = 0 then out else mdig (k / 10) (bstr [mb k] ++ out)
termination_by k
decreasing_by omega
def mtext (k : Int) : ByteArray := if k ≤ 0 then ⟨#[109, 48]⟩ else ⟨#[109]⟩ ++ mdig k.toNat ⟨#[]⟩
theorem bstr1 (n : Int) : (bstr [n]).size = 1 := rfl
theorem max64 : IntKind.i64.max = 9223372036854775807 := by kernel_rfl
theorem rg1 : List.range 1 = [0] := rfl
theorem sz109 : (ByteArray.mk #[109]).size = 1 := rfl
theorem mdig_zero (out : ByteArray) : mdig 0 out = out := by rw [mdig]; simp
theorem mdig_succ {k : Nat} (h : k ≠ 0) (out : ByteArray) : mdig k out = mdig (k / 10) (bstr [mb k] ++ out) := by
  rw [mdig, dif_neg h]

theorem markText (k : Int) (hk : k ≤ 2 ^ 62) : Pure Tryz.prog 100 [.int .i64 k] (.str (mtext k)) := by
  intro T
  refine enter mixed MG7 Tryz.func100 rfl (by kernel_rfl) rfl ?_
  by_cases h0 : k ≤ 0
  · skip
    repeat' (first | (with_reducible first | refine stp ?_ | refine k_blk_o rfl ?_ | refine k_seq_n ?_) | ((try (conv => arg 1; simp [h0])); with_reducible refine evp ?_) | fail)
    rw [show mtext k = ⟨#[109, 48]⟩ by simp [mtext, h0]]
    exact .str _
  obtain ⟨n, rfl⟩ : ∃ n : Nat, k = (n : Int) := ⟨k.toNat, by omega⟩
  have hn0 : ¬ n = 0 := by omega
  repeat' (first | (with_reducible first | refine stp ?_ | refine k_blk_o rfl ?_ | refine k_seq_n ?_) | ((try (conv => arg 1; simp [h0, hn0])); with_reducible refine evp ?_) | fail)
  refine st_loop (fun (k : Nat) σ h => σ 0 = .int .i64 k ∧ ∃ out, σ 3 = .str out ∧ out.size + k ≤ n ∧ mdig k out = mdig n ⟨#[]⟩) (fun k => k) n ?init ?step
  case init => exact ⟨by simp, ⟨#[]⟩, by simp, by simp [ByteArray.size], rfl⟩
  case step =>
    rintro k σ h ⟨s0, out, s3, hsz, hd⟩
    by_cases hk0 : k = 0
    · have hk1 : ¬ (0 : Int) < k := by omega
      have hs1 : ¬ (9223372036854775807 : Int) < 1 + out.size := by omega
      repeat' (first | (with_reducible first | refine stp ?_ | refine k_blk_o rfl ?_ | refine k_seq_n ?_) | ((try (conv => arg 1; simp [s0, s3, hk0, hk1, max64, sz109, hs1])); with_reducible refine evp ?_) | fail)
      rw [hk0, mdig_zero] at hd
      have e : mtext (n : Int) = ⟨#[109]⟩ ++ out := by rw [hd]; simp only [mtext, if_neg h0, Int.toNat_natCast]
      rw [e]
      exact .str _
    · have hk1 : (0 : Int) < k := by omega
      have hs1 : ¬ (9223372036854775807 : Int) < 1 + out.size := by omega
      have hq : IntKind.i64.wrap ((k : Int).tdiv 10) = ((k / 10 : Nat) : Int) := by
        rw [show (k : Int).tdiv 10 = ((k / 10 : Nat) : Int) from rfl, wrap_id (by omega) (by omega)]
      have hq2 : IntKind.i64.wrap ((k : Int) / 10) = (k : Int) / 10 := wrap_id (by omega) (by omega)
      have hmb : IntKind.u8.wrap (IntKind.i64.wrap (48 + ((k : Int).tmod 10))) = mb k := rfl
      have hkp : 0 < k := by omega
      repeat' (first | (with_reducible first | refine stp ?_ | refine k_blk_o rfl ?_ | refine k_seq_n ?_) | ((try (conv => arg 1; simp [s0, s3, hk0, hk1, hkp, max64, bstr1, hs1, hq, hq2, hmb, rg1, convA, bstrA, srcElems, bytesOf])); with_reducible refine evp ?_) | fail)
      refine k_lp_n (k / 10) (by omega) ⟨by simp [hq2], bstr [mb k] ++ out, by simp, ?_, ?_⟩
      · rw [ByteArray.size_append, bstr1]
        omega
      · rw [← hd, mdig_succ hk0]

def minstrs (k : Int) (n : Nat) : List Instr := (List.range n).map fun (i : Nat) => ⟨k + 7 * i, k + 7 * i + 1, k + 7 * i + 1 + 1, k + 7 * i + 1 + 1 + 1, k + 7 * i + 1 + 1 + 1 + 1, k + 7 * i + 1 + 1 + 1 + 1 + 1, mtext (k + 7 * i + 1 + 1 + 1 + 1 + 1 + 1)⟩
theorem minstrs_length (k : Int) (n : Nat) : (minstrs k n).length = n := by simp [minstrs]
theorem minstrs_get {k : Int} {n i : Nat} (h : i < n) : (minstrs k n)[i]? = some ⟨k + 7 * i, k + 7 * i + 1, k + 7 * i + 1 + 1, k + 7 * i + 1 + 1 + 1, k + 7 * i + 1 + 1 + 1 + 1, k + 7 * i + 1 + 1 + 1 + 1 + 1, mtext (k + 7 * i + 1 + 1 + 1 + 1 + 1 + 1)⟩ := by simp [minstrs, h]
theorem own_empty {rows : Nm → Option Row} {a : AV} {ns : List Nm} (h : Own rows true [a] [.tr true []] ns) : a = .nilsl ∨ ∃ n ver off, a = .sl n ver off 0 := by
  rcases own_row_inv (xs := []) (s := 2) (fun e he => by simp at he) (by omega) h with ⟨_, _, h | ⟨n, ver, off, h, _⟩⟩ | ⟨n, ver, sp, h, _⟩
  · exact .inl h.1
  · exact .inr ⟨n, ver, off, h⟩
  · exact .inr ⟨n, ver, 0, h⟩

set_option maxHeartbeats 4000000 in
theorem markInstrS {h : Hp} {bs : Bx} {os : Ox} {w : AV} {xs : List Instr} {ns : List Nm} (x : Cx h bs ((w, (fun b => instrs b xs), ns) :: os)) (k : Int) (hk : 0 ≤ k) (hl : k + 7 * xs.length ≤ 2 ^ 62) :
    Sound Tryz.prog 61 [w, .int .i64 k] h fun v h' => v = .int .i64 (k + 7 * xs.length) ∧ Cx h' bs ((w, (fun b => instrs b (minstrs k xs.length)), ns) :: os) := by
  by_cases hne : xs = []
  · subst hne
    have hw := own_empty (own_of (x.o0 true) rfl)
    refine enter mixed MG7 Tryz.func61 rfl (by kernel_rfl) rfl ?_
    repeat' (first | (with_reducible first | refine stp ?_ | refine k_blk_o rfl ?_ | refine k_seq_n ?_) | ((try (conv => arg 1; simp [hk])); with_reducible refine evp ?_) | fail)
    refine st_loop (fun (i : Nat) σ h' => σ 0 = w ∧ σ 1 = .int .i64 k ∧ σ 5 = .int .i64 0 ∧ Cx h' bs ((w, (fun b => instrs b []), ns) :: os)) (fun i => 0) 0 ?init ?step
    case init => exact ⟨by simp, by simp, by simp, Cx.to x⟩
    case step =>
      rintro i σ h' ⟨h0, h1, h5, x'⟩
      rcases hw with rfl | ⟨n, ver, off, rfl⟩
      all_goals
        repeat' (first | (with_reducible first | refine stp ?_ | refine k_blk_o rfl ?_ | refine k_seq_n ?_) | ((try (conv => arg 1; simp [h0, h1, h5])); with_reducible refine evp ?_) | fail)
        exact ⟨by simp [resV], Cx.to x'⟩
  · obtain ⟨kk, ver, sp, rfl, rfl, q1, q2, y⟩ := x.open_flat (s := 7) (l := xs.map Instr.cells) (instrs_flat xs) (by omega) (by simpa using hne)
    rw [List.length_map]
    refine enter mixed MG7 Tryz.func61 rfl (by kernel_rfl) rfl ?_
    repeat' (first | (with_reducible first | refine stp ?_ | refine k_blk_o rfl ?_ | refine k_seq_n ?_) | ((try (conv => arg 1; simp [hk])); with_reducible refine evp ?_) | fail)
    refine st_loop (fun (i : Nat) σ h' => i ≤ xs.length ∧ σ 0 = .sl kk ver 0 xs.length ∧ σ 1 = .int .i64 (k + 7 * i) ∧ σ 5 = .int .i64 i ∧ ∃ ys : List Instr, ys.length = xs.length ∧ ys.take i = (minstrs k xs.length).take i ∧
      Cx h' ((kk, ⟨ver, 7, ys.map Instr.cells ++ sp⟩) :: bs) os) (fun i => xs.length - i) 0 ?init ?step
    case init => exact ⟨Nat.zero_le _, by simp, by simp, by simp, xs, rfl, rfl, Cx.to y⟩
    case step =>
      rintro i σ h' ⟨hi, h0, h1, h5, ys, hy, hyi, x'⟩
      have b := x'.bxs
      simp only [Bxs] at b
      have br := b.1
      have bt := b.2.1
      by_cases hlt : i < xs.length
      · have hlt2 : (i : Int) < xs.length := by omega
        have hl4 : i < ys.length := by omega
        have hes2 : ∀ e : Instr, (ys.map Instr.cells ++ sp).set i e.cells = (ys.set i e).map Instr.cells ++ sp := fun e => by
          rw [List.set_append_left _ _ (by simp; omega), List.map_set]
        obtain ⟨y1, y2, y3, y4, y5, y6, y7, hy2⟩ : ∃ (y1 y2 y3 y4 y5 y6 : Int) (y7 : ByteArray), ((ys.map Instr.cells) ++ sp)[i]? = some [.int .i64 y1, .int .i64 y2, .int .i64 y3, .int .i64 y4, .int .i64 y5, .int .i64 y6, .str y7] := by
          rw [List.getElem?_append_left (by simp; omega)]
          exact ⟨ys[i].Op, ys[i].D, ys[i].A, ys[i].B, ys[i].C, ys[i].N, ys[i].Text, by simp [hlt, hy, Instr.cells]⟩
        have hw : IntKind.i64.wrap (i + 1) = i + 1 := wrap_id (by omega) (by omega)
        have w1 : IntKind.i64.wrap (k + 7 * i + 1) = k + 7 * i + 1 := wrap_id (by omega) (by omega)
        have w2 : IntKind.i64.wrap (k + 7 * i + 1 + 1) = k + 7 * i + 1 + 1 := wrap_id (by omega) (by omega)
        have w3 : IntKind.i64.wrap (k + 7 * i + 1 + 1 + 1) = k + 7 * i + 1 + 1 + 1 := wrap_id (by omega) (by omega)
        have w4 : IntKind.i64.wrap (k + 7 * i + 1 + 1 + 1 + 1) = k + 7 * i + 1 + 1 + 1 + 1 := wrap_id (by omega) (by omega)
        have w5 : IntKind.i64.wrap (k + 7 * i + 1 + 1 + 1 + 1 + 1) = k + 7 * i + 1 + 1 + 1 + 1 + 1 := wrap_id (by omega) (by omega)
        have w6 : IntKind.i64.wrap (k + 7 * i + 1 + 1 + 1 + 1 + 1 + 1) = k + 7 * i + 1 + 1 + 1 + 1 + 1 + 1 := wrap_id (by omega) (by omega)
        have w7 : IntKind.i64.wrap (k + 7 * i + 1 + 1 + 1 + 1 + 1 + 1 + 1) = k + 7 * i + 1 + 1 + 1 + 1 + 1 + 1 + 1 := wrap_id (by omega) (by omega)
        have mt := markText (k + 7 * i + 1 + 1 + 1 + 1 + 1 + 1) (by omega)
        have hes2 := hes2 ⟨k + 7 * i, k + 7 * i + 1, k + 7 * i + 1 + 1, k + 7 * i + 1 + 1 + 1, k + 7 * i + 1 + 1 + 1 + 1, k + 7 * i + 1 + 1 + 1 + 1 + 1, mtext (k + 7 * i + 1 + 1 + 1 + 1 + 1 + 1)⟩
        have hlen : i < ((ys.map Instr.cells) ++ sp).length := by simp; omega
        generalize (ys.map Instr.cells) ++ sp = es at x' br hy2 hes2 hlen
        have hset : ∀ e, (es.set i e)[i]? = some e := fun e => List.getElem?_set_self hlen
        clear b
        repeat' (first | (with_reducible first | refine stp ?_ | refine k_blk_o rfl ?_ | refine k_seq_n ?_) | ((try (conv => arg 1; simp [h0, h1, h5, br, bt, hlt, hlt2, hy2, hset, hw, w1, w2, w3, w4, w5, w6, w7, ltS, nm_ne])); with_reducible refine evp ?_) | ((with_reducible refine tcl ?_); first | ((apply tg (mt)); (case e => rfl); (case d => (refine dq ?_); (repeat' (first | ((refine Da.mk ?_); first | assumption) | constructor))))) | fail)
        refine k_lp_n (i + 1) (by omega) ⟨by omega, by simp [h0], by simp; omega, by simp, ys.set i ⟨k + 7 * i, k + 7 * i + 1, k + 7 * i + 1 + 1, k + 7 * i + 1 + 1 + 1, k + 7 * i + 1 + 1 + 1 + 1, k + 7 * i + 1 + 1 + 1 + 1 + 1, mtext (k + 7 * i + 1 + 1 + 1 + 1 + 1 + 1)⟩, by simp [hy], ?_, ?_⟩
        · rw [List.take_add_one, List.take_add_one, minstrs_get hlt]
          simp [hyi, hy, hlt, List.take_set_of_le]
        · rw [← hes2]
          exact Cx.to x'
      · have hge : i = xs.length := by omega
        have hlt2 : ¬ (i : Int) < xs.length := by omega
        have e1 : ys = minstrs k xs.length := by
          subst hge
          rw [List.take_of_length_le (by omega), List.take_of_length_le (by simp [minstrs_length])] at hyi
          exact hyi
        repeat' (first | (with_reducible first | refine stp ?_ | refine k_blk_o rfl ?_ | refine k_seq_n ?_) | ((try (conv => arg 1; simp [h0, h1, h5, hlt2])); with_reducible refine evp ?_) | fail)
        rw [e1] at x'
        have z := x'.close_flat (instrs_flat _) q1 q2
        rw [List.length_map, minstrs_length] at z
        exact ⟨by simp [resV, hge], Cx.to z⟩
end Go.Proofs.YtlmlkkkgcbpaoaaGreat.AM

namespace Go.Proofs.YtlmlkkkgcbpaoaaGreat.AM
open Go.RowKit

private def MG16 : FuncId → Mode := fun f => if f = 61 ∨ f = 31 ∨ f = 14 then .heap else .tree

theorem Cx.block_split {h : Hp} {bs : Bx} {os : Ox} {l : List AV} {n : List Nm} {c : Block} (x : Cx h bs ((.agg l, (fun b => .agg (c.cells b)), n) :: os)) :
    ∃ w, l = [w, .int .i64 c.Jump, .int .i64 c.A, .int .i64 c.To, .int .i64 c.Else] ∧ Cx h bs ((w, (fun b => instrs b c.Code), n) :: os) := by
  obtain ⟨w, e, o⟩ := ownV_block (x.o0 true)
  cases e
  refine ⟨w, rfl, x.box, fun y hy b => ?_, x.nd, x.lt⟩
  simp only [List.mem_cons] at hy
  rcases hy with rfl | hy
  · obtain ⟨w', e', o'⟩ := ownV_block (x.o0 b)
    cases e'
    exact .one o'
  · exact x.own y (by simp [hy]) b
theorem Cx.graph_split {h : Hp} {bs : Bx} {os : Ox} {l : List AV} {n : List Nm} {g : Graph} (x : Cx h bs ((.agg l, (fun b => .agg (g.cells b)), n) :: os)) :
    ∃ w1 w2 n1 n2, l = [w1, .int .i64 g.Params, .int .i64 g.Vars, .int .i64 g.Slots, w2] ∧ n = n1 ++ n2 ∧ Cx h bs ((w1, (fun b => ints b g.Sizes), n1) :: (w2, (fun b => blocks b g.Blocks), n2) :: os) := by
  obtain ⟨w1, w2, n1, n2, e, en, o1, o2⟩ := ownV_graph (x.o0 true)
  cases e
  subst en
  refine ⟨w1, w2, n1, n2, rfl, rfl, x.box, fun y hy b => ?_, ?_, fun m hm => x.lt m ?_⟩
  · simp only [List.mem_cons] at hy
    rcases hy with rfl | rfl | hy
    · obtain ⟨w1', w2', m1, m2, e', _, p1, p2⟩ := ownV_graph (x.o0 b)
      cases e'
      rw [o1.det p1] at p1
      exact .one p1
    · obtain ⟨w1', w2', m1, m2, e', _, p1, p2⟩ := ownV_graph (x.o0 b)
      cases e'
      rw [o2.det p2] at p2
      exact .one p2
    · exact x.own y (by simp [hy]) b
  · have := x.nd
    simpa [nms, List.append_assoc] using this
  · simpa [nms, List.append_assoc] using hm

def bwt (b : Block) : Nat := 7 * b.Code.length + 4
def mblock (k : Int) (b : Block) : Block := ⟨minstrs k b.Code.length, k + 7 * b.Code.length, k + 7 * b.Code.length + 1, k + 7 * b.Code.length + 1 + 1, k + 7 * b.Code.length + 1 + 1 + 1⟩
def mblocks (k : Int) (xs : List Block) : List Block := (List.range xs.length).map fun i => match xs[i]? with | some b => mblock (k + gsum bwt xs i) b | none => ⟨[], 0, 0, 0, 0⟩
theorem mblocks_length (k : Int) (xs : List Block) : (mblocks k xs).length = xs.length := by simp [mblocks]
theorem mblocks_get {k : Int} {xs : List Block} {i : Nat} (h : i < xs.length) : (mblocks k xs)[i]? = some (mblock (k + gsum bwt xs i) xs[i]) := by simp [mblocks, h]
theorem five_flat {b : Bool} (l : List Block) : (l.map (Block.cells b)).flatten.length = l.length * 5 := by
  rw [flatten_len (s := 5) _ (fun e he => by simp at he; obtain ⟨a, _, rfl⟩ := he; rfl), List.length_map]

set_option maxHeartbeats 4000000 in
theorem markBlockS {h : Hp} {bs : Bx} {os : Ox} {w : AV} {xs : List Block} {ns : List Nm} (x : Cx h bs ((w, (fun b => blocks b xs), ns) :: os)) (k : Int) (hk : 0 ≤ k) (hl : k + gsum bwt xs xs.length ≤ 2 ^ 62) (hlx : xs.length ≤ 2 ^ 62) :
    Sound Tryz.prog 31 [w, .int .i64 k] h fun v h' => v = .int .i64 (k + gsum bwt xs xs.length) ∧ Cx h' bs ((w, (fun b => blocks b (mblocks k xs)), ns) :: os) := by
  by_cases hne : xs = []
  · subst hne
    have hw := own_empty (own_of (x.o0 true) rfl)
    refine enter mixed MG16 Tryz.func31 rfl (by kernel_rfl) rfl ?_
    repeat' (first | (with_reducible first | refine stp ?_ | refine k_blk_o rfl ?_ | refine k_seq_n ?_) | ((try (conv => arg 1; simp [hk])); with_reducible refine evp ?_) | fail)
    refine st_loop (fun (i : Nat) σ h' => σ 0 = w ∧ σ 1 = .int .i64 k ∧ σ 5 = .int .i64 0 ∧ Cx h' bs ((w, (fun b => blocks b []), ns) :: os)) (fun i => 0) 0 ?init ?step
    case init => exact ⟨by simp, by simp, by simp, Cx.to x⟩
    case step =>
      rintro i σ h' ⟨h0, h1, h5, x'⟩
      rcases hw with rfl | ⟨n, ver, off, rfl⟩
      all_goals
        repeat' (first | (with_reducible first | refine stp ?_ | refine k_blk_o rfl ?_ | refine k_seq_n ?_) | ((try (conv => arg 1; simp [h0, h1, h5])); with_reducible refine evp ?_) | fail)
        exact ⟨by simp [resV, gsum], Cx.to x'⟩
  · obtain ⟨kk, ver, es, sp, ns1, rfl, rfl, hel, he5, q1, q2, y⟩ := x.open_row (s := 5) (ts := fun b => xs.map (Block.cells b)) (by omega) (fun b t ht => by simp at ht; obtain ⟨a, _, rfl⟩ := ht; rfl) (by simpa using hne)
    have hel2 : es.length = xs.length := by simpa using hel
    rw [hel2]
    refine enter mixed MG16 Tryz.func31 rfl (by kernel_rfl) rfl ?_
    repeat' (first | (with_reducible first | refine stp ?_ | refine k_blk_o rfl ?_ | refine k_seq_n ?_) | ((try (conv => arg 1; simp [hk])); with_reducible refine evp ?_) | fail)
    refine st_loop (fun (i : Nat) σ h' => i ≤ xs.length ∧ σ 0 = .sl kk ver 0 xs.length ∧ σ 1 = .int .i64 (k + gsum bwt xs i) ∧ σ 5 = .int .i64 i ∧ ∃ es : List (List AV), es.length = xs.length ∧ (∀ e ∈ es, e.length = 5) ∧
      Cx h' ((kk, ⟨ver, 5, es ++ sp⟩) :: bs) ((.agg es.flatten, (fun b => .agg (((mblocks k xs).take i ++ xs.drop i).map (Block.cells b)).flatten), ns1) :: os)) (fun i => xs.length - i) 0 ?init ?step
    case init => exact ⟨Nat.zero_le _, by simp, by simp [gsum_zero], by simp, es, hel2, he5, Cx.to y⟩
    case step =>
      rintro i σ h' ⟨hi, h0, h1, h5, es, hle, he5, y⟩
      by_cases hlt : i < xs.length
      · have hlt2 : (i : Int) < xs.length := by omega
        have hg := gsum_succ bwt xs i hlt
        have hg2 := gsum_le bwt xs (i + 1)
        have hb : bwt xs[i] = 7 * xs[i].Code.length + 4 := rfl
        have ees : es = es.take i ++ (es[i] :: es.drop (i + 1)) := by rw [← List.drop_eq_getElem_cons (by omega), List.take_append_drop]
        have exs : xs.drop i = xs[i] :: xs.drop (i + 1) := List.drop_eq_getElem_cons hlt
        have f1 : es.flatten = (es.take i).flatten ++ (es[i] ++ (es.drop (i + 1)).flatten) := by
          have := congrArg List.flatten ees
          rw [List.flatten_append, List.flatten_cons] at this
          exact this
        have f2 : ∀ b, (((mblocks k xs).take i ++ xs.drop i).map (Block.cells b)).flatten = (((mblocks k xs).take i).map (Block.cells b)).flatten ++ (xs[i].cells b ++ ((xs.drop (i + 1)).map (Block.cells b)).flatten) := fun b => by
          rw [exs, List.map_append, List.flatten_append, List.map_cons, List.flatten_cons]
        have y0 := y
        rw [f1] at y0
        simp only [f2] at y0
        have ht5 : (es.take i).flatten.length = i * 5 := by rw [flatten_len (s := 5) _ (fun e he => he5 e (List.mem_of_mem_take he))]; simp; omega
        obtain ⟨m1, m2, en1, y1⟩ := Cx.agg_split (t1 := fun b => (((mblocks k xs).take i).map (Block.cells b)).flatten) (t2 := fun b => xs[i].cells b ++ ((xs.drop (i + 1)).map (Block.cells b)).flatten) (fun b => by rw [five_flat, ht5]; simp [mblocks_length]; omega) y0
        obtain ⟨m3, m4, en2, y2⟩ := Cx.agg_split (t1 := fun b => xs[i].cells b) (t2 := fun b => ((xs.drop (i + 1)).map (Block.cells b)).flatten) (fun b => by rw [block_len, he5 _ (List.getElem_mem _)]) y1
        obtain ⟨w, ew, y3⟩ := Cx.block_split y2.rot1
        have qw := own_one' (own_of (y3.o0 true) rfl)
        have hx : (es ++ sp)[i]? = some [w, .int .i64 xs[i].Jump, .int .i64 xs[i].A, .int .i64 xs[i].To, .int .i64 xs[i].Else] := by
          rw [List.getElem?_append_left (by omega), List.getElem?_eq_getElem (by omega), ew]
        have b := y3.bxs
        simp only [Bxs] at b
        have br := b.1
        have bt := b.2.1
        clear b
        repeat' (first | (with_reducible first | refine stp ?_ | refine k_blk_o rfl ?_ | refine k_seq_n ?_) | ((try (conv => arg 1; simp [h0, h1, h5, br, bt, hlt, hlt2, hx, qw.1, ltS, nm_ne])); with_reducible refine evp ?_) | fail)
        refine st_heap rfl (markInstrS y3.next.next (k + gsum bwt xs i) (by omega) (by omega)) ?_
        rintro v h2 ⟨rfl, y4⟩
        have b := y4.bxs
        simp only [Bxs] at b
        have br := b.1
        have bt := b.2.1
        clear b
        have hlen : i < (es ++ sp).length := by simp; omega
        have hset : ∀ e, ((es ++ sp).set i e)[i]? = some e := fun e => List.getElem?_set_self hlen
        have hes2 : ∀ e : List AV, (es ++ sp).set i e = es.set i e ++ sp := fun e => List.set_append_left _ _ (by omega)
        have hw : IntKind.i64.wrap (i + 1) = i + 1 := wrap_id (by omega) (by omega)
        generalize hK : (k : Int) + gsum bwt xs i + 7 * xs[i].Code.length = K at *
        have w1 : IntKind.i64.wrap (K + 1) = K + 1 := wrap_id (by omega) (by omega)
        have w2 : IntKind.i64.wrap (K + 1 + 1) = K + 1 + 1 := wrap_id (by omega) (by omega)
        have w3 : IntKind.i64.wrap (K + 1 + 1 + 1) = K + 1 + 1 + 1 := wrap_id (by omega) (by omega)
        have w4 : IntKind.i64.wrap (K + 1 + 1 + 1 + 1) = K + 1 + 1 + 1 + 1 := wrap_id (by omega) (by omega)
        have hes2 := hes2 [w, .int .i64 K, .int .i64 (K + 1), .int .i64 (K + 1 + 1), .int .i64 (K + 1 + 1 + 1)]
        generalize hE : es ++ sp = E at y4 br hx hes2 hlen hset
        repeat' (first | (with_reducible first | refine stp ?_ | refine k_blk_o rfl ?_ | refine k_seq_n ?_) | ((try (conv => arg 1; simp [h0, h1, h5, br, bt, hlt, hlt2, hx, hset, hw, w1, w2, w3, w4, qw.1, ltS, nm_ne])); with_reducible refine evp ?_) | fail)
        refine k_lp_n (i + 1) (by omega) ⟨by omega, by simp [h0], by simp; omega, by simp, es.set i [w, .int .i64 K, .int .i64 (K + 1), .int .i64 (K + 1 + 1), .int .i64 (K + 1 + 1 + 1)], by simp [hle], fun e he => ?_, ?_⟩
        · rcases List.mem_or_eq_of_mem_set he with he | rfl
          · exact he5 e he
          · rfl
        have eM : mblock (k + gsum bwt xs i) xs[i] = ⟨minstrs (k + gsum bwt xs i) xs[i].Code.length, K, K + 1, K + 1 + 1, K + 1 + 1 + 1⟩ := by simp only [mblock, hK]
        have y5 := (y4.block_join (c := mblock (k + gsum bwt xs i) xs[i])).perm (List.Perm.swap _ _ _)
        have y6 := (Cx.agg_app y5).agg_app
        have f3 : (es.set i [w, .int .i64 K, .int .i64 (K + 1), .int .i64 (K + 1 + 1), .int .i64 (K + 1 + 1 + 1)]).flatten = (es.take i).flatten ++ ([w, .int .i64 K, .int .i64 (K + 1), .int .i64 (K + 1 + 1), .int .i64 (K + 1 + 1 + 1)] ++ (es.drop (i + 1)).flatten) := by
          rw [List.set_eq_take_append_cons_drop, if_pos (by omega)]
          simp
        have f4 : ∀ b, (((mblocks k xs).take (i + 1) ++ xs.drop (i + 1)).map (Block.cells b)).flatten = (((mblocks k xs).take i).map (Block.cells b)).flatten ++ ((mblock (k + gsum bwt xs i) xs[i]).cells b ++ ((xs.drop (i + 1)).map (Block.cells b)).flatten) := fun b => by
          rw [List.take_add_one, mblocks_get hlt]; simp
        rw [f3, en1, en2, ← hes2]
        simp only [f4]
        rw [eM] at y6 ⊢
        exact Cx.to y6
      · have hge : i = xs.length := by omega
        have hlt2 : ¬ (i : Int) < xs.length := by omega
        repeat' (first | (with_reducible first | refine stp ?_ | refine k_blk_o rfl ?_ | refine k_seq_n ?_) | ((try (conv => arg 1; simp [h0, h1, h5, hlt2])); with_reducible refine evp ?_) | fail)
        rw [hge, List.take_of_length_le (by rw [mblocks_length]; omega), List.drop_of_length_le (Nat.le_refl _), List.append_nil] at y
        have z := y.close_row (ts := fun b => (mblocks k xs).map (Block.cells b)) he5 (fun b => by simp [mblocks_length, hle]) (fun b t ht => by simp at ht; obtain ⟨a, _, rfl⟩ := ht; rfl) q1 q2
        rw [hle] at z
        exact ⟨by simp [resV, hge], Cx.to z⟩

def Graph.tot (g : Graph) : Nat := g.Sizes.length + gsum bwt g.Blocks g.Blocks.length
def mgraph (k : Int) (g : Graph) : Graph := { g with Sizes := marks k g.Sizes.length, Blocks := mblocks (k + g.Sizes.length) g.Blocks }
theorem bwt_sum (xs : List Block) (i : Nat) (hi : i ≤ xs.length) : gsum bwt xs i ≤ 7 * gsum wtB xs i + 4 * i := by
  induction i with
  | zero => simp [gsum_zero]
  | succ i ih =>
    have h1 := gsum_succ bwt xs i (by omega)
    have h2 := gsum_succ wtB xs i (by omega)
    have h3 : xs[i].Code.length ≤ wtB xs[i] := wtIS_len
    have h4 : bwt xs[i] = 7 * xs[i].Code.length + 4 := rfl
    have := ih (by omega)
    omega
theorem Graph.Small.tot {g : Graph} (h : g.Small) : g.tot ≤ 2 ^ 24 := by
  have h1 := h.sizes
  have h2 := h.blocks
  have h3 := bwt_sum g.Blocks g.Blocks.length (Nat.le_refl _)
  unfold wtBS at h2
  unfold Graph.tot
  omega

set_option maxHeartbeats 1000000 in
theorem markGraph {h : Hp} {bs : Bx} {os : Ox} {l : List AV} {ns : List Nm} {g : Graph} (x : Cx h bs ((.agg l, (fun b => .agg (g.cells b)), ns) :: os)) (hs : g.Small) (k : Int) (hk : 0 ≤ k) (hk2 : k ≤ 2 ^ 40) :
    Sound Tryz.prog 13 [.agg l, .int .i64 k] h fun v h' => v = .int .i64 (k + g.tot) ∧ Cx h' bs ((.agg l, (fun b => .agg ((mgraph k g).cells b)), ns) :: os) := by
  have ht := hs.tot
  have hsz := hs.sizes
  have hln := hs.len
  have ht2 : g.tot = g.Sizes.length + gsum bwt g.Blocks g.Blocks.length := rfl
  obtain ⟨w1, w2, n1, n2, rfl, rfl, y⟩ := x.graph_split
  have q1 := own_one (own_of (y.o0 true) rfl)
  have q2 := own_one' (own_of (y.o1 true) rfl)
  refine enter mixed MG16 Tryz.func13 rfl (by kernel_rfl) rfl ?_
  repeat' (first | (with_reducible first | refine stp ?_ | refine k_blk_o rfl ?_) | ((try (conv => arg 1; simp [q1.1, q2.1])); with_reducible refine evp ?_) | fail)
  refine cx_k (y.next.box_one (i := 0) y.off (by simp)) ?_
  intro h1 x1
  have b1 := x1.bxs
  simp only [Bxs] at b1
  repeat' (first | (with_reducible first | refine stp ?_ | refine k_blk_o rfl ?_ | refine k_seq_n ?_) | ((try (conv => arg 1; simp [b1, ltS, nm_ne, q1.1, q2.1])); with_reducible refine evp ?_) | fail)
  have o1 := own_of (x1.next.o0 true) rfl
  refine st_heap rfl (markIntS o1 x1.next.lts k hk (by omega)) ?_
  rintro v h2 ⟨rfl, p1, p2, p3⟩
  have x2 := x1.next.mark (h' := h2) (t' := fun b => ints b (marks k g.Sizes.length)) (fun b => .one (p1 b)) (fun n a _ => p2 n a) p3
  have b2 := x2.bxs
  simp only [Bxs] at b2
  repeat' (first | (with_reducible first | refine stp ?_ | refine k_blk_o rfl ?_ | refine k_seq_n ?_) | ((try (conv => arg 1; simp [b2, ltS, nm_ne, q1.1, q2.1])); with_reducible refine evp ?_) | fail)
  refine st_heap rfl (markBlockS (x2.next.perm (List.Perm.swap _ _ _)) (k + g.Sizes.length) (by omega) (by omega) (by omega)) ?_
  rintro v h3 ⟨rfl, x3⟩
  repeat' (first | (with_reducible first | refine stp ?_ | refine k_blk_o rfl ?_ | refine k_seq_n ?_) | ((try (conv => arg 1; simp [hk])); with_reducible refine evp ?_) | fail)
  refine ⟨?_, ?_⟩
  · simp only [resV, ht2]
    congr 1
    push_cast
    omega
  · exact (Cx.graph_join (g := mgraph k g) (Cx.to (x3.box_drop.perm (List.Perm.swap _ _ _))))
end Go.Proofs.YtlmlkkkgcbpaoaaGreat.AM

namespace Go.Proofs.YtlmlkkkgcbpaoaaGreat.AM
open Go.RowKit

private def MG29 : FuncId → Mode := fun f => .tree

set_option maxHeartbeats 4000000 in
theorem heldInstrS (n : Nat) (k : Int) (hk : 0 ≤ k) (hl : k + 7 * n ≤ 2 ^ 62) : Pure Tryz.prog 62 [instrs true (minstrs k n), .int .i64 k] (.int .i64 (k + 7 * n)) := by
  intro T
  refine enter mixed MG29 Tryz.func62 rfl (by kernel_rfl) rfl ?_
  repeat' (first | (with_reducible first | refine stp ?_ | refine k_blk_o rfl ?_ | refine k_seq_n ?_) | ((try (conv => arg 1; simp [instrs])); with_reducible refine evp ?_) | fail)
  refine st_loop (fun (i : Nat) σ h => i ≤ n ∧ σ 0 = instrs true (minstrs k n) ∧ σ 1 = .int .i64 (k + 7 * i) ∧ σ 5 = .int .i64 i) (fun i => n - i) 0 ?init ?step
  case init => simp
  case step =>
    rintro i σ h ⟨hi, h0, h1, h5⟩
    by_cases hlt : i < n
    · have hlt2 : (i : Int) < n := by omega
      have hg := minstrs_get (k := k) hlt
      have w1 : IntKind.i64.wrap (k + 7 * i + 1) = k + 7 * i + 1 := wrap_id (by omega) (by omega)
      have w2 : IntKind.i64.wrap (k + 7 * i + 1 + 1) = k + 7 * i + 1 + 1 := wrap_id (by omega) (by omega)
      have w3 : IntKind.i64.wrap (k + 7 * i + 1 + 1 + 1) = k + 7 * i + 1 + 1 + 1 := wrap_id (by omega) (by omega)
      have w4 : IntKind.i64.wrap (k + 7 * i + 1 + 1 + 1 + 1) = k + 7 * i + 1 + 1 + 1 + 1 := wrap_id (by omega) (by omega)
      have w5 : IntKind.i64.wrap (k + 7 * i + 1 + 1 + 1 + 1 + 1) = k + 7 * i + 1 + 1 + 1 + 1 + 1 := wrap_id (by omega) (by omega)
      have w6 : IntKind.i64.wrap (k + 7 * i + 1 + 1 + 1 + 1 + 1 + 1) = k + 7 * i + 1 + 1 + 1 + 1 + 1 + 1 := wrap_id (by omega) (by omega)
      have w7 : IntKind.i64.wrap (k + 7 * i + 1 + 1 + 1 + 1 + 1 + 1 + 1) = k + 7 * i + 1 + 1 + 1 + 1 + 1 + 1 + 1 := wrap_id (by omega) (by omega)
      have hw : IntKind.i64.wrap (i + 1) = i + 1 := wrap_id (by omega) (by omega)
      have mt := markText (k + 7 * i + 1 + 1 + 1 + 1 + 1 + 1) (by omega)
      have hml := minstrs_length k n
      generalize minstrs k n = ys at *
      have hg2 := fun hh => Option.some.inj ((List.getElem?_eq_getElem (l := ys) (i := i) hh).symm.trans hg)
      repeat' (first | (with_reducible first | refine stp ?_ | refine k_blk_o rfl ?_ | refine k_seq_n ?_) | ((try (conv => arg 1; simp [instrs, h0, h1, h5, hlt, hlt2, hml, hg2, Instr.cells, w1, w2, w3, w4, w5, w6, w7])); with_reducible refine evp ?_) | fail)
      repeat (with_reducible first | refine stp ?_ | refine k_seq_n ?_)
      refine st_draw 8 (fun _ => false) (by kernel_rfl) ?_
      simp only [List.take_succ_cons, List.take_zero, List.drop_succ_cons, List.drop_zero, List.take_nil, List.drop_nil]
      repeat' (first | (with_reducible first | refine stp ?_ | refine k_blk_o rfl ?_ | refine k_seq_n ?_) | ((try (conv => arg 1; simp [instrs, h0, h1, h5, hlt, hlt2, hml, hg2, Instr.cells, hw, w7])); with_reducible refine evp ?_) | ((with_reducible refine apn ?na ?_); (case na => simp [appNames, ints, intss] <;> first | kernel_rfl | (refine ⟨?_, ?_⟩ <;> kernel_rfl))) | ((with_reducible refine tcl ?_); first | ((apply tg (mt)); (case e => rfl); (case d => (refine dq ?_); (repeat' (first | ((refine Da.mk ?_); first | assumption) | constructor))))) | fail)
      refine k_lp_n (i + 1) (by omega) ⟨by omega, by simp [h0], by simp; omega, by simp⟩
    · have hge : i = n := by omega
      have hlt2 : ¬ (i : Int) < n := by omega
      repeat' (first | (with_reducible first | refine stp ?_ | refine k_blk_o rfl ?_ | refine k_seq_n ?_) | ((try (conv => arg 1; simp [instrs, h0, h1, h5, hlt2, minstrs_length])); with_reducible refine evp ?_) | ((with_reducible refine apn ?na ?_); (case na => simp [appNames, ints, intss] <;> first | kernel_rfl | (refine ⟨?_, ?_⟩ <;> kernel_rfl))) | fail)
      rw [hge]
      exact .int _ _
set_option maxHeartbeats 4000000 in
theorem heldBlockS (xs : List Block) (k : Int) (hk : 0 ≤ k) (hl : k + gsum bwt xs xs.length ≤ 2 ^ 62) (hlx : xs.length ≤ 2 ^ 62) : Pure Tryz.prog 33 [blocks true (mblocks k xs), .int .i64 k] (.int .i64 (k + gsum bwt xs xs.length)) := by
  intro T
  refine enter mixed MG29 Tryz.func33 rfl (by kernel_rfl) rfl ?_
  repeat' (first | (with_reducible first | refine stp ?_ | refine k_blk_o rfl ?_ | refine k_seq_n ?_) | ((try (conv => arg 1; simp [blocks])); with_reducible refine evp ?_) | fail)
  refine st_loop (fun (i : Nat) σ h => i ≤ xs.length ∧ σ 0 = blocks true (mblocks k xs) ∧ σ 1 = .int .i64 (k + gsum bwt xs i) ∧ σ 5 = .int .i64 i) (fun i => xs.length - i) 0 ?init ?step
  case init => simp [gsum_zero]
  case step =>
    rintro i σ h ⟨hi, h0, h1, h5⟩
    by_cases hlt : i < xs.length
    · have hlt2 : (i : Int) < xs.length := by omega
      have hg := mblocks_get (k := k) hlt
      have hs := gsum_succ bwt xs i hlt
      have hs2 := gsum_le bwt xs (i + 1)
      have hb : bwt xs[i] = 7 * xs[i].Code.length + 4 := rfl
      have H := heldInstrS xs[i].Code.length (k + gsum bwt xs i) (by omega) (by omega)
      have hml := mblocks_length k xs
      have hw : IntKind.i64.wrap (i + 1) = i + 1 := wrap_id (by omega) (by omega)
      have hblen := block_len true (mblock (k + gsum bwt xs i) xs[i])
      rw [show mblock (k + gsum bwt xs i) xs[i] = ⟨minstrs (k + gsum bwt xs i) xs[i].Code.length, k + gsum bwt xs i + 7 * xs[i].Code.length, k + gsum bwt xs i + 7 * xs[i].Code.length + 1, k + gsum bwt xs i + 7 * xs[i].Code.length + 1 + 1, k + gsum bwt xs i + 7 * xs[i].Code.length + 1 + 1 + 1⟩ from rfl] at hg hblen
      generalize mblocks k xs = ys at *
      have hg2 := fun hh => Option.some.inj ((List.getElem?_eq_getElem (l := ys) (i := i) hh).symm.trans hg)
      replace hblen := fun hh => (congrArg (fun b => (Block.cells true b).length) (hg2 hh)).trans hblen
      generalize hK : (k : Int) + gsum bwt xs i + 7 * xs[i].Code.length = K at *
      have w1 : IntKind.i64.wrap (K + 1) = K + 1 := wrap_id (by omega) (by omega)
      have w2 : IntKind.i64.wrap (K + 1 + 1) = K + 1 + 1 := wrap_id (by omega) (by omega)
      have w3 : IntKind.i64.wrap (K + 1 + 1 + 1) = K + 1 + 1 + 1 := wrap_id (by omega) (by omega)
      have w4 : IntKind.i64.wrap (K + 1 + 1 + 1 + 1) = K + 1 + 1 + 1 + 1 := wrap_id (by omega) (by omega)
      have hK0 : ¬ K < 0 := by omega
      repeat' (first | (with_reducible first | refine stp ?_ | refine k_blk_o rfl ?_ | refine k_seq_n ?_) | ((try (conv => arg 1; simp [blocks, h0, h1, h5, hlt, hlt2, hml, hg2, hblen, Block.cells, hK0, w1, w2, w3, w4, hw])); with_reducible refine evp ?_) | ((with_reducible refine tcl ?_); first | ((apply tg (H)); (case e => rfl); (case d => (refine dq ?_); (repeat' (first | ((refine Da.mk ?_); first | exact dr_instrs (by simp) _ | assumption) | constructor))))) | fail)
      refine k_lp_n (i + 1) (by omega) ⟨by omega, by simp [h0], by simp; omega, by simp⟩
    · have hge : i = xs.length := by omega
      have hlt2 : ¬ (i : Int) < xs.length := by omega
      repeat' (first | (with_reducible first | refine stp ?_ | refine k_blk_o rfl ?_ | refine k_seq_n ?_) | ((try (conv => arg 1; simp [blocks, h0, h1, h5, hlt2, mblocks_length])); with_reducible refine evp ?_) | fail)
      rw [hge]
      exact .int _ _
theorem heldGraph (g : Graph) (hs : g.Small) (k : Int) (hk : 0 ≤ k) (hk2 : k ≤ 2 ^ 40) : Pure Tryz.prog 15 [.agg ((mgraph k g).cells true), .int .i64 k] (.int .i64 (k + g.tot)) := by
  intro T
  have ht := hs.tot
  have hsz := hs.sizes
  have hln := hs.len
  have ht2 : g.tot = g.Sizes.length + gsum bwt g.Blocks g.Blocks.length := rfl
  have H1 := heldIntS g.Sizes.length k hk (by omega)
  have H2 := heldBlockS g.Blocks (k + g.Sizes.length) (by omega) (by omega) (by omega)
  have n1 : ¬ k + (g.Sizes.length : Int) < 0 := by omega
  have n2 : ¬ k + (g.Sizes.length : Int) + (gsum bwt g.Blocks g.Blocks.length : Int) < 0 := by omega
  refine enter mixed MG29 Tryz.func15 rfl (by kernel_rfl) rfl ?_
  repeat' (first | (with_reducible first | refine stp ?_ | refine k_blk_o rfl ?_ | refine k_seq_n ?_) | ((try (conv => arg 1; simp [Graph.cells, mgraph, n1, n2])); with_reducible refine evp ?_) | ((with_reducible refine tcl ?_); first | ((apply tg (H1)); (case e => rfl); (case d => (refine dq ?_); (repeat' (first | ((refine Da.mk ?_); first | exact dr_blocks (by simp) _ | assumption) | constructor)))) | ((apply tg (H2)); (case e => rfl); (case d => (refine dq ?_); (repeat' (first | ((refine Da.mk ?_); first | exact dr_blocks (by simp) _ | assumption) | constructor))))) | fail)
  exact dr_int (by rw [ht2]; push_cast; omega)
end Go.Proofs.YtlmlkkkgcbpaoaaGreat.AM

namespace Go.Proofs.YtlmlkkkgcbpaoaaGreat.AM
open Go.RowKit

def rdI (l : List Int) (i : Int) : Int := l.getD i.toNat 0
theorem rdI_at {l : List Int} {i : Nat} (h : i < l.length) : rdI l (i : Int) = l[i] := by simp [rdI, h]
def nextL (b : Block) : List Int := if b.Jump = 0 then [b.To] else if b.Jump = 1 then [b.To, b.Else] else []
/-- The better one of those that one comes to and that are not there. -/
def bst (l : List Int) (th : List Bool) : List Int → Int → Int
  | [], b => b
  | t :: ts, b => bst l th ts (if (!(th.getD t.toNat true)) && (decide (b < 0) || decide (rdI l b < rdI l t)) then t else b)
def chNext (g : Graph) (l : List Int) (th : List Bool) (at_ : Int) : Int :=
  let b := bst l th (nextL (g.Blocks.getD at_.toNat ⟨[], 0, 0, 0, 0⟩)) (-1)
  if b < 0 then idxOf (fun x => !x) th else b
def ch (g : Graph) (l : List Int) : Nat → List Int × List Bool
  | 0 => ([], List.replicate g.Blocks.length false)
  | k + 1 =>
    let at_ := if k = 0 then 0 else chNext g l (ch g l k).2 ((ch g l k).1.getLastD 0)
    ((ch g l k).1 ++ [at_], (ch g l k).2.set at_.toNat true)
def chAt (g : Graph) (l : List Int) (k : Nat) : Int := if k = 0 then 0 else chNext g l (ch g l k).2 ((ch g l k).1.getLastD 0)
theorem ch_succ (g : Graph) (l : List Int) (k : Nat) : ch g l (k + 1) = ((ch g l k).1 ++ [chAt g l k], (ch g l k).2.set (chAt g l k).toNat true) := rfl
def hasI (xs : List Int) (v : Int) : Bool := xs.any fun x => decide (v = x)

/-- A block that is there, and not yet. -/
def Free (n : Nat) (th : List Bool) (t : Int) : Prop := 0 ≤ t ∧ t < n ∧ th.getD t.toNat true = false
theorem bst_free {n : Nat} {l : List Int} {th : List Bool} : ∀ (ts : List Int) (b : Int), (∀ t ∈ ts, 0 ≤ t ∧ t < n) → (b = -1 ∨ Free n th b) → (bst l th ts b = -1 ∨ Free n th (bst l th ts b))
  | [], b, _, hb => hb
  | t :: ts, b, ht, hb => by
    unfold bst
    refine bst_free ts _ (fun t' ht' => ht t' (by simp [ht'])) ?_
    split
    · rename_i h
      simp only [Bool.and_eq_true, Bool.not_eq_true'] at h
      exact .inr ⟨(ht t (by simp)).1, (ht t (by simp)).2, h.1⟩
    · exact hb
theorem idx_free {th : List Bool} : (idxOf (fun x => !x) th = -1 ∧ ∀ x ∈ th, x = true) ∨ Free th.length th (idxOf (fun x => !x) th) := by
  cases h : th.any fun x => !x with
  | false =>
    left
    refine ⟨by simp [idxOf, h], fun x hx => ?_⟩
    rw [List.any_eq_false] at h
    have := h x hx
    simpa using this
  | true =>
    right
    have e : idxOf (fun x => !x) th = (th.findIdx fun x => !x : Nat) := by simp [idxOf, h]
    have hlt : (th.findIdx fun x => !x) < th.length := List.findIdx_lt_length.2 (List.any_eq_true.1 h)
    rw [e]
    refine ⟨by omega, by omega, ?_⟩
    have := List.findIdx_getElem (w := hlt)
    simp [hlt] at this ⊢
    exact this

/-- What is known behind so many blocks. -/
structure ChOk (g : Graph) (l : List Int) (k : Nat) : Prop where
  len : (ch g l k).1.length = k
  tlen : (ch g l k).2.length = g.Blocks.length
  cnt : (ch g l k).2.count true = k
  rel : ∀ i, i < g.Blocks.length → (ch g l k).2.getD i true = hasI (ch g l k).1 i
  mem : ∀ x ∈ (ch g l k).1, 0 ≤ x ∧ x < g.Blocks.length
theorem next_ok {g : Graph} (hg : graphOk g = true) {i : Nat} (hi : i < g.Blocks.length) : ∀ t ∈ nextL g.Blocks[i], 0 ≤ t ∧ t < g.Blocks.length := by
  simp only [graphOk, Bool.and_eq_true, List.all_eq_true] at hg
  have hb := hg.2 _ (List.getElem_mem hi)
  unfold blockOk at hb
  simp only [Bool.and_eq_true] at hb
  have hb := hb.2
  intro t ht
  unfold nextL at ht
  split at ht
  · rename_i h
    simp at ht
    subst ht
    rw [if_pos h] at hb
    simp only [inB, Bool.and_eq_true, decide_eq_true_eq] at hb
    omega
  · rename_i h
    split at ht
    · rename_i h'
      rw [if_neg h, if_pos h'] at hb
      simp only [inB, Bool.and_eq_true, decide_eq_true_eq] at hb
      simp at ht
      rcases ht with rfl | rfl <;> omega
    · simp at ht
theorem hasI_append (xs : List Int) (a v : Int) : hasI (xs ++ [a]) v = (hasI xs v || decide (v = a)) := by simp [hasI]
theorem ch_ok {g : Graph} (hg : graphOk g = true) (l : List Int) : ∀ k, k ≤ g.Blocks.length → ChOk g l k ∧ (k < g.Blocks.length → Free g.Blocks.length (ch g l k).2 (chAt g l k)) ∧ (0 < k → k = g.Blocks.length → chAt g l k = -1) := by
  have hnb : 1 ≤ g.Blocks.length := by
    simp only [graphOk, Bool.and_eq_true] at hg
    exact (headOk_head hg.1.1).blocks.1
  have step : ∀ k, k ≤ g.Blocks.length → ChOk g l k → (k < g.Blocks.length → Free g.Blocks.length (ch g l k).2 (chAt g l k)) ∧ (0 < k → k = g.Blocks.length → chAt g l k = -1) := by
    intro k hk C
    by_cases h0 : k = 0
    · subst h0
      refine ⟨fun _ => ⟨by simp [chAt], by simp [chAt]; omega, ?_⟩, fun h => by omega⟩
      have hp : 0 < g.Blocks.length := by omega
      simp [chAt, ch, hp]
    · have hne : (ch g l k).1 ≠ [] := fun e => by have := C.len; rw [e] at this; simp at this; omega
      have hlast : (ch g l k).1.getLastD 0 ∈ (ch g l k).1 := by
        rw [List.getLastD_eq_getLast?, List.getLast?_eq_some_getLast hne]
        exact List.getLast_mem hne
      have hm := C.mem _ hlast
      obtain ⟨a, ha⟩ : ∃ a : Nat, (ch g l k).1.getLastD 0 = (a : Int) := ⟨((ch g l k).1.getLastD 0).toNat, by omega⟩
      have hal : a < g.Blocks.length := by omega
      have hblk : g.Blocks.getD a ⟨[], 0, 0, 0, 0⟩ = g.Blocks[a] := by simp [hal]
      have hb := bst_free (l := l) (th := (ch g l k).2) (nextL g.Blocks[a]) (-1) (next_ok hg hal) (.inl rfl)
      have hs : chAt g l k = if bst l (ch g l k).2 (nextL g.Blocks[a]) (-1) < 0 then idxOf (fun x => !x) (ch g l k).2 else bst l (ch g l k).2 (nextL g.Blocks[a]) (-1) := by
        unfold chAt chNext
        rw [if_neg h0, ha, Int.toNat_natCast, hblk]
      have hi := idx_free (th := (ch g l k).2)
      rw [C.tlen] at hi
      refine ⟨fun hlt => ?_, fun _ hkn => ?_⟩
      · rw [hs]
        rcases hb with hb | hb
        · rw [hb, if_pos (by omega)]
          rcases hi with ⟨_, hi⟩ | hi
          · exfalso
            have : (ch g l k).2.count true = (ch g l k).2.length := List.count_eq_length.2 fun b hb => (hi b hb).symm
            rw [C.cnt, C.tlen] at this
            omega
          · exact hi
        · rw [if_neg (by have := hb.1; omega)]
          exact hb
      · have hall : ∀ b ∈ (ch g l k).2, true = b := List.count_eq_length.1 (by rw [C.cnt, C.tlen]; exact hkn)
        have nofree : ∀ t, ¬ Free g.Blocks.length (ch g l k).2 t := fun t ⟨f1, f2, f3⟩ => by
          have hlt : t.toNat < (ch g l k).2.length := by rw [C.tlen]; omega
          have := hall _ (List.getElem_mem hlt)
          simp [hlt] at f3
          rw [f3] at this
          cases this
        rw [hs]
        rcases hb with hb | hb
        · rw [hb, if_pos (by omega)]
          rcases hi with ⟨hi, _⟩ | hi
          · exact hi
          · exact absurd hi (nofree _)
        · exact absurd hb (nofree _)
  intro k
  induction k with
  | zero =>
    intro hk
    have C : ChOk g l 0 := ⟨rfl, by simp [ch], by simp [ch, List.count_replicate], fun i hi => by simp [ch, hasI, hi], fun x hx => by simp [ch] at hx⟩
    exact ⟨C, step 0 hk C⟩
  | succ k ih =>
    intro hk
    obtain ⟨C, F, _⟩ := ih (by omega)
    obtain ⟨f1, f2, f3⟩ := F (by omega)
    obtain ⟨a, ha⟩ : ∃ a : Nat, chAt g l k = (a : Int) := ⟨(chAt g l k).toNat, by omega⟩
    rw [ha, Int.toNat_natCast] at f3
    have hal : a < (ch g l k).2.length := by rw [C.tlen]; omega
    have hfa : (ch g l k).2[a] = false := by simpa [hal] using f3
    have C' : ChOk g l (k + 1) := by
      refine ⟨by rw [ch_succ]; simp [C.len], by rw [ch_succ]; simp [C.tlen], ?_, fun i hi => ?_, fun x hx => ?_⟩
      · rw [ch_succ, ha]
        simp only [Int.toNat_natCast]
        rw [List.count_set hal]
        simp [hfa, C.cnt]
      · rw [ch_succ, ha]
        simp only [Int.toNat_natCast]
        rw [hasI_append, ← C.rel i hi]
        have hil : i < (ch g l k).2.length := by rw [C.tlen]; exact hi
        by_cases e : i = a
        · subst e
          simp [hil]
        · have e2 : ¬ (i : Int) = (a : Int) := by omega
          have e3 : ¬ a = i := fun h => e h.symm
          simp [hil, e2, List.getElem_set, e3]
      · rw [ch_succ] at hx
        simp only [List.mem_append, List.mem_singleton] at hx
        rcases hx with hx | rfl
        · exact C.mem x hx
        · exact ⟨f1, f2⟩
    exact ⟨C', step (k + 1) hk C'⟩
def chainR (g : Graph) (l : List Int) : List Int := if graphOk g = true ∧ l.length = g.Blocks.length then (ch g l g.Blocks.length).1 else []
end Go.Proofs.YtlmlkkkgcbpaoaaGreat.AM

namespace Go.Proofs.YtlmlkkkgcbpaoaaGreat.AM
open Go.RowKit

private def MG18 : FuncId → Mode := fun f => .tree

def bools (b : Bool) (l : List Bool) : AV := .tr b (l.map fun x => [.bool x])
@[simp] theorem one_bools (b : Bool) (xs : List Bool) : (bools b xs).one = true := rfl
@[simp] theorem stored_bools (b : Bool) (xs : List Bool) : (bools b xs).stored = true := rfl
@[simp] theorem cells_bools (b : Bool) (xs : List Bool) : (bools b xs).cells = [bools b xs] := rfl
theorem lenA_bools {P : Program} {t : TypeId} (b : Bool) (xs : List Bool) (h : (telem P t).isSome = true) : lenA P t (bools b xs) = some (.int .i64 xs.length) := by
  unfold bools
  rw [lenA_tr b _ h]
  simp
attribute [simp] lenA_bools
theorem dr_row1 {c : Bool} {rows : Nm → Option Row} {n : Nm} {ver : Nat} {l : List (List AV)} (h : rows n = some ⟨ver, 1, l⟩) (hf : ∀ e ∈ l, ∀ x ∈ e, flatc x = true) : DR c rows (.sl n ver 0 l.length) (.tr c l) := by
  refine .sl n ver 0 l.length _ _ h rfl (by simp) rfl (fun i e t he ht => ?_) (fun i e t j x y he ht hx hy => ?_)
  · simp only [Nat.zero_add] at he
    rw [he] at ht; cases ht; rfl
  · simp only [Nat.zero_add] at he
    rw [he] at ht; cases ht
    rw [hx] at hy; cases hy
    exact dr_flatc (hf e (List.mem_of_getElem? he) x (List.mem_of_getElem? hx))
theorem dr_bools_sl {c : Bool} {rows : Nm → Option Row} {n : Nm} {ver : Nat} {l : List Bool} (h : rows n = some ⟨ver, 1, l.map fun x => [.bool x]⟩) : DR c rows (.sl n ver 0 l.length) (bools c l) := by
  have := dr_row1 (c := c) h (fun e he x hx => by obtain ⟨a, _, rfl⟩ := List.mem_map.1 he; simp at hx; subst hx; rfl)
  rw [List.length_map] at this
  exact this
theorem dr_ints_sl {c : Bool} {rows : Nm → Option Row} {n : Nm} {ver : Nat} {l : List Int} (h : rows n = some ⟨ver, 1, cl1 l⟩) : DR c rows (.sl n ver 0 l.length) (ints c l) := by
  have := dr_row1 (c := c) h (fun e he x hx => by simp [cl1] at he; obtain ⟨a, _, rfl⟩ := he; simp at hx; subst hx; rfl)
  unfold cl1 at this
  rw [List.length_map] at this
  exact this

theorem indexI (l : List Int) (v : Int) (hl : l.length ≤ 2 ^ 62) : Pure Tryz.prog 57 [ints true l, .int .i64 v] (.int .i64 (idxOf (fun x => decide (v = x)) l)) := by
  intro T
  refine enter mixed MG18 Tryz.func57 rfl (by kernel_rfl) rfl ?_
  repeat' (first | (with_reducible first | refine stp ?_ | refine k_blk_o rfl ?_ | refine k_seq_n ?_) | ((try (conv => arg 1; simp)); with_reducible refine evp ?_) | fail)
  refine st_loop (fun (i : Nat) σ h => i ≤ l.length ∧ σ 0 = ints true l ∧ σ 1 = .int .i64 v ∧ σ 7 = .int .i64 l.length ∧ σ 8 = .int .i64 i ∧ ∀ j (hj : j < l.length), j < i → decide (v = l[j]) = false) (fun i => l.length - i) 0 ?init ?step
  case init =>
    refine ⟨Nat.zero_le _, by simp, by simp, by simp, by simp, fun j hj h => by omega⟩
  case step =>
    rintro i σ h ⟨hi, h0, h1, h7, h8, hb4⟩
    by_cases hlt : i < l.length
    · have hlt2 : (i : Int) < l.length := by omega
      have hx : l[i]? = some l[i] := by simp
      have hw : IntKind.i64.wrap (i + 1) = i + 1 := wrap_id (by omega) (by omega)
      by_cases he : v = l[i]
      · skip
        repeat' (first | (with_reducible first | refine stp ?_ | refine k_blk_o rfl ?_ | refine k_seq_n ?_) | ((try (conv => arg 1; simp [ints, h0, h1, h7, h8, hlt2, hx, ← he])); with_reducible refine evp ?_) | fail)
        exact dr_int (idxOf_hit (p := fun x => decide (v = x)) hlt hb4 (by simpa using he)).symm
      · skip
        repeat' (first | (with_reducible first | refine stp ?_ | refine k_blk_o rfl ?_ | refine k_seq_n ?_) | ((try (conv => arg 1; simp [ints, h0, h1, h7, h8, hlt2, hx, he, hw])); with_reducible refine evp ?_) | fail)
        refine k_lp_n (i + 1) (by omega) ⟨by omega, by simp [h0], by simp [h1], by simp [h7], by simp, fun j hj hji => ?_⟩
        by_cases e : j = i
        · subst e; simpa using he
        · exact hb4 j hj (by omega)
    · have hlt2 : ¬ (i : Int) < l.length := by omega
      repeat' (first | (with_reducible first | refine stp ?_ | refine k_blk_o rfl ?_ | refine k_seq_n ?_) | ((try (conv => arg 1; simp [h7, h8, hlt2])); with_reducible refine evp ?_) | fail)
      exact dr_int (idxOf_miss (p := fun x => decide (v = x)) fun j hj => hb4 j hj (by omega)).symm
theorem containsI (l : List Int) (v : Int) (hl : l.length ≤ 2 ^ 62) : Pure Tryz.prog 59 [ints true l, .int .i64 v] (.bool (hasI l v)) := by
  intro T
  have I := indexI l v hl
  refine enter mixed MG18 Tryz.func59 rfl (by kernel_rfl) rfl ?_
  repeat' (first | (with_reducible first | refine stp ?_ | refine k_blk_o rfl ?_ | refine k_seq_n ?_) | ((try (conv => arg 1; simp)); with_reducible refine evp ?_) | ((with_reducible refine tcl ?_); first | ((apply tg (I)); (case e => rfl); (case d => (refine dq ?_); (repeat' (first | ((refine Da.mk ?_); first | assumption) | constructor))))) | fail)
  exact dr_bool (idxOf_any _ _)

theorem rgo : List.range 1 = [0] := rfl
theorem rg2 : List.range 2 = [0, 1] := rfl
theorem dr_new {c : Bool} {rows : Nm → Option Row} {n : Nm} {l : List Int} (h : rows n = some ⟨0, 1, l.map fun x => [.int .i64 x]⟩) : DR c rows (.sl n 0 0 l.length) (ints c l) := dr_ints_sl h
theorem nextOf (b : Block) : Pure Tryz.prog 58 [.agg (b.cells true)] (ints false (nextL b)) := by
  intro T
  refine enter mixed MG18 Tryz.func58 rfl (by kernel_rfl) rfl ?_
  by_cases h0 : b.Jump = 0
  · rw [show nextL b = [b.To] by simp [nextL, h0]]
    repeat' (first | (with_reducible first | refine stp ?_ | refine k_blk_o rfl ?_ | refine k_seq_n ?_) | ((try (conv => arg 1; simp [Block.cells, h0, rgo])); with_reducible refine evp ?_) | fail)
    exact dr_new (l := [b.To]) (by simp)
  · by_cases h1 : b.Jump = 1
    · rw [show nextL b = [b.To, b.Else] by simp [nextL, h1]]
      repeat' (first | (with_reducible first | refine stp ?_ | refine k_blk_o rfl ?_ | refine k_seq_n ?_) | ((try (conv => arg 1; simp [Block.cells, h0, h1, rg2])); with_reducible refine evp ?_) | fail)
      exact dr_new (l := [b.To, b.Else]) (by simp)
    · rw [show nextL b = [] by simp [nextL, h0, h1]]
      repeat' (first | (with_reducible first | refine stp ?_ | refine k_blk_o rfl ?_ | refine k_seq_n ?_) | ((try (conv => arg 1; simp [Block.cells, h0, h1])); with_reducible refine evp ?_) | fail)
      exact .nilsl
theorem l05Next (b : Block) : Pure Tryz.prog 87 [.agg (b.cells true)] (ints false (nextL b)) := by
  intro T
  refine enter mixed MG18 Tryz.func87 rfl (by kernel_rfl) rfl ?_
  by_cases h0 : b.Jump = 0
  · rw [show nextL b = [b.To] by simp [nextL, h0]]
    repeat' (first | (with_reducible first | refine stp ?_ | refine k_blk_o rfl ?_ | refine k_seq_n ?_) | ((try (conv => arg 1; simp [Block.cells, h0, rgo])); with_reducible refine evp ?_) | fail)
    exact dr_new (l := [b.To]) (by simp)
  · by_cases h1 : b.Jump = 1
    · rw [show nextL b = [b.To, b.Else] by simp [nextL, h1]]
      repeat' (first | (with_reducible first | refine stp ?_ | refine k_blk_o rfl ?_ | refine k_seq_n ?_) | ((try (conv => arg 1; simp [Block.cells, h0, h1, rg2])); with_reducible refine evp ?_) | fail)
      exact dr_new (l := [b.To, b.Else]) (by simp)
    · rw [show nextL b = [] by simp [nextL, h0, h1]]
      repeat' (first | (with_reducible first | refine stp ?_ | refine k_blk_o rfl ?_ | refine k_seq_n ?_) | ((try (conv => arg 1; simp [Block.cells, h0, h1])); with_reducible refine evp ?_) | fail)
      exact dr_new (l := []) (by simp)

theorem bst_drop {l : List Int} {th : List Bool} {ts : List Int} {i : Nat} {b : Int} (hi : i < ts.length) : bst l th (ts.drop i) b = bst l th (ts.drop (i + 1)) (if (!(th.getD ts[i].toNat true)) && (decide (b < 0) || decide (rdI l b < rdI l ts[i])) then ts[i] else b) := by
  rw [List.drop_eq_getElem_cons hi]
  rfl

set_option maxHeartbeats 4000000 in
theorem l16Best (g : Graph) (hg : graphOk g = true) (d : g.Small) (l : List Int) (hl : l.length = g.Blocks.length) (th : List Bool) (ht : th.length = g.Blocks.length) (a : Nat) (ha : a < g.Blocks.length) :
    Pure Tryz.prog 51 [.agg (g.cells true), .int .i64 a, ints true l, bools true th] (.int .i64 (chNext g l th a)) := by
  intro T
  have hln := d.len
  have hx := next_ok hg ha
  have hblk : g.Blocks[a]? = some g.Blocks[a] := by simp
  have hlen := block_len true g.Blocks[a]
  have N := l05Next g.Blocks[a]
  have hcn : chNext g l th a = if bst l th (nextL g.Blocks[a]) (-1) < 0 then idxOf (fun x => !x) th else bst l th (nextL g.Blocks[a]) (-1) := by
    unfold chNext
    rw [Int.toNat_natCast, show g.Blocks.getD a ⟨[], 0, 0, 0, 0⟩ = g.Blocks[a] by simp [ha]]
  have hn2 : (nextL g.Blocks[a]).length ≤ 2 := by
    unfold nextL
    split
    · simp
    · split <;> simp
  refine enter mixed MG18 Tryz.func51 rfl (by kernel_rfl) rfl ?_
  repeat' (first | (with_reducible first | refine stp ?_ | refine k_blk_o rfl ?_) | ((try (conv => arg 1; simp [Graph.cells])); with_reducible refine evp ?_) | fail)
  refine cx_k (Cx.mt.next.box_one (T := T) (i := 0) Cx.mt.off (by simp)) ?_
  intro h1 x1
  have b1 := x1.bxs
  simp only [Bxs] at b1
  repeat' (first | (with_reducible first | refine stp ?_ | refine k_blk_o rfl ?_ | refine k_seq_n ?_) | ((try (conv => arg 1; simp [b1, blocks, hblk, hlen, Block.cells, ltS, nm_ne])); with_reducible refine evp ?_) | ((with_reducible refine tcl ?_); first | ((apply tg (N)); (case e => rfl); (case d => (refine dq ?_); (repeat' (first | ((refine Da.mk ?_); first | exact dr_instrs (by simp) _ | assumption) | constructor))))) | fail)
  generalize hN : nextL g.Blocks[a] = ts at *
  refine st_loop (fun (i : Nat) σ h => i ≤ ts.length ∧ σ 2 = ints true l ∧ σ 3 = bools true th ∧ σ 10 = ints false ts ∧ σ 11 = .int .i64 i ∧ ∃ b, σ 9 = .int .i64 b ∧ (b = -1 ∨ Free g.Blocks.length th b) ∧ bst l th (ts.drop i) b = bst l th ts (-1)) (fun i => ts.length - i) 0 ?init ?step
  case init => exact ⟨Nat.zero_le _, by simp, by simp, by simp, by simp, -1, by simp, .inl rfl, rfl⟩
  case step =>
    rintro i σ h ⟨hi, s2, s3, s10, s11, b, s9, hb, hd⟩
    by_cases hlt : i < ts.length
    · have hlt2 : (i : Int) < ts.length := by omega
      have hti : ts[i]? = some ts[i] := by simp
      have hw : IntKind.i64.wrap (i + 1) = i + 1 := wrap_id (by omega) (by omega)
      obtain ⟨t, et⟩ : ∃ t : Nat, ts[i] = (t : Int) := ⟨ts[i].toNat, by have := hx _ (List.getElem_mem hlt); omega⟩
      have htl : t < g.Blocks.length := by have := hx _ (List.getElem_mem hlt); omega
      have htt : th[t]? = some th[t] := by simp [ht, htl]
      have hlt' : l[t]? = some l[t] := by simp [hl, htl]
      rw [bst_drop hlt, et, Int.toNat_natCast] at hd
      rw [show th.getD t true = th[t]'(by omega) by simp [ht, htl]] at hd
      rw [et] at hti
      have hbe : ∀ b', bst l th (ts.drop (i + 1)) b' = bst l th ts (-1) → (b' = -1 ∨ Free g.Blocks.length th b') → True := fun _ _ _ => trivial
      cases hv : th[t]'(by omega) with
      | true =>
        rw [hv] at hd htt
        repeat' (first | (with_reducible first | refine stp ?_ | refine k_blk_o rfl ?_ | refine k_seq_n ?_) | ((try (conv => arg 1; simp [s2, s3, s10, s11, hlt2])); with_reducible refine evp ?_) | fail)
        repeat (with_reducible first | refine stp ?_ | refine k_seq_n ?_)
        refine st_draw 26 (fun _ => false) (by kernel_rfl) ?_
        simp only [List.take_succ_cons, List.take_zero, List.drop_succ_cons, List.drop_zero, List.take_nil, List.drop_nil]
        repeat' (first | (with_reducible first | refine stp ?_ | refine k_blk_o rfl ?_ | refine k_seq_n ?_) | ((try (conv => arg 1; simp [s2, s3, s9, s10, s11, ints, bools, hti, htt, hw])); with_reducible refine evp ?_) | ((with_reducible refine apn ?na ?_); (case na => simp [appNames, ints, intss] <;> first | kernel_rfl | (refine ⟨?_, ?_⟩ <;> kernel_rfl))) | fail)
        refine k_lp_n (i + 1) (by omega) ⟨by omega, by simp [s2], by simp [s3], by simp [s10], by simp, b, by simp [s9], hb, by simpa using hd⟩
      | false =>
        rw [hv] at hd htt
        have hfr : Free g.Blocks.length th (t : Int) := ⟨by omega, by omega, by simp [ht, htl, hv]⟩
        rcases hb with rfl | hb
        · skip
          repeat' (first | (with_reducible first | refine stp ?_ | refine k_blk_o rfl ?_ | refine k_seq_n ?_) | ((try (conv => arg 1; simp [s2, s3, s10, s11, hlt2])); with_reducible refine evp ?_) | ((with_reducible refine apn ?na ?_); (case na => simp [appNames, ints, intss] <;> first | kernel_rfl | (refine ⟨?_, ?_⟩ <;> kernel_rfl))) | fail)
          repeat (with_reducible first | refine stp ?_ | refine k_seq_n ?_)
          refine st_draw 26 (fun _ => false) (by kernel_rfl) ?_
          simp only [List.take_succ_cons, List.take_zero, List.drop_succ_cons, List.drop_zero, List.take_nil, List.drop_nil]
          repeat' (first | (with_reducible first | refine stp ?_ | refine k_blk_o rfl ?_ | refine k_seq_n ?_) | ((try (conv => arg 1; simp [s2, s3, s9, s10, s11, ints, bools, hti, htt, hw])); with_reducible refine evp ?_) | ((with_reducible refine apn ?na ?_); (case na => simp [appNames, ints, intss] <;> first | kernel_rfl | (refine ⟨?_, ?_⟩ <;> kernel_rfl))) | fail)
          refine k_lp_n (i + 1) (by omega) ⟨by omega, by simp [s2], by simp [s3], by simp [s10], by simp, t, by simp, .inr hfr, by simpa using hd⟩
        · obtain ⟨c, rfl⟩ : ∃ c : Nat, b = (c : Int) := ⟨b.toNat, by have := hb.1; omega⟩
          have hcl : c < g.Blocks.length := by have := hb.2.1; omega
          have hlc : l[c]? = some (l[c]'(by omega)) := by simp [hl, hcl]
          have hc0 : ¬ (c : Int) < 0 := by omega
          rw [rdI_at (l := l) (i := c) (by omega), rdI_at (l := l) (i := t) (by omega)] at hd
          by_cases hcmp : l[c]'(by omega) < l[t]'(by omega)
          · skip
            repeat' (first | (with_reducible first | refine stp ?_ | refine k_blk_o rfl ?_ | refine k_seq_n ?_) | ((try (conv => arg 1; simp [s2, s3, s10, s11, hlt2])); with_reducible refine evp ?_) | ((with_reducible refine apn ?na ?_); (case na => simp [appNames, ints, intss] <;> first | kernel_rfl | (refine ⟨?_, ?_⟩ <;> kernel_rfl))) | fail)
            repeat (with_reducible first | refine stp ?_ | refine k_seq_n ?_)
            refine st_draw 26 (fun _ => false) (by kernel_rfl) ?_
            simp only [List.take_succ_cons, List.take_zero, List.drop_succ_cons, List.drop_zero, List.take_nil, List.drop_nil]
            repeat' (first | (with_reducible first | refine stp ?_ | refine k_blk_o rfl ?_ | refine k_seq_n ?_) | ((try (conv => arg 1; simp [s2, s3, s9, s10, s11, ints, bools, hti, htt, hlt', hlc, hc0, hcmp, hw])); with_reducible refine evp ?_) | ((with_reducible refine apn ?na ?_); (case na => simp [appNames, ints, intss] <;> first | kernel_rfl | (refine ⟨?_, ?_⟩ <;> kernel_rfl))) | fail)
            refine k_lp_n (i + 1) (by omega) ⟨by omega, by simp [s2], by simp [s3], by simp [s10], by simp, t, by simp, .inr hfr, by simpa [hcmp] using hd⟩
          · skip
            repeat' (first | (with_reducible first | refine stp ?_ | refine k_blk_o rfl ?_ | refine k_seq_n ?_) | ((try (conv => arg 1; simp [s2, s3, s10, s11, hlt2])); with_reducible refine evp ?_) | ((with_reducible refine apn ?na ?_); (case na => simp [appNames, ints, intss] <;> first | kernel_rfl | (refine ⟨?_, ?_⟩ <;> kernel_rfl))) | fail)
            repeat (with_reducible first | refine stp ?_ | refine k_seq_n ?_)
            refine st_draw 26 (fun _ => false) (by kernel_rfl) ?_
            simp only [List.take_succ_cons, List.take_zero, List.drop_succ_cons, List.drop_zero, List.take_nil, List.drop_nil]
            repeat' (first | (with_reducible first | refine stp ?_ | refine k_blk_o rfl ?_ | refine k_seq_n ?_) | ((try (conv => arg 1; simp [s2, s3, s9, s10, s11, ints, bools, hti, htt, hlt', hlc, hc0, hcmp, hw])); with_reducible refine evp ?_) | ((with_reducible refine apn ?na ?_); (case na => simp [appNames, ints, intss] <;> first | kernel_rfl | (refine ⟨?_, ?_⟩ <;> kernel_rfl))) | fail)
            refine k_lp_n (i + 1) (by omega) ⟨by omega, by simp [s2], by simp [s3], by simp [s10], by simp, c, by simp [s9], .inr hb, by simpa [hcmp, hc0] using hd⟩
    · have hlt2 : ¬ (i : Int) < ts.length := by omega
      rw [List.drop_of_length_le (by omega)] at hd
      have hd : b = bst l th ts (-1) := hd
      rw [← hd] at hcn
      by_cases hb0 : b < 0
      · have hb1 : ¬ (0 : Int) ≤ b := by omega
        rw [if_pos hb0] at hcn
        rw [hcn]
        repeat' (first | (with_reducible first | refine stp ?_ | refine k_blk_o rfl ?_ | refine k_seq_n ?_) | ((try (conv => arg 1; simp [s3, s9, s10, s11, hlt2, hb1])); with_reducible refine evp ?_) | ((with_reducible refine apn ?na ?_); (case na => simp [appNames, ints, intss] <;> first | kernel_rfl | (refine ⟨?_, ?_⟩ <;> kernel_rfl))) | fail)
        refine st_loop (fun (i : Nat) σ h => i ≤ th.length ∧ σ 3 = bools true th ∧ σ 12 = .int .i64 i ∧ ∀ j (hj : j < th.length), j < i → (!th[j]) = false) (fun i => th.length - i) 0 ?init ?step
        case init => exact ⟨Nat.zero_le _, by simp [s3], by simp, fun j hj h => by omega⟩
        case step =>
          rintro i σ h ⟨hi, s3, s12, hf⟩
          by_cases hlt : i < th.length
          · have hlt2 : (i : Int) < th.length := by omega
            have hx : th[i]? = some th[i] := by simp
            have hw : IntKind.i64.wrap (i + 1) = i + 1 := wrap_id (by omega) (by omega)
            cases hv : th[i] with
            | false =>
              rw [hv] at hx
              repeat' (first | (with_reducible first | refine stp ?_ | refine k_blk_o rfl ?_ | refine k_seq_n ?_) | ((try (conv => arg 1; simp [s3, s12, hlt2, hx, bools])); with_reducible refine evp ?_) | ((with_reducible refine apn ?na ?_); (case na => simp [appNames, ints, intss] <;> first | kernel_rfl | (refine ⟨?_, ?_⟩ <;> kernel_rfl))) | fail)
              exact dr_int (idxOf_hit (p := fun x => !x) hlt hf (by simp [hv])).symm
            | true =>
              rw [hv] at hx
              repeat' (first | (with_reducible first | refine stp ?_ | refine k_blk_o rfl ?_ | refine k_seq_n ?_) | ((try (conv => arg 1; simp [s3, s12, hlt2, hx, hw, bools])); with_reducible refine evp ?_) | ((with_reducible refine apn ?na ?_); (case na => simp [appNames, ints, intss] <;> first | kernel_rfl | (refine ⟨?_, ?_⟩ <;> kernel_rfl))) | fail)
              refine k_lp_n (i + 1) (by omega) ⟨by omega, by simp [s3], by simp, fun j hj hji => ?_⟩
              by_cases e : j = i
              · subst e; simp [hv]
              · exact hf j hj (by omega)
          · have hlt2 : ¬ (i : Int) < th.length := by omega
            repeat' (first | (with_reducible first | refine stp ?_ | refine k_blk_o rfl ?_ | refine k_seq_n ?_) | ((try (conv => arg 1; simp [s3, s12, hlt2])); with_reducible refine evp ?_) | ((with_reducible refine apn ?na ?_); (case na => simp [appNames, ints, intss] <;> first | kernel_rfl | (refine ⟨?_, ?_⟩ <;> kernel_rfl))) | fail)
            exact dr_int (idxOf_miss (p := fun x => !x) fun j hj => hf j hj (by omega)).symm
      · have hb1 : (0 : Int) ≤ b := by omega
        rw [if_neg hb0] at hcn
        rw [hcn]
        repeat' (first | (with_reducible first | refine stp ?_ | refine k_blk_o rfl ?_ | refine k_seq_n ?_) | ((try (conv => arg 1; simp [s3, s9, s10, s11, hlt2, hb1])); with_reducible refine evp ?_) | ((with_reducible refine apn ?na ?_); (case na => simp [appNames, ints, intss] <;> first | kernel_rfl | (refine ⟨?_, ?_⟩ <;> kernel_rfl))) | fail)
        exact .int _ _
end Go.Proofs.YtlmlkkkgcbpaoaaGreat.AM

namespace Go.Proofs.YtlmlkkkgcbpaoaaGreat.AM
open Go.RowKit

private def MG19 : FuncId → Mode := fun f => .tree

theorem dr_bools_sl' {c : Bool} {rows : Nm → Option Row} {n : Nm} {ver len : Nat} {l : List Bool} (hl : l.length = len) (h : rows n = some ⟨ver, 1, l.map fun x => [.bool x]⟩) : DR c rows (.sl n ver 0 len) (bools c l) := by
  subst hl
  exact dr_bools_sl h
theorem chAt_succ {g : Graph} {l : List Int} {k : Nat} : chAt g l (k + 1) = chNext g l (ch g l (k + 1)).2 (chAt g l k) := by
  unfold chAt
  rw [if_neg (by omega)]
  congr 1
  rw [ch_succ]
  simp [chAt]
theorem Cx.close_own {h : Hp} {bs : Bx} {os : Ox} {k : Nm} {ver : Nat} {xs : List Int} (x : Cx h ((k, ⟨ver, 1, cl1 xs⟩) :: bs) os) : Cx h bs ((.sl k ver 0 xs.length, (fun b => ints b xs), [k]) :: os) := by
  exact Cx.close_ints (pre := []) (sp := []) (by simpa [ir] using x) ⟨by simp, by simp, fun i e j x he => by simp at he, fun i e j x he => by simp at he⟩

set_option maxHeartbeats 4000000 in
theorem specChain (g : Graph) (d : g.Small) (l : List Int) (hl : l.length ≤ 2 ^ 20) : FreshW Tryz.prog 23 [.agg (g.cells true), ints true l] (fun b => ints b (chainR g l)) := by
  intro T
  have hln := d.len
  have G := graphOkSpec g d.fit
  refine enter mixed MG19 Tryz.func23 rfl (by kernel_rfl) rfl ?_
  repeat' (first | (with_reducible first | refine stp ?_ | refine k_blk_o rfl ?_) | ((try (conv => arg 1; simp [Graph.cells])); with_reducible refine evp ?_) | fail)
  refine cx_k (Cx.mt.next.box_one (T := T) (i := 0) Cx.mt.off (by simp)) ?_
  intro h1 x1
  have b1 := x1.bxs
  simp only [Bxs] at b1
  repeat' (first | (with_reducible first | refine stp ?_ | refine k_blk_o rfl ?_) | ((try (conv => arg 1; simp [b1])); with_reducible refine evp ?_) | fail)
  refine cx_k (x1.next.box_one (T := h1.tick) (i := 0) (r := ⟨0, 1, []⟩) x1.off (by simp)) ?_
  intro h2 x2
  have b2 := x2.bxs
  simp only [Bxs] at b2
  have x2' := x2
  by_cases hc : graphOk g = true ∧ l.length = g.Blocks.length
  · obtain ⟨hk, hlb⟩ := hc
    have hlb2 : (l.length : Int) = g.Blocks.length := by omega
    have hsm : (g.Blocks.length : Int) ≤ 4294967296 := by omega
    have hr : chainR g l = (ch g l g.Blocks.length).1 := by simp [chainR, hk, hlb]
    rw [hr]
    rw [hk] at G
    repeat' (first | (with_reducible first | refine stp ?_ | refine k_blk_o rfl ?_ | refine k_seq_n ?_) | ((try (conv => arg 1; simp [b2, hlb, hlb2, hsm, ltS, nm_ne])); with_reducible refine evp ?_) | ((with_reducible refine tcl ?_); first | ((apply tg (G)); (case e => rfl); (case d => (refine dq ?_); (repeat' (first | ((refine Da.mk ?_); first | exact dr_blocks (by simp) _ | assumption) | constructor))))) | fail)
    refine st_loop (fun (k : Nat) σ h => k ≤ g.Blocks.length ∧ σ 1 = ints true l ∧ σ 2 = .ptr (T, 0, 0) 0 0 0 ∧ σ 5 = .sl (h1.tick, 0, 0) k 0 k ∧ σ 6 = .sl (h2.tick + 1, 2, 0) 0 0 g.Blocks.length ∧ σ 7 = .int .i64 (chAt g l k) ∧
      Cx h [((h2.tick + 1, 2, 0), ⟨0, 1, (ch g l k).2.map fun x => [.bool x]⟩), ((h1.tick, 0, 0), ⟨k, 1, cl1 (ch g l k).1⟩), ((T, 0, 0), graphRow g)] []) (fun k => g.Blocks.length + 1 - k) 0 ?init ?step
    case init =>
      have x3 := x2.next.next.box_one (T := h2.tick + 1) (i := 2) (r := ⟨0, 1, List.replicate g.Blocks.length [.bool false]⟩) x2.next.off (by simp)
      have e0 : (ch g l 0).2.map (fun x => [AV.bool x]) = List.replicate g.Blocks.length [.bool false] := by simp [ch]
      refine ⟨Nat.zero_le _, by simp, by simp, by simp, by simp, by simp [chAt], ?_⟩
      rw [e0]
      exact Cx.to x3
    case step =>
      rintro k σ h ⟨hkn, s1, s2, s5, s6, s7, x⟩
      have b := x.bxs
      simp only [Bxs, graphRow] at b
      obtain ⟨C, F, E⟩ := ch_ok hk l k hkn
      have hw : IntKind.i64.wrap (k + 1) = k + 1 := wrap_id (by omega) (by omega)
      by_cases hlt : k < g.Blocks.length
      · obtain ⟨f1, f2, f3⟩ := F hlt
        obtain ⟨C', F', E'⟩ := ch_ok hk l (k + 1) (by omega)
        have hs := chAt_succ (g := g) (l := l) (k := k)
        have hcs := ch_succ g l k
        obtain ⟨a, ha⟩ : ∃ a : Nat, chAt g l k = (a : Int) := ⟨(chAt g l k).toNat, by omega⟩
        rw [ha] at s7 hs hcs f2
        have hal : a < g.Blocks.length := by omega
        have htl := C.tlen
        have hel : ((ch g l k).2.map fun x => [AV.bool x])[a]? = some [.bool ((ch g l k).2[a]'(by omega))] := by simp [htl, hal]
        have B := l16Best g hk d l hlb (ch g l (k + 1)).2 C'.tlen a hal
        have hlen := C.len
        have hT : ¬ h1.tick = h2.tick + 1 := by omega
        have e1 : ((ch g l k).2.map fun x => [AV.bool x]).set a [.bool true] = (ch g l (k + 1)).2.map fun x => [.bool x] := by rw [hcs]; simp [List.map_set]
        have e2 : cl1 (ch g l k).1 ++ [[AV.int .i64 a]] = cl1 (ch g l (k + 1)).1 := by rw [hcs]; simp [cl1]
        repeat' (first | (with_reducible first | refine stp ?_ | refine k_blk_o rfl ?_ | refine k_seq_n ?_) | ((try (conv => arg 1; simp [s1, s2, s5, s6, s7, b, hal, hel, htl, e1, hT, ltS, nm_ne])); with_reducible refine evp ?_) | fail)
        conv => arg 1; simp [s5]
        rw [appendA_snoc (s := 1) (l := cl1 (ch g l k).1) (e := [.int .i64 a]) (by kernel_rfl) ?hr (by simp [cl1, hlen]) ?hk rfl (by omega) ?hm]
        case hr => simp [b, hT]
        case hk => simp
        case hm => simp; omega
        refine ev2_some ?_
        rw [e2]
        have hT2 : ¬ T = h2.tick + 1 := by omega
        have hT3 : ¬ T = h1.tick := by omega
        have hT4 : ¬ h2.tick + 1 = h1.tick := by omega
        have hT5 : ¬ h2.tick = h.tick + 1 := by omega
        rw [← hs] at B
        repeat' (first | (with_reducible first | refine stp ?_ | refine k_blk_o rfl ?_ | refine k_seq_n ?_) | ((try (conv => arg 1; simp [s1, s2, s5, s6, s7, b, hT, hT2, hT3, hT4, ltS, nm_ne])); with_reducible refine evp ?_) | ((with_reducible refine tcl ?_); first | ((apply tg (B)); (case e => rfl); (case d => (refine dq ?_); (repeat' (first | ((refine Da.mk ?_); first | exact dr_blocks (by simp) _ | exact dr_bools_sl' C'.tlen (by simp [hT, hT4, hT5]) | assumption) | constructor))))) | fail)
        refine k_lp_n (k + 1) (by omega) ⟨by omega, by simp [s1], by simp [s2], by simp, by simp [s6], by simp, Cx.to x⟩
      · have hke : k = g.Blocks.length := by omega
        have hat := E (by have := (headOk_head (by simp only [graphOk, Bool.and_eq_true] at hk; exact hk.1.1)).blocks.1; omega) hke
        rw [hat] at s7
        repeat' (first | (with_reducible first | refine stp ?_ | refine k_blk_o rfl ?_ | refine k_seq_n ?_) | ((try (conv => arg 1; simp [s5, s7])); with_reducible refine evp ?_) | fail)
        have hr2 : (ch g l g.Blocks.length).1 = (ch g l k).1 := by rw [hke]
        rw [hr2]
        have z := Cx.close_own (x.bperm (List.Perm.swap _ _ _))
        rw [C.len] at z
        exact fin_own z.next.next
  · have hr : chainR g l = [] := by simp [chainR]; intro h1 h2; exact absurd ⟨h1, h2⟩ hc
    rw [hr]
    cases hk : graphOk g with
    | false =>
      rw [hk] at G
      repeat' (first | (with_reducible first | refine stp ?_ | refine k_blk_o rfl ?_ | refine k_seq_n ?_) | ((try (conv => arg 1; simp [b2, ltS, nm_ne])); with_reducible refine evp ?_) | ((with_reducible refine tcl ?_); first | ((apply tg (G)); (case e => rfl); (case d => (refine dq ?_); (repeat' (first | ((refine Da.mk ?_); first | exact dr_blocks (by simp) _ | assumption) | constructor))))) | fail)
      exact fin_own (Cx.close_own (xs := []) x2.next.next)
    | true =>
      have hlb : ¬ (l.length : Int) = g.Blocks.length := fun e => hc ⟨hk, by omega⟩
      have hlb2 : ¬ l.length = g.Blocks.length := fun e => hc ⟨hk, e⟩
      rw [hk] at G
      repeat' (first | (with_reducible first | refine stp ?_ | refine k_blk_o rfl ?_ | refine k_seq_n ?_) | ((try (conv => arg 1; simp [b2, hlb, hlb2, ltS, nm_ne])); with_reducible refine evp ?_) | ((with_reducible refine tcl ?_); first | ((apply tg (G)); (case e => rfl); (case d => (refine dq ?_); (repeat' (first | ((refine Da.mk ?_); first | exact dr_blocks (by simp) _ | assumption) | constructor))))) | fail)
      exact fin_own (Cx.close_own (xs := []) x2.next.next)
end Go.Proofs.YtlmlkkkgcbpaoaaGreat.AM

namespace Go.Proofs.YtlmlkkkgcbpaoaaGreat.AM
open Go.RowKit

private def MG20 : FuncId → Mode := fun f => .tree

theorem dr_ints_sl' {c : Bool} {rows : Nm → Option Row} {n : Nm} {ver len : Nat} {l : List Int} (hl : l.length = len) (h : rows n = some ⟨ver, 1, cl1 l⟩) : DR c rows (.sl n ver 0 len) (ints c l) := by
  subst hl
  exact dr_ints_sl h
theorem nextL_len (b : Block) : (nextL b).length ≤ 2 := by
  unfold nextL
  split
  · simp
  · split <;> simp

theorem first_free {th : List Bool} {t : Int} {n : Nat} (hn : th.length = n) (hf : Free n th t) : ∃ q : Nat, idxOf (fun x => !x) th = (q : Int) ∧ ∃ hq : q < th.length, th[q] = false ∧ ∀ j (hj : j < th.length), j < q → th[j] = true := by
  obtain ⟨f1, f2, f3⟩ := hf
  have hlt : t.toNat < th.length := by omega
  have hff : th[t.toNat] = false := by simpa [hlt] using f3
  have ha : th.any (fun x => !x) = true := List.any_eq_true.2 ⟨_, List.getElem_mem hlt, by simp [hff]⟩
  have hq : (th.findIdx fun x => !x) < th.length := List.findIdx_lt_length.2 (List.any_eq_true.1 ha)
  refine ⟨th.findIdx fun x => !x, by simp [idxOf, ha], hq, ?_, fun j hj hlt => ?_⟩
  · have := List.findIdx_getElem (w := hq)
    simpa using this
  · have := List.not_of_lt_findIdx hlt
    simpa using this

set_option maxHeartbeats 8000000 in
theorem implchain (g : Graph) (d : g.Small) (hk : graphOk g = true) (l : List Int) (hlb : l.length = g.Blocks.length) : FreshW Tryz.prog 29 [.agg (g.cells true), ints true l] (fun b => ints b (ch g l g.Blocks.length).1) := by
  intro T
  have hln := d.len
  have hnb : 1 ≤ g.Blocks.length := (headOk_head (by simp only [graphOk, Bool.and_eq_true] at hk; exact hk.1.1)).blocks.1
  refine enter mixed MG20 Tryz.func29 rfl (by kernel_rfl) rfl ?_
  repeat' (first | (with_reducible first | refine stp ?_ | refine k_blk_o rfl ?_) | ((try (conv => arg 1; simp [Graph.cells])); with_reducible refine evp ?_) | fail)
  refine cx_k (Cx.mt.next.box_one (T := T) (i := 0) Cx.mt.off (by simp)) ?_
  intro h1 x1
  have b1 := x1.bxs
  simp only [Bxs] at b1
  repeat' (first | (with_reducible first | refine stp ?_ | refine k_blk_o rfl ?_) | ((try (conv => arg 1; simp [b1, rgo])); with_reducible refine evp ?_) | fail)
  refine cx_k (x1.next.box_one (T := h1.tick) (i := 0) (r := ⟨0, 1, [[.int .i64 0]]⟩) x1.off (by simp)) ?_
  intro h2 x2
  have b2 := x2.bxs
  simp only [Bxs] at b2
  repeat' (first | (with_reducible first | refine stp ?_ | refine k_blk_o rfl ?_ | refine k_seq_n ?_) | ((try (conv => arg 1; simp [b2, ltS, nm_ne])); with_reducible refine evp ?_) | fail)
  refine st_loop (fun (k : Nat) σ h => 1 ≤ k ∧ k ≤ g.Blocks.length ∧ σ 1 = ints true l ∧ σ 2 = .ptr (T, 0, 0) 0 0 0 ∧ σ 5 = .sl (h1.tick, 0, 0) (k - 1) 0 k ∧
    Cx h [((h1.tick, 0, 0), ⟨k - 1, 1, cl1 (ch g l k).1⟩), ((T, 0, 0), graphRow g)] []) (fun k => g.Blocks.length - k) 1 ?init ?step
  case init =>
    have e0 : cl1 (ch g l 1).1 = [[AV.int .i64 0]] := by simp [ch, cl1]
    refine ⟨Nat.le_refl _, hnb, by simp, by simp, by simp, ?_⟩
    rw [e0]
    exact Cx.to x2
  case step =>
    rintro k σ h ⟨hk1, hkn, s1, s2, s5, x⟩
    have b := x.bxs
    simp only [Bxs, graphRow] at b
    obtain ⟨C, F, E⟩ := ch_ok hk l k hkn
    have hw : IntKind.i64.wrap (k - 1) = ((k - 1 : Nat) : Int) := by rw [wrap_id (by omega) (by omega)]; omega
    have hk0 : 0 < k := hk1
    have hkk : k - 1 < k := by omega
    have hT1 : ¬ T = h.tick + 1 + 1 := by have := b.2.2.2.1; omega
    have hT2 : ¬ h1.tick = h.tick + 1 + 1 := by have := b.2.1; omega
    by_cases hlt : k < g.Blocks.length
    · obtain ⟨f1, f2, f3⟩ := F hlt
      obtain ⟨a, ha⟩ : ∃ a : Nat, (ch g l k).1.getLastD 0 = (a : Int) ∧ a < g.Blocks.length := by
        have hne : (ch g l k).1 ≠ [] := fun e => by have := C.len; rw [e] at this; simp at this; omega
        have hm := C.mem _ (show (ch g l k).1.getLastD 0 ∈ (ch g l k).1 by
          rw [List.getLastD_eq_getLast?, List.getLast?_eq_some_getLast hne]
          exact List.getLast_mem hne)
        exact ⟨((ch g l k).1.getLastD 0).toNat, by omega, by omega⟩
      obtain ⟨ha, hal⟩ := ha
      have hlen := C.len
      have hal2 : (cl1 (ch g l k).1)[k - 1]? = some [.int .i64 a] := by
        rw [← ha]
        simp only [cl1, List.getElem?_map]
        rw [List.getLastD_eq_getLast?, List.getLast?_eq_getElem?, hlen]
        have : k - 1 < (ch g l k).1.length := by omega
        simp [this]
      have hblk : g.Blocks[a]? = some g.Blocks[a] := by simp
      have hblen := block_len true g.Blocks[a]
      have N := nextOf g.Blocks[a]
      have hx := next_ok hk hal
      have hn2 := nextL_len g.Blocks[a]
      have hat : chAt g l k = if bst l (ch g l k).2 (nextL g.Blocks[a]) (-1) < 0 then idxOf (fun x => !x) (ch g l k).2 else bst l (ch g l k).2 (nextL g.Blocks[a]) (-1) := by
        unfold chAt chNext
        rw [if_neg (by omega), ha, Int.toNat_natCast, show g.Blocks.getD a ⟨[], 0, 0, 0, 0⟩ = g.Blocks[a] by simp [hal]]
      repeat' (first | (with_reducible first | refine stp ?_ | refine k_blk_o rfl ?_ | refine k_seq_n ?_) | ((try (conv => arg 1; simp [s1, s2, s5, b, hlt])); with_reducible refine evp ?_) | fail)
      repeat (with_reducible first | refine stp ?_ | refine k_seq_n ?_)
      refine st_draw 13 (fun _ => false) (by kernel_rfl) ?_
      simp only [List.take_succ_cons, List.take_zero, List.drop_succ_cons, List.drop_zero, List.take_nil, List.drop_nil]
      repeat' (first | (with_reducible first | refine stp ?_ | refine k_blk_o rfl ?_ | refine k_seq_n ?_) | ((try (conv => arg 1; simp [s1, s2, s5, b, maskR, hT1, hT2, hk0, hkk, hlt, hw, hal2, blocks, hblk, hblen, Block.cells, ltS, nm_ne])); with_reducible refine evp ?_) | ((with_reducible refine apn ?na ?_); (case na => simp [appNames, ints, intss] <;> first | kernel_rfl | (refine ⟨?_, ?_⟩ <;> kernel_rfl))) | ((with_reducible refine tcl ?_); first | ((apply tg (N)); (case e => rfl); (case d => (refine dq ?_); (repeat' (first | ((refine Da.mk ?_); first | exact dr_instrs (by simp) _ | assumption) | constructor))))) | fail)
      have hlt0 := hlt
      have f4 : Free g.Blocks.length (ch g l k).2 (chAt g l k) := ⟨f1, f2, f3⟩
      obtain ⟨q, hiq, hq, hqf, hqt⟩ := first_free C.tlen f4
      have tlen := C.tlen
      have K : ∀ j : Nat, (hj : j < g.Blocks.length) → Pure Tryz.prog 59 [ints true (ch g l k).1, .int .i64 j] (.bool ((ch g l k).2[j]'(by omega))) := fun j hj => by
        have := containsI (ch g l k).1 j (by omega)
        rw [← C.rel j hj, show (ch g l k).2.getD j true = (ch g l k).2[j]'(by omega) by simp [tlen, hj]] at this
        exact this
      generalize hN : nextL g.Blocks[a] = ts at *
      refine st_loop (fun (i : Nat) σ h => i ≤ ts.length ∧ σ 1 = ints true l ∧ σ 2 = .ptr (T, 0, 0) 0 0 0 ∧ σ 5 = .sl (h1.tick, 0, 0) (k - 1) 0 k ∧ σ 27 = ints false ts ∧ σ 28 = .int .i64 ts.length ∧ σ 29 = .int .i64 i ∧
        Cx h [((h1.tick, 0, 0), ⟨k - 1, 1, cl1 (ch g l k).1⟩), ((T, 0, 0), graphRow g)] [] ∧ ∃ b, σ 6 = .int .i64 b ∧ (b = -1 ∨ Free g.Blocks.length (ch g l k).2 b) ∧ bst l (ch g l k).2 (ts.drop i) b = bst l (ch g l k).2 ts (-1)) (fun i => ts.length - i) 0 ?init ?step
      case init => exact ⟨Nat.zero_le _, by simp [s1], by simp [s2], by simp [s5], by simp, by simp, by simp, Cx.to x, -1, by simp, .inl rfl, rfl⟩
      case step =>
        rintro i σ h ⟨hi, s1, s2, s5, s27, s28, s29, x, bb, s6, hbb, hd⟩
        have b := x.bxs
        simp only [Bxs, graphRow] at b
        have hT2 : ¬ h1.tick = h.tick + 1 + 1 := by have := b.2.1; omega
        by_cases hlt : i < ts.length
        · have hlt2 : (i : Int) < ts.length := by omega
          have hti : ts[i]? = some ts[i] := by simp
          have hw : IntKind.i64.wrap (i + 1) = i + 1 := wrap_id (by omega) (by omega)
          obtain ⟨t, et⟩ : ∃ t : Nat, ts[i] = (t : Int) := ⟨ts[i].toNat, by have := hx _ (List.getElem_mem hlt); omega⟩
          have htl : t < g.Blocks.length := by have := hx _ (List.getElem_mem hlt); omega
          have hlt' : l[t]? = some l[t] := by simp [hlb, htl]
          rw [bst_drop hlt, et, Int.toNat_natCast] at hd
          rw [show (ch g l k).2.getD t true = (ch g l k).2[t]'(by omega) by simp [tlen, htl]] at hd
          rw [et] at hti
          have Kt := K t htl
          cases hv : (ch g l k).2[t]'(by omega) with
          | true =>
            rw [hv] at hd Kt
            repeat' (first | (with_reducible first | refine stp ?_ | refine k_blk_o rfl ?_ | refine k_seq_n ?_) | ((try (conv => arg 1; simp [s1, s2, s5, s27, s28, s29, ints, hti, hlt2])); with_reducible refine evp ?_) | ((with_reducible refine apn ?na ?_); (case na => simp [appNames, ints, intss] <;> first | kernel_rfl | (refine ⟨?_, ?_⟩ <;> kernel_rfl))) | fail)
            repeat (with_reducible first | refine stp ?_ | refine k_seq_n ?_)
            refine st_draw 19 (fun _ => false) (by kernel_rfl) ?_
            simp only [List.take_succ_cons, List.take_zero, List.drop_succ_cons, List.drop_zero, List.take_nil, List.drop_nil]
            repeat' (first | (with_reducible first | refine stp ?_ | refine k_blk_o rfl ?_ | refine k_seq_n ?_) | ((try (conv => arg 1; simp [s1, s2, s5, s6, s27, s29, ints, hti, hw])); with_reducible refine evp ?_) | ((with_reducible refine apn ?na ?_); (case na => simp [appNames, ints, intss] <;> first | kernel_rfl | (refine ⟨?_, ?_⟩ <;> kernel_rfl))) | ((with_reducible refine tcl ?_); first | ((apply tg (Kt)); (case e => rfl); (case d => (refine dq ?_); (repeat' (first | ((refine Da.mk ?_); first | exact dr_ints_sl' C.len (by simp [maskR, b, hT2]) | assumption) | constructor))))) | fail)
            refine k_lp_n (i + 1) (by omega) ⟨by omega, by simp [s1], by simp [s2], by simp [s5], by simp [s27], by simp [s28], by simp, Cx.to x, bb, by simp [s6], hbb, by simpa using hd⟩
          | false =>
            rw [hv] at hd Kt
            have hfr : Free g.Blocks.length (ch g l k).2 (t : Int) := ⟨by omega, by omega, by simp [tlen, htl, hv]⟩
            rcases hbb with rfl | hbb
            · skip
              repeat' (first | (with_reducible first | refine stp ?_ | refine k_blk_o rfl ?_ | refine k_seq_n ?_) | ((try (conv => arg 1; simp [s1, s2, s5, s27, s28, s29, ints, hti, hlt2])); with_reducible refine evp ?_) | ((with_reducible refine apn ?na ?_); (case na => simp [appNames, ints, intss] <;> first | kernel_rfl | (refine ⟨?_, ?_⟩ <;> kernel_rfl))) | fail)
              repeat (with_reducible first | refine stp ?_ | refine k_seq_n ?_)
              refine st_draw 19 (fun _ => false) (by kernel_rfl) ?_
              simp only [List.take_succ_cons, List.take_zero, List.drop_succ_cons, List.drop_zero, List.take_nil, List.drop_nil]
              repeat' (first | (with_reducible first | refine stp ?_ | refine k_blk_o rfl ?_ | refine k_seq_n ?_) | ((try (conv => arg 1; simp [s1, s2, s5, s6, s27, s29, ints, hti, hw])); with_reducible refine evp ?_) | ((with_reducible refine apn ?na ?_); (case na => simp [appNames, ints, intss] <;> first | kernel_rfl | (refine ⟨?_, ?_⟩ <;> kernel_rfl))) | ((with_reducible refine tcl ?_); first | ((apply tg (Kt)); (case e => rfl); (case d => (refine dq ?_); (repeat' (first | ((refine Da.mk ?_); first | exact dr_ints_sl' C.len (by simp [maskR, b, hT2]) | assumption) | constructor))))) | fail)
              refine k_lp_n (i + 1) (by omega) ⟨by omega, by simp [s1], by simp [s2], by simp [s5], by simp [s27], by simp [s28], by simp, Cx.to x, t, by simp, .inr hfr, by simpa using hd⟩
            · obtain ⟨c, rfl⟩ : ∃ c : Nat, bb = (c : Int) := ⟨bb.toNat, by have := hbb.1; omega⟩
              have hcl : c < g.Blocks.length := by have := hbb.2.1; omega
              have hlc : l[c]? = some (l[c]'(by omega)) := by simp [hlb, hcl]
              have hc0 : ¬ (c : Int) < 0 := by omega
              rw [rdI_at (l := l) (i := c) (by omega), rdI_at (l := l) (i := t) (by omega)] at hd
              by_cases hcmp : l[c]'(by omega) < l[t]'(by omega)
              · skip
                repeat' (first | (with_reducible first | refine stp ?_ | refine k_blk_o rfl ?_ | refine k_seq_n ?_) | ((try (conv => arg 1; simp [s1, s2, s5, s27, s28, s29, ints, hti, hlt2])); with_reducible refine evp ?_) | ((with_reducible refine apn ?na ?_); (case na => simp [appNames, ints, intss] <;> first | kernel_rfl | (refine ⟨?_, ?_⟩ <;> kernel_rfl))) | fail)
                repeat (with_reducible first | refine stp ?_ | refine k_seq_n ?_)
                refine st_draw 19 (fun _ => false) (by kernel_rfl) ?_
                simp only [List.take_succ_cons, List.take_zero, List.drop_succ_cons, List.drop_zero, List.take_nil, List.drop_nil]
                repeat' (first | (with_reducible first | refine stp ?_ | refine k_blk_o rfl ?_ | refine k_seq_n ?_) | ((try (conv => arg 1; simp [s1, s2, s5, s6, s27, s29, ints, hti, hw, hlt', hlc, hc0, hcmp])); with_reducible refine evp ?_) | ((with_reducible refine apn ?na ?_); (case na => simp [appNames, ints, intss] <;> first | kernel_rfl | (refine ⟨?_, ?_⟩ <;> kernel_rfl))) | ((with_reducible refine tcl ?_); first | ((apply tg (Kt)); (case e => rfl); (case d => (refine dq ?_); (repeat' (first | ((refine Da.mk ?_); first | exact dr_ints_sl' C.len (by simp [maskR, b, hT2]) | assumption) | constructor))))) | fail)
                refine k_lp_n (i + 1) (by omega) ⟨by omega, by simp [s1], by simp [s2], by simp [s5], by simp [s27], by simp [s28], by simp, Cx.to x, t, by simp, .inr hfr, by simpa [hcmp] using hd⟩
              · skip
                repeat' (first | (with_reducible first | refine stp ?_ | refine k_blk_o rfl ?_ | refine k_seq_n ?_) | ((try (conv => arg 1; simp [s1, s2, s5, s27, s28, s29, ints, hti, hlt2])); with_reducible refine evp ?_) | ((with_reducible refine apn ?na ?_); (case na => simp [appNames, ints, intss] <;> first | kernel_rfl | (refine ⟨?_, ?_⟩ <;> kernel_rfl))) | fail)
                repeat (with_reducible first | refine stp ?_ | refine k_seq_n ?_)
                refine st_draw 19 (fun _ => false) (by kernel_rfl) ?_
                simp only [List.take_succ_cons, List.take_zero, List.drop_succ_cons, List.drop_zero, List.take_nil, List.drop_nil]
                repeat' (first | (with_reducible first | refine stp ?_ | refine k_blk_o rfl ?_ | refine k_seq_n ?_) | ((try (conv => arg 1; simp [s1, s2, s5, s6, s27, s29, ints, hti, hw, hlt', hlc, hc0, hcmp])); with_reducible refine evp ?_) | ((with_reducible refine apn ?na ?_); (case na => simp [appNames, ints, intss] <;> first | kernel_rfl | (refine ⟨?_, ?_⟩ <;> kernel_rfl))) | ((with_reducible refine tcl ?_); first | ((apply tg (Kt)); (case e => rfl); (case d => (refine dq ?_); (repeat' (first | ((refine Da.mk ?_); first | exact dr_ints_sl' C.len (by simp [maskR, b, hT2]) | assumption) | constructor))))) | fail)
                refine k_lp_n (i + 1) (by omega) ⟨by omega, by simp [s1], by simp [s2], by simp [s5], by simp [s27], by simp [s28], by simp, Cx.to x, c, by simp [s6], .inr hbb, by simpa [hcmp, hc0] using hd⟩
        · have hlt2 : ¬ (i : Int) < ts.length := by omega
          rw [List.drop_of_length_le (by omega)] at hd
          have hd : bb = bst l (ch g l k).2 ts (-1) := hd
          rw [← hd] at hat
          repeat' (first | (with_reducible first | refine stp ?_ | refine k_blk_o rfl ?_ | refine k_seq_n ?_) | ((try (conv => arg 1; simp [s28, s29, hlt2])); with_reducible refine evp ?_) | ((with_reducible refine apn ?na ?_); (case na => simp [appNames, ints, intss] <;> first | kernel_rfl | (refine ⟨?_, ?_⟩ <;> kernel_rfl))) | fail)
          refine st_loop (fun (i : Nat) σ h => σ 1 = ints true l ∧ σ 2 = .ptr (T, 0, 0) 0 0 0 ∧ σ 5 = .sl (h1.tick, 0, 0) (k - 1) 0 k ∧ σ 9 = .int .i64 i ∧
            Cx h [((h1.tick, 0, 0), ⟨k - 1, 1, cl1 (ch g l k).1⟩), ((T, 0, 0), graphRow g)] [] ∧ ∃ c, σ 6 = .int .i64 c ∧ ((c = -1 ∧ bb = -1 ∧ i ≤ q) ∨ c = chAt g l k)) (fun i => q + 1 - i) 0 ?init ?step
          case init => 
            refine ⟨by simp [s1], by simp [s2], by simp [s5], by simp, Cx.to x, bb, by simp [s6], ?_⟩
            rcases hbb with h | h
            · exact .inl ⟨h, h, Nat.zero_le _⟩
            · right
              rw [if_neg (by have := h.1; omega)] at hat
              exact hat.symm
          case step =>
            rintro i σ h ⟨s1, s2, s5, s9, x, c, s6, hc⟩
            have b := x.bxs
            simp only [Bxs, graphRow] at b
            rcases hc with ⟨rfl, hb1, hiq2⟩ | rfl
            · have hil : i < g.Blocks.length := by omega
              have Ki := K i hil
              have hw : IntKind.i64.wrap (i + 1) = i + 1 := wrap_id (by omega) (by omega)
              by_cases e : i = q
              · subst e
                rw [hqf] at Ki
                rw [if_pos (by omega), hiq] at hat
                repeat' (first | (with_reducible first | refine stp ?_ | refine k_blk_o rfl ?_ | refine k_seq_n ?_) | ((try (conv => arg 1; simp [s5, s6, s9, hw])); with_reducible refine evp ?_) | ((with_reducible refine apn ?na ?_); (case na => simp [appNames, ints, intss] <;> first | kernel_rfl | (refine ⟨?_, ?_⟩ <;> kernel_rfl))) | ((with_reducible refine tcl ?_); first | ((apply tg (Ki)); (case e => rfl); (case d => (refine dq ?_); (repeat' (first | ((refine Da.mk ?_); first | exact dr_ints_sl' C.len (by simp [b]) | assumption) | constructor))))) | fail)
                refine k_lp_n (i + 1) (by omega) ⟨by simp [s1], by simp [s2], by simp [s5], by simp, Cx.to x, i, by simp, .inr hat.symm⟩
              · rw [hqt i (by omega) (by omega)] at Ki
                repeat' (first | (with_reducible first | refine stp ?_ | refine k_blk_o rfl ?_ | refine k_seq_n ?_) | ((try (conv => arg 1; simp [s5, s6, s9, hw])); with_reducible refine evp ?_) | ((with_reducible refine apn ?na ?_); (case na => simp [appNames, ints, intss] <;> first | kernel_rfl | (refine ⟨?_, ?_⟩ <;> kernel_rfl))) | ((with_reducible refine tcl ?_); first | ((apply tg (Ki)); (case e => rfl); (case d => (refine dq ?_); (repeat' (first | ((refine Da.mk ?_); first | exact dr_ints_sl' C.len (by simp [b]) | assumption) | constructor))))) | fail)
                refine k_lp_n (i + 1) (by omega) ⟨by simp [s1], by simp [s2], by simp [s5], by simp, Cx.to x, -1, by simp [s6], .inl ⟨rfl, hb1, by omega⟩⟩
            · obtain ⟨z, hz⟩ : ∃ z : Nat, chAt g l k = (z : Int) := ⟨(chAt g l k).toNat, by omega⟩
              rw [hz] at s6
              have hcs := ch_succ g l k
              rw [hz] at hcs
              have e2 : cl1 (ch g l k).1 ++ [[AV.int .i64 z]] = cl1 (ch g l (k + 1)).1 := by rw [hcs]; simp [cl1]
              have hz0 : ¬ (z : Int) < 0 := by omega
              have hlen := C.len
              have hT : ¬ h1.tick = h.tick + 1 := by have := b.2.1; omega
              repeat' (first | (with_reducible first | refine stp ?_ | refine k_blk_o rfl ?_ | refine k_seq_n ?_) | ((try (conv => arg 1; simp [s5, s6, b, hz0, rgo, hT, ltS, nm_ne])); with_reducible refine evp ?_) | ((with_reducible refine apn ?na ?_); (case na => simp [appNames, ints, intss] <;> first | kernel_rfl | (refine ⟨?_, ?_⟩ <;> kernel_rfl))) | fail)
              conv => arg 1; simp [s5]
              rw [appendA_snoc (s := 1) (l := cl1 (ch g l k).1) (e := [.int .i64 z]) (by kernel_rfl) ?hr (by simp [cl1, hlen]) ?hk rfl (by omega) ?hm]
              case hr => simp [b, hT]
              case hk => simp
              case hm => simp; omega
              refine ev2_some ?_
              rw [e2]
              have hkk1 : k - 1 + 1 = k := by omega
              repeat' (first | (with_reducible first | refine stp ?_ | refine k_blk_o rfl ?_ | refine k_seq_n ?_) | ((try (conv => arg 1; simp [s5, s6, hkk1])); with_reducible refine evp ?_) | ((with_reducible refine apn ?na ?_); (case na => simp [appNames, ints, intss] <;> first | kernel_rfl | (refine ⟨?_, ?_⟩ <;> kernel_rfl))) | fail)
              refine k_lp_n (k + 1) (by omega) ⟨by omega, by omega, by simp [s1], by simp [s2], by simp, by rw [show k + 1 - 1 = k - 1 + 1 by omega]; exact Cx.to x⟩
    · have hke : k = g.Blocks.length := by omega
      have hr2 : (ch g l g.Blocks.length).1 = (ch g l k).1 := by rw [hke]
      rw [hr2]
      repeat' (first | (with_reducible first | refine stp ?_ | refine k_blk_o rfl ?_ | refine k_seq_n ?_) | ((try (conv => arg 1; simp [s1, s2, s5, b, hlt])); with_reducible refine evp ?_) | ((with_reducible refine apn ?na ?_); (case na => simp [appNames, ints, intss] <;> first | kernel_rfl | (refine ⟨?_, ?_⟩ <;> kernel_rfl))) | fail)
      have z := Cx.close_own x
      rw [C.len] at z
      exact fin_own z.next.next
end Go.Proofs.YtlmlkkkgcbpaoaaGreat.AM

namespace Go.Proofs.YtlmlkkkgcbpaoaaGreat.AM
open Go.RowKit

private def MG21 : FuncId → Mode := fun f => if f = 29 then .fresh else .tree

end Go.Proofs.YtlmlkkkgcbpaoaaGreat.AM

namespace Go.Proofs.YtlmlkkkgcbpaoaaGreat.AM
theorem chainR_len (g : Graph) (d : g.Small) (l : List Int) : (chainR g l).length ≤ 2 ^ 20 := by
  have hln := d.len
  unfold chainR
  split
  · rename_i h
    rw [(ch_ok h.1 l _ (Nat.le_refl _)).1.len]
    omega
  · simp
end Go.Proofs.YtlmlkkkgcbpaoaaGreat.AM

namespace Go.Proofs.YtlmlkkkgcbpaoaaGreat.AM
open Go.RowKit

private def MG23 : FuncId → Mode := fun f => .tree

theorem srcElems_instrs (rows : Nm → Option Row) (b : Bool) (xs : List Instr) : srcElems rows (instrs b xs) = some (xs.map Instr.cells) := rfl
theorem appendA_mt_instrs {P : Program} {t : TypeId} {m n : Nm} {v : Nat} {h : Hp} (b : Bool) (xs : List Instr) (h0 : ((telem P t).bind fun e => (tsz P e).bind fun s => (tby P e).bind fun bb => (tzero P e).bind fun z => some (decide (s = 7 ∧ bb ≤ 32768 ∧ z.length = 7))) = some true)
    (hr : h.rows m = some ⟨v, 7, []⟩) (hl : xs.length ≤ 4294967296) (hm : decide (m.1 < h.tick) = true) :
    appendA P t (.sl m v 0 0) (instrs b xs) h n = some (.sl m (v + if xs.length = 0 then 0 else 1) 0 xs.length, h.put m ⟨v + if xs.length = 0 then 0 else 1, 7, xs.map Instr.cells⟩) := by
  simp only [Option.bind_eq_some_iff] at h0
  obtain ⟨e, he, s, hs, bb, hb, z, hz, hd⟩ := h0
  simp only [Option.some.injEq, decide_eq_true_eq] at hd
  obtain ⟨rfl, hd2, hd3⟩ := hd
  have := appendA_mt (n := n) (xs.map Instr.cells) he hs hb hz ⟨by omega, hd2, hd3⟩ hr (srcElems_instrs h.rows b xs) (fun e he => by simp at he; obtain ⟨a, _, rfl⟩ := he; rfl) (by simpa using hl) (of_decide_eq_true hm)
  simpa using this
attribute [simp] appendA_mt_instrs
theorem Cx.close_instrs {h : Hp} {bs : Bx} {os : Ox} {k : Nm} {ver : Nat} {xs : List Instr} (x : Cx h ((k, ⟨ver, 7, xs.map Instr.cells⟩) :: bs) os) : Cx h bs ((.sl k ver 0 xs.length, (fun b => instrs b xs), [k]) :: os) := by
  have := Cx.close_flat (l := xs.map Instr.cells) (sp := []) (s := 7) (by rw [List.append_nil]; exact x) (instrs_flat xs) (fun e he => by cases he) (fun i e j y he => by simp at he)
  rw [List.length_map] at this
  exact this

set_option maxHeartbeats 4000000 in
theorem l04Copy (g : Graph) (hs : g.Small) : FreshW Tryz.prog 34 [.agg (g.cells true)] (fun b => .agg (g.cells b)) := by
  intro T
  have z1 : g.Sizes.length ≤ 4294967296 := by have := hs.sizes; omega
  have hln := hs.len
  refine enter mixed MG23 Tryz.func34 rfl (by kernel_rfl) rfl ?_
  repeat' (first | (with_reducible first | refine stp ?_ | refine k_blk_o rfl ?_) | ((try (conv => arg 1; simp [Graph.cells])); with_reducible refine evp ?_) | fail)
  refine cx_k ((Cx.mt.next.box_one (T := T) (i := 0) Cx.mt.off (by simp)).box_add (n := (T, 1, 0)) (by simp [nms]) (by simp)) ?_
  intro h1 x1
  have b1 := x1.bxs
  simp only [Bxs] at b1
  repeat' (first | (with_reducible first | refine stp ?_ | refine k_blk_o rfl ?_) | ((try (conv => arg 1; simp [b1, ltS, nm_ne, tk_ne])); with_reducible refine evp ?_) | fail)
  refine cx_k (x1.next.box_new x1.off (by simp)) ?_
  intro h2 x2
  have b2 := x2.bxs
  simp only [Bxs] at b2
  repeat' (first | (with_reducible first | refine stp ?_ | refine k_blk_o rfl ?_) | ((try (conv => arg 1; simp [b2, z1, ltS, nm_ne, tk_ne])); with_reducible refine evp ?_) | fail)
  refine cx_k ((x2.next.new_ints x2.off (by simp)).box_set) ?_
  intro h3 x3
  generalize hw1 : AV.sl (h2.tick, 0, 0) _ 0 g.Sizes.length = w1 at x3
  have q1 := own_one (ownV_ints (x3.o0 true))
  have b3 := x3.bxs
  simp only [Bxs] at b3
  repeat' (first | (with_reducible first | refine stp ?_ | refine k_blk_o rfl ?_ | refine k_seq_n ?_) | ((try (conv => arg 1; simp [b3, q1.1, q1.2.1, q1.2.2, ltS, nm_ne, tk_ne])); with_reducible refine evp ?_) | fail)
  refine st_loop (fun (i : Nat) σ h => i ≤ g.Blocks.length ∧ σ 1 = .ptr (T, 0, 0) 0 0 0 ∧ σ 2 = .ptr (T, 1, 0) 0 0 0 ∧ σ 3 = .ptr (h1.tick, 1, 0) 0 0 0 ∧ σ 4 = .int .i64 i ∧ ∃ es ns, es.length = i ∧ (∀ e ∈ es, e.length = 5) ∧
    Cx h [((h3.tick, 0, 0), ⟨i, 5, es⟩), ((h1.tick, 1, 0), ⟨0, 5, [[w1, .int .i64 g.Params, .int .i64 g.Vars, .int .i64 g.Slots, .sl (h3.tick, 0, 0) i 0 i]]⟩), ((T, 1, 0), ⟨0, 5, [[.nilsl, .int .i64 0, .int .i64 0, .int .i64 0, .nilsl]]⟩), ((T, 0, 0), graphRow g)]
      [(.agg es.flatten, (fun b => .agg ((g.Blocks.take i).map (Block.cells b)).flatten), ns), (w1, (fun b => ints b g.Sizes), [(h2.tick, 0, 0)])]) (fun i => g.Blocks.length - i) 0 ?init ?step
  case init =>
    refine ⟨Nat.zero_le _, by simp, by simp, by simp, by simp, [], [], rfl, by simp, ?_⟩
    exact Cx.to ((x3.next.box_one (T := h3.tick) (i := 0) (r := ⟨0, 5, []⟩) x3.off (by simp)).agg_nil)
  case step =>
    rintro i σ h ⟨hi, s1, s2, s3, s4, es, ns, hle, he5, x⟩
    have b := x.bxs
    simp only [Bxs, graphRow] at b
    by_cases hlt : i < g.Blocks.length
    · have hlt2 : (i : Int) < g.Blocks.length := by omega
      have hx : g.Blocks[i]? = some g.Blocks[i] := by simp
      have hw : IntKind.i64.wrap (i + 1) = i + 1 := wrap_id (by omega) (by omega)
      have hlen := block_len true g.Blocks[i]
      have hcl : g.Blocks[i].Code.length ≤ 4294967296 := by have := hs.code _ (List.getElem_mem hlt); omega
      repeat' (first | (with_reducible first | refine stp ?_ | refine k_blk_o rfl ?_ | refine k_seq_n ?_) | ((try (conv => arg 1; simp [s1, s2, s3, s4, b, hlt2, ltS, nm_ne, tk_ne])); with_reducible refine evp ?_) | fail)
      repeat' (first | (with_reducible first | refine stp ?_ | refine k_blk_o rfl ?_) | ((try (conv => arg 1; simp [s1, s2, s3, s4, b, blocks, hlt2, hx, hlen, Block.cells, ltS, nm_ne, tk_ne])); with_reducible refine evp ?_) | fail)
      refine cx_k (Cx.to (x.next.next.box_one (T := h.tick + 1) (i := 5) (r := ⟨0, 5, [[.nilsl, .int .i64 0, .int .i64 0, .int .i64 0, .int .i64 0]]⟩) x.next.off (by simp))) ?_
      intro h4 x4
      have b4 := x4.bxs
      simp only [Bxs, graphRow] at b4
      repeat' (first | (with_reducible first | refine stp ?_ | refine k_blk_o rfl ?_) | ((try (conv => arg 1; simp [s1, s2, s3, s4, b4, hcl, ltS, nm_ne, tk_ne])); with_reducible refine evp ?_) | fail)
      refine cx_k (Cx.to (x4.next.box_one (T := h4.tick) (i := 0) (r := ⟨0, 7, []⟩) x4.off (by simp))) ?_
      intro h5 x5
      have x6 := x5.close_instrs
      generalize hw2 : AV.sl (h4.tick, 0, 0) _ 0 g.Blocks[i].Code.length = w2 at x6
      have q2 := own_one' (own_of (x6.o0 true) rfl)
      have b5 := x6.bxs
      simp only [Bxs, graphRow] at b5
      repeat' (first | (with_reducible first | refine stp ?_ | refine k_blk_o rfl ?_ | refine k_seq_n ?_) | ((try (conv => arg 1; simp [s1, s2, s3, s4, b5, q2.1, q2.2.1, q2.2.2, ltS, nm_ne, tk_ne])); with_reducible refine evp ?_) | fail)
      conv => arg 1; simp
      rw [appendA_snoc (s := 5) (l := es) (e := [w2, .int .i64 g.Blocks[i].Jump, .int .i64 g.Blocks[i].A, .int .i64 g.Blocks[i].To, .int .i64 g.Blocks[i].Else]) (by kernel_rfl) ?hr hle ?hk rfl (by omega) ?hm]
      case hr => simp [b5, tk_ne]
      case hk => simp [q2.1, q2.2.1, q2.2.2]
      case hm => simp [b5, ltS]
      refine ev2_some ?_
      repeat' (first | (with_reducible first | refine stp ?_ | refine k_blk_o rfl ?_ | refine k_seq_n ?_) | ((try (conv => arg 1; simp [s1, s2, s3, s4, b5, q1.1, q1.2.1, q1.2.2, hw, ltS, nm_ne, tk_ne])); with_reducible refine evp ?_) | fail)
      refine k_lp_n (i + 1) (by omega) ⟨by omega, by simp [s1], by simp [s2], by simp [s3], by simp, es ++ [[w2, .int .i64 g.Blocks[i].Jump, .int .i64 g.Blocks[i].A, .int .i64 g.Blocks[i].To, .int .i64 g.Blocks[i].Else]], ns ++ [(h4.tick, 0, 0)], by simp [hle], fun e he => ?_, ?_⟩
      · rcases List.mem_append.1 he with he | he
        · exact he5 e he
        · simp at he; subst he; rfl
      have y := (Cx.block_join (c := g.Blocks[i]) x6).agg_app
      have y2 := (Cx.box_drop y)
      have e1 : ∀ b, ((g.Blocks.take (i + 1)).map (Block.cells b)).flatten = ((g.Blocks.take i).map (Block.cells b)).flatten ++ g.Blocks[i].cells b := fun b => by rw [List.take_add_one, hx, Option.toList_some, List.map_append, List.flatten_append]; simp
      have e2 : (es ++ [[w2, .int .i64 g.Blocks[i].Jump, .int .i64 g.Blocks[i].A, .int .i64 g.Blocks[i].To, .int .i64 g.Blocks[i].Else]]).flatten = es.flatten ++ [w2, .int .i64 g.Blocks[i].Jump, .int .i64 g.Blocks[i].A, .int .i64 g.Blocks[i].To, .int .i64 g.Blocks[i].Else] := by simp
      simp only [e1, e2]
      exact Cx.to y2
    · have hge : i = g.Blocks.length := by omega
      have hlt2 : ¬ (i : Int) < g.Blocks.length := by omega
      repeat' (first | (with_reducible first | refine stp ?_ | refine k_blk_o rfl ?_ | refine k_seq_n ?_) | ((try (conv => arg 1; simp [s1, s2, s3, s4, b, q1.1, q1.2.1, q1.2.2, hlt2, ltS, nm_ne, tk_ne])); with_reducible refine evp ?_) | fail)
      rw [hge, List.take_length] at x
      have z := Cx.close_row (sp := []) (ts := fun b => g.Blocks.map (Block.cells b)) (by rw [List.append_nil]; exact x) he5 (fun b => by simp [hle, hge]) (fun b t ht => by simp at ht; obtain ⟨a, _, rfl⟩ := ht; rfl) (fun e he => by simp at he) (fun i e j x he => by simp at he)
      rw [show es.length = i by omega, ← hge] at z
      refine fin_own (os := []) (ns := [(h2.tick, 0, 0)] ++ ((h3.tick, 0, 0) :: (ns ++ []))) (bs := ?bs) ?y
      case y => exact Cx.to (Cx.graph_join (g := g) (Cx.rot1 z))
end Go.Proofs.YtlmlkkkgcbpaoaaGreat.AM

namespace Go.Proofs.YtlmlkkkgcbpaoaaGreat.AM
open Go.RowKit

private def MG24 : FuncId → Mode := fun f => .tree

set_option maxHeartbeats 4000000 in
theorem copyGraph (g : Graph) (hs : g.Small) : FreshW Tryz.prog 27 [.agg (g.cells true)] (fun b => .agg (g.cells b)) := by
  intro T
  have z1 : g.Sizes.length ≤ 4294967296 := by have := hs.sizes; omega
  have hln := hs.len
  refine enter mixed MG24 Tryz.func27 rfl (by kernel_rfl) rfl ?_
  repeat' (first | (with_reducible first | refine stp ?_ | refine k_blk_o rfl ?_) | ((try (conv => arg 1; simp [Graph.cells])); with_reducible refine evp ?_) | fail)
  refine cx_k ((Cx.mt.next.box_one (T := T) (i := 0) Cx.mt.off (by simp)).box_add (n := (T, 1, 0)) (by simp [nms]) (by simp)) ?_
  intro h1 x1
  have b1 := x1.bxs
  simp only [Bxs] at b1
  repeat' (first | (with_reducible first | refine stp ?_ | refine k_blk_o rfl ?_) | ((try (conv => arg 1; simp [b1, ltS, nm_ne, tk_ne])); with_reducible refine evp ?_) | fail)
  refine cx_k (x1.next.box_new x1.off (by simp)) ?_
  intro h2 x2
  have b2 := x2.bxs
  simp only [Bxs] at b2
  repeat' (first | (with_reducible first | refine stp ?_ | refine k_blk_o rfl ?_) | ((try (conv => arg 1; simp [b2, z1, ltS, nm_ne, tk_ne])); with_reducible refine evp ?_) | fail)
  refine cx_k ((x2.next.new_ints x2.off (by simp)).box_set) ?_
  intro h3 x3
  generalize hw1 : AV.sl (h2.tick, 0, 0) _ 0 g.Sizes.length = w1 at x3
  have q1 := own_one (ownV_ints (x3.o0 true))
  have b3 := x3.bxs
  simp only [Bxs] at b3
  repeat' (first | (with_reducible first | refine stp ?_ | refine k_blk_o rfl ?_ | refine k_seq_n ?_) | ((try (conv => arg 1; simp [b3, q1.1, q1.2.1, q1.2.2, ltS, nm_ne, tk_ne])); with_reducible refine evp ?_) | fail)
  refine st_loop (fun (i : Nat) σ h => i ≤ g.Blocks.length ∧ σ 1 = .ptr (T, 0, 0) 0 0 0 ∧ σ 2 = .ptr (T, 1, 0) 0 0 0 ∧ σ 3 = .ptr (h1.tick, 1, 0) 0 0 0 ∧ σ 14 = blocks true g.Blocks ∧ σ 15 = .int .i64 g.Blocks.length ∧ σ 16 = .int .i64 i ∧
    ((i = 0 ∧ Cx h [((h1.tick, 1, 0), ⟨0, 5, [[w1, .int .i64 g.Params, .int .i64 g.Vars, .int .i64 g.Slots, .nilsl]]⟩), ((T, 1, 0), ⟨0, 5, [[.nilsl, .int .i64 0, .int .i64 0, .int .i64 0, .nilsl]]⟩), ((T, 0, 0), graphRow g)] [(w1, (fun b => ints b g.Sizes), [(h2.tick, 0, 0)])]) ∨
     (0 < i ∧ ∃ k es ns, es.length = i ∧ (∀ e ∈ es, e.length = 5) ∧
    Cx h [(k, ⟨i - 1, 5, es⟩), ((h1.tick, 1, 0), ⟨0, 5, [[w1, .int .i64 g.Params, .int .i64 g.Vars, .int .i64 g.Slots, .sl k (i - 1) 0 i]]⟩), ((T, 1, 0), ⟨0, 5, [[.nilsl, .int .i64 0, .int .i64 0, .int .i64 0, .nilsl]]⟩), ((T, 0, 0), graphRow g)]
      [(.agg es.flatten, (fun b => .agg ((g.Blocks.take i).map (Block.cells b)).flatten), ns), (w1, (fun b => ints b g.Sizes), [(h2.tick, 0, 0)])]))) (fun i => g.Blocks.length - i) 0 ?init ?step
  case init =>
    refine ⟨Nat.zero_le _, by simp, by simp, by simp, by simp, by simp, by simp, .inl ⟨rfl, ?_⟩⟩
    exact Cx.to x3
  case step =>
    rintro i σ h ⟨hi, s1, s2, s3, s14, s15, s16, hst⟩
    by_cases hlt : i < g.Blocks.length
    · have hlt2 : (i : Int) < g.Blocks.length := by omega
      have hx : g.Blocks[i]? = some g.Blocks[i] := by simp
      have hw : IntKind.i64.wrap (i + 1) = i + 1 := wrap_id (by omega) (by omega)
      have hlen := block_len true g.Blocks[i]
      have hcl : g.Blocks[i].Code.length ≤ 4294967296 := by have := hs.code _ (List.getElem_mem hlt); omega
      rcases hst with ⟨hi0, x⟩ | ⟨hi0, k, es, ns, hle, he5, x⟩
      · have b := x.bxs
        simp only [Bxs, graphRow] at b
        repeat' (first | (with_reducible first | refine stp ?_ | refine k_blk_o rfl ?_ | refine k_seq_n ?_) | ((try (conv => arg 1; simp [s1, s2, s3, s14, s15, s16, b, hlt2, ltS, nm_ne, tk_ne])); with_reducible refine evp ?_) | fail)
        repeat' (first | (with_reducible first | refine stp ?_ | refine k_blk_o rfl ?_) | ((try (conv => arg 1; simp [s1, s2, s3, s14, s15, s16, b, blocks, hlt2, hx, hlen, Block.cells, ltS, nm_ne, tk_ne])); with_reducible refine evp ?_) | fail)
        refine cx_k (Cx.to (x.next.next.box_one (T := h.tick + 1) (i := 2) (r := ⟨0, 5, [[.nilsl, .int .i64 0, .int .i64 0, .int .i64 0, .int .i64 0]]⟩) x.next.off (by simp))) ?_
        intro h4 x4
        have b4 := x4.bxs
        simp only [Bxs, graphRow] at b4
        repeat' (first | (with_reducible first | refine stp ?_ | refine k_blk_o rfl ?_) | ((try (conv => arg 1; simp [s1, s2, s3, s14, s15, s16, b4, hcl, ltS, nm_ne, tk_ne])); with_reducible refine evp ?_) | fail)
        refine cx_k (Cx.to (x4.next.box_one (T := h4.tick) (i := 0) (r := ⟨0, 7, []⟩) x4.off (by simp))) ?_
        intro h5 x5
        have x6 := x5.close_instrs
        generalize hw2 : AV.sl (h4.tick, 0, 0) _ 0 g.Blocks[i].Code.length = w2 at x6
        have q2 := own_one' (own_of (x6.o0 true) rfl)
        have b5 := x6.bxs
        simp only [Bxs, graphRow] at b5
        repeat' (first | (with_reducible first | refine stp ?_ | refine k_blk_o rfl ?_ | refine k_seq_n ?_) | ((try (conv => arg 1; simp [s1, s2, s3, s14, s15, s16, b5, q2.1, q2.2.1, q2.2.2, ltS, nm_ne, tk_ne])); with_reducible refine evp ?_) | fail)
        conv => arg 1; simp
        rw [appendA_nil1 (s := 5) (e := [w2, .int .i64 g.Blocks[i].Jump, .int .i64 g.Blocks[i].A, .int .i64 g.Blocks[i].To, .int .i64 g.Blocks[i].Else]) (by kernel_rfl) ?hk rfl]
        case hk => simp [q2.1, q2.2.1, q2.2.2]
        refine ev2_some ?_
        repeat' (first | (with_reducible first | refine stp ?_ | refine k_blk_o rfl ?_ | refine k_seq_n ?_) | ((try (conv => arg 1; simp [s1, s2, s3, s14, s15, s16, b5, q1.1, q1.2.1, q1.2.2, hw, ltS, nm_ne, tk_ne])); with_reducible refine evp ?_) | fail)
        refine k_lp_n (i + 1) (by omega) ⟨by omega, by simp [s1], by simp [s2], by simp [s3], by simp [s14], by simp [s15], by simp, .inr ⟨by omega, (h5.tick, 4, 0), [[w2, .int .i64 g.Blocks[i].Jump, .int .i64 g.Blocks[i].A, .int .i64 g.Blocks[i].To, .int .i64 g.Blocks[i].Else]], [(h4.tick, 0, 0)], by simp [hi0], fun e he => ?_, ?_⟩⟩
        · simp at he; subst he; rfl
        subst hi0
        have y2 := Cx.box_drop (Cx.block_join (c := g.Blocks[0]) x6)
        have y4 : Cx (h5.next.put (h5.tick, 3, 0) ⟨0, 5, [[w2, .int .i64 g.Blocks[0].Jump, .int .i64 g.Blocks[0].A, .int .i64 g.Blocks[0].To, .int .i64 g.Blocks[0].Else]]⟩) _ _ := Cx.to y2
        have y3 := y4.box_one (T := h5.tick) (i := 4) (r := ⟨0, 5, [[w2, .int .i64 g.Blocks[0].Jump, .int .i64 g.Blocks[0].A, .int .i64 g.Blocks[0].To, .int .i64 g.Blocks[0].Else]]⟩) y2.off (by simp)
        have e1 : ∀ b, ((g.Blocks.take (0 + 1)).map (Block.cells b)).flatten = g.Blocks[0].cells b := fun b => by rw [List.take_add_one, hx]; simp
        have e2 : [[w2, .int .i64 g.Blocks[0].Jump, .int .i64 g.Blocks[0].A, .int .i64 g.Blocks[0].To, .int .i64 g.Blocks[0].Else]].flatten = [w2, .int .i64 g.Blocks[0].Jump, .int .i64 g.Blocks[0].A, .int .i64 g.Blocks[0].To, .int .i64 g.Blocks[0].Else] := by simp
        simp only [e1, e2]
        exact Cx.to y3
      · have b := x.bxs
        simp only [Bxs, graphRow] at b
        repeat' (first | (with_reducible first | refine stp ?_ | refine k_blk_o rfl ?_ | refine k_seq_n ?_) | ((try (conv => arg 1; simp [s1, s2, s3, s14, s15, s16, b, hlt2, ltS, nm_ne, tk_ne])); with_reducible refine evp ?_) | fail)
        repeat' (first | (with_reducible first | refine stp ?_ | refine k_blk_o rfl ?_) | ((try (conv => arg 1; simp [s1, s2, s3, s14, s15, s16, b, blocks, hlt2, hx, hlen, Block.cells, ltS, nm_ne, tk_ne])); with_reducible refine evp ?_) | fail)
        refine cx_k (Cx.to (x.next.next.box_one (T := h.tick + 1) (i := 2) (r := ⟨0, 5, [[.nilsl, .int .i64 0, .int .i64 0, .int .i64 0, .int .i64 0]]⟩) x.next.off (by simp))) ?_
        intro h4 x4
        have b4 := x4.bxs
        simp only [Bxs, graphRow] at b4
        repeat' (first | (with_reducible first | refine stp ?_ | refine k_blk_o rfl ?_) | ((try (conv => arg 1; simp [s1, s2, s3, s14, s15, s16, b4, hcl, ltS, nm_ne, tk_ne])); with_reducible refine evp ?_) | fail)
        refine cx_k (Cx.to (x4.next.box_one (T := h4.tick) (i := 0) (r := ⟨0, 7, []⟩) x4.off (by simp))) ?_
        intro h5 x5
        have x6 := x5.close_instrs
        generalize hw2 : AV.sl (h4.tick, 0, 0) _ 0 g.Blocks[i].Code.length = w2 at x6
        have q2 := own_one' (own_of (x6.o0 true) rfl)
        have b5 := x6.bxs
        simp only [Bxs, graphRow] at b5
        have hkg : ¬ (h1.tick, 1, 0) = k := by have ap := x6.aps; simp only [List.map_cons, List.map_nil, Aps] at ap; exact (ap.2.1 (h1.tick, 1, 0) (by simp)).2
        repeat' (first | (with_reducible first | refine stp ?_ | refine k_blk_o rfl ?_ | refine k_seq_n ?_) | ((try (conv => arg 1; simp [s1, s2, s3, s14, s15, s16, b5, q2.1, q2.2.1, q2.2.2, ltS, nm_ne, tk_ne])); with_reducible refine evp ?_) | fail)
        conv => arg 1; simp
        rw [appendA_snoc (s := 5) (l := es) (e := [w2, .int .i64 g.Blocks[i].Jump, .int .i64 g.Blocks[i].A, .int .i64 g.Blocks[i].To, .int .i64 g.Blocks[i].Else]) (by kernel_rfl) ?hr hle ?hk rfl (by omega) ?hm]
        case hr => simp [b5, nm_ne]
        case hk => simp [q2.1, q2.2.1, q2.2.2]
        case hm => simp [b5, ltS]
        refine ev2_some ?_
        have hkk1 : i - 1 + 1 = i := by omega
        repeat' (first | (with_reducible first | refine stp ?_ | refine k_blk_o rfl ?_ | refine k_seq_n ?_) | ((try (conv => arg 1; simp [s1, s2, s3, s14, s15, s16, b5, q1.1, q1.2.1, q1.2.2, hw, hkg, hkk1, ltS, nm_ne, tk_ne])); with_reducible refine evp ?_) | fail)
        refine k_lp_n (i + 1) (by omega) ⟨by omega, by simp [s1], by simp [s2], by simp [s3], by simp [s14], by simp [s15], by simp, .inr ⟨by omega, k, es ++ [[w2, .int .i64 g.Blocks[i].Jump, .int .i64 g.Blocks[i].A, .int .i64 g.Blocks[i].To, .int .i64 g.Blocks[i].Else]], ns ++ [(h4.tick, 0, 0)], by simp [hle], fun e he => ?_, ?_⟩⟩
        · rcases List.mem_append.1 he with he | he
          · exact he5 e he
          · simp at he; subst he; rfl
        have y := (Cx.block_join (c := g.Blocks[i]) x6).agg_app
        have y2 := (Cx.box_drop y)
        have e1 : ∀ b, ((g.Blocks.take (i + 1)).map (Block.cells b)).flatten = ((g.Blocks.take i).map (Block.cells b)).flatten ++ g.Blocks[i].cells b := fun b => by rw [List.take_add_one, hx, Option.toList_some, List.map_append, List.flatten_append]; simp
        have e2 : (es ++ [[w2, .int .i64 g.Blocks[i].Jump, .int .i64 g.Blocks[i].A, .int .i64 g.Blocks[i].To, .int .i64 g.Blocks[i].Else]]).flatten = es.flatten ++ [w2, .int .i64 g.Blocks[i].Jump, .int .i64 g.Blocks[i].A, .int .i64 g.Blocks[i].To, .int .i64 g.Blocks[i].Else] := by simp
        simp only [e1, e2]
        rw [show i + 1 - 1 = i by omega]
        exact Cx.to y2
    · have hge : i = g.Blocks.length := by omega
      have hlt2 : ¬ (i : Int) < g.Blocks.length := by omega
      rcases hst with ⟨hi0, x⟩ | ⟨hi0, k, es, ns, hle, he5, x⟩
      · have b := x.bxs
        simp only [Bxs, graphRow] at b
        repeat' (first | (with_reducible first | refine stp ?_ | refine k_blk_o rfl ?_ | refine k_seq_n ?_) | ((try (conv => arg 1; simp [s1, s2, s3, s14, s15, s16, b, q1.1, q1.2.1, q1.2.2, hlt2, ltS, nm_ne, tk_ne])); with_reducible refine evp ?_) | fail)
        have hB : g.Blocks = [] := List.length_eq_zero_iff.1 (by omega)
        have z : Cx h _ _ := x.add_own (v := .nilsl) (t := fun b => blocks b g.Blocks) (ns := []) (fun b => by rw [hB]; exact .one (.nilsl .nil)) .nil (fun n hn => by cases hn) (fun n _ => rfl) (Nat.le_refl _)
        refine fin_own (os := []) (ns := [(h2.tick, 0, 0)] ++ []) (bs := ?bs1) ?y1
        case y1 => exact Cx.to (Cx.graph_join (g := g) (Cx.rot1 z))
      · have b := x.bxs
        simp only [Bxs, graphRow] at b
        repeat' (first | (with_reducible first | refine stp ?_ | refine k_blk_o rfl ?_ | refine k_seq_n ?_) | ((try (conv => arg 1; simp [s1, s2, s3, s14, s15, s16, b, q1.1, q1.2.1, q1.2.2, hlt2, ltS, nm_ne, tk_ne])); with_reducible refine evp ?_) | fail)
        rw [hge, List.take_length] at x
        have z := Cx.close_row (sp := []) (ts := fun b => g.Blocks.map (Block.cells b)) (by rw [List.append_nil]; exact x) he5 (fun b => by simp [hle, hge]) (fun b t ht => by simp at ht; obtain ⟨a, _, rfl⟩ := ht; rfl) (fun e he => by simp at he) (fun i e j x he => by simp at he)
        rw [show es.length = i by omega, ← hge] at z
        refine fin_own (os := []) (ns := [(h2.tick, 0, 0)] ++ (k :: (ns ++ []))) (bs := ?bs) ?y
        case y => exact Cx.to (Cx.graph_join (g := g) (Cx.rot1 z))
end Go.Proofs.YtlmlkkkgcbpaoaaGreat.AM

namespace Go.Proofs.YtlmlkkkgcbpaoaaGreat.AM
open Go.RowKit

theorem take_snoc {α : Type} {l : List α} {i : Nat} (hi : i < l.length) : l.take (i + 1) = l.take i ++ [l[i]] := by
  rw [List.take_add_one, List.getElem?_eq_getElem hi]; rfl
theorem gsum_all {α : Type} (f : α → Nat) (l : List α) : gsum f l l.length = (l.map f).sum := by simp [gsum]
/-- A row of plain cells, read as data. -/
theorem dr_flat_sl {c : Bool} {rows : Nm → Option Row} {n : Nm} {ver s : Nat} {l : List (List AV)} {sp : List (List AV)} (h : rows n = some ⟨ver, s, l ++ sp⟩) (hf : ∀ e ∈ l, ∀ x ∈ e, flatc x = true) : DR c rows (.sl n ver 0 l.length) (.tr c l) := by
  have hg : ∀ i, i < l.length → (l ++ sp)[0 + i]? = l[i]? := fun i hi => by rw [Nat.zero_add, List.getElem?_append_left hi]
  refine .sl n ver 0 l.length _ _ h rfl (by simp) rfl (fun i e t he ht => ?_) (fun i e t j x y he ht hx hy => ?_)
  · have hi : i < l.length := (List.getElem?_eq_some_iff.1 ht).1
    rw [hg i hi] at he
    rw [he] at ht; cases ht; rfl
  · have hi : i < l.length := (List.getElem?_eq_some_iff.1 ht).1
    rw [hg i hi] at he
    rw [he] at ht; cases ht
    rw [hx] at hy; cases hy
    exact dr_flatc (hf e (List.mem_of_getElem? he) x (List.mem_of_getElem? hx))
def blkAt (g : Graph) (k : Int) : Block := g.Blocks.getD k.toNat ⟨[], 0, 0, 0, 0⟩
def FL (s : Nat) (l : List (List AV)) (w : AV) (b : Bx) : Prop :=
  (w = .nilsl ∧ l = [] ∧ b = []) ∨ ∃ k ver sp, w = .sl k ver 0 l.length ∧ (∀ e ∈ sp, e.length = s ∧ ∀ x ∈ e, flatc x = true) ∧ b = [(k, ⟨ver, s, l ++ sp⟩)]
theorem FL.one {s : Nat} {l : List (List AV)} {w : AV} {b : Bx} (f : FL s l w b) : w.one = true ∧ w.stored = true ∧ w.cells = [w] := by
  rcases f with ⟨rfl, _, _⟩ | ⟨k, ver, sp, rfl, _, _⟩ <;> exact ⟨rfl, rfl, rfl⟩
theorem FL.nil {s : Nat} : FL s [] .nilsl [] := .inl ⟨rfl, rfl, rfl⟩
theorem FL.mt {s : Nat} {k : Nm} {ver : Nat} : FL s [] (.sl k ver 0 0) [(k, ⟨ver, s, []⟩)] := .inr ⟨k, ver, [], rfl, by simp, rfl⟩
theorem FL.dr {s : Nat} {l : List (List AV)} {w : AV} {b : Bx} {h : Hp} {c : Bool} (f : FL s l w b) (hf : ∀ e ∈ l, ∀ x ∈ e, flatc x = true) (x : ∀ y ∈ b, h.rows y.1 = some y.2) : DR c h.rows w (.tr c l) := by
  rcases f with ⟨rfl, rfl, rfl⟩ | ⟨k, ver, sp, rfl, _, rfl⟩
  · exact .nilsl
  · exact dr_flat_sl (s := s) (x (k, _) (List.mem_singleton.2 rfl)) hf
theorem appendA_room {P : Program} {t : TypeId} {m n k : Nm} {v vk s len : Nat} {h : Hp} {l sp : List (List AV)} {e e0 : List AV} (h0 : ((telem P t).bind fun e => (tsz P e).bind fun s => (tby P e).bind fun bb => (tzero P e).bind fun z => some (s, decide (0 < s ∧ bb ≤ 32768 ∧ z.length = s))) = some (s, true))
    (hr : h.rows m = some ⟨v, s, l ++ e0 :: sp⟩) (hlen : l.length = len) (hk : h.rows k = some ⟨vk, s, [e]⟩) (he : e.length = s) (hl : len + 1 ≤ 4294967296) (hm : m.1 < h.tick) :
    appendA P t (.sl m v 0 len) (.sl k vk 0 1) h n = some (.sl m v 0 (len + 1), h.put m ⟨v, s, (l ++ [e]) ++ sp⟩) := by
  simp only [Option.bind_eq_some_iff] at h0
  obtain ⟨e', he', s', hs, bb, hb, z, hz, hd⟩ := h0
  simp only [Option.some.injEq, Prod.mk.injEq, decide_eq_true_eq] at hd
  obtain ⟨e1, hd1, hd2, hd3⟩ := hd
  rw [e1] at hs hd1 hd3
  subst hlen
  unfold appendA
  have hsrc : srcElems h.rows (.sl k vk 0 1) = some [e] := by simp [srcElems, hk]
  rw [he', hsrc]
  simp only [hs, hb, hz]
  have a1 : (l ++ e0 :: sp).take l.length = l := by simp
  have a2 : (l ++ e0 :: sp).drop (l.length + 1) = sp := by rw [show l ++ e0 :: sp = (l ++ [e0]) ++ sp by simp]; exact List.drop_left' (by simp)
  have a3 : l.length ≤ (l ++ e0 :: sp).length := by simp
  have a4 : l.length + 1 ≤ (l ++ e0 :: sp).length := by simp
  simp only [List.length_append, List.length_cons] at a3 a4
  simp [he, hd1, hd2, hd3, hr, hl, hm, a1, a2, a3, a4]
theorem Cx.to_front {h : Hp} {fs b bs : Bx} {os : Ox} (x : Cx h (fs ++ (b ++ bs)) os) : Cx h (b ++ (fs ++ bs)) os := x.bperm (List.perm_append_comm_assoc fs b bs)
theorem FL.app {P : Program} {t : TypeId} {s : Nat} {l : List (List AV)} {w : AV} {b bs : Bx} {os : Ox} {h : Hp} {k n : Nm} {vk : Nat} {e : List AV} (h0 : ((telem P t).bind fun e => (tsz P e).bind fun s => (tby P e).bind fun bb => (tzero P e).bind fun z => some (s, decide (0 < s ∧ bb ≤ 32768 ∧ z.length = s))) = some (s, true))
    (f : FL s l w b) (x : Cx h (b ++ bs) os) (hk : h.rows k = some ⟨vk, s, [e]⟩) (he : e.length = s) (hl : l.length + 1 ≤ 4294967296) (hn : n ∉ nms (b ++ bs) os) (ht : n.1 < h.tick) :
    ∃ w' b' h', appendA P t w (.sl k vk 0 1) h n = some (w', h') ∧ FL s (l ++ [e]) w' b' ∧ Cx h' (b' ++ bs) os ∧ h'.tick = h.tick ∧ (w'.one = true ∧ w'.stored = true ∧ w'.cells = [w']) := by
  rcases f with ⟨rfl, rfl, rfl⟩ | ⟨m, ver, sp, rfl, hsp, rfl⟩
  · exact ⟨_, [(n, ⟨0, s, [e]⟩)], _, appendA_nil1 h0 hk he, .inr ⟨n, 0, [], rfl, fun e he => by (cases he), rfl⟩, x.box_add hn ht, rfl, rfl, rfl, rfl⟩
  · have ltm := x.lt m (mem_box (x := (m, _)) (List.mem_cons_self ..))
    cases sp with
    | nil =>
      refine ⟨_, [(m, ⟨ver + 1, s, l ++ [e]⟩)], _, appendA_snoc h0 (by simpa using x.b0) rfl hk he hl (decide_eq_true ltm), .inr ⟨m, ver + 1, [], by simp, fun e he => by (cases he), by simp⟩, x.box_set, rfl, rfl, rfl, rfl⟩
    | cons e0 sp =>
      exact ⟨_, [(m, ⟨ver, s, (l ++ [e]) ++ sp⟩)], _, appendA_room h0 x.b0 rfl hk he hl ltm, .inr ⟨m, ver, sp, by simp, fun e he => hsp e (by simp [he]), rfl⟩, x.box_set, rfl, rfl, rfl, rfl⟩
/-- The step of an append. -/
theorem ev2_app {P : Program} {t : TypeId} {s : Nat} {l : List (List AV)} {w : AV} {fs b bs : Bx} {os : Ox} {h : Hp} {k n : Nm} {vk : Nat} {e : List AV} {N : AV → Hp → Prop} (h0 : ((telem P t).bind fun e => (tsz P e).bind fun s => (tby P e).bind fun bb => (tzero P e).bind fun z => some (s, decide (0 < s ∧ bb ≤ 32768 ∧ z.length = s))) = some (s, true))
    (f : FL s l w b) (x : Cx h (fs ++ (b ++ bs)) os) (hk : h.rows k = some ⟨vk, s, [e]⟩) (he : e.length = s) (hl : l.length + 1 ≤ 4294967296) (hn : n ∉ nms (fs ++ (b ++ bs)) os) (ht : n.1 < h.tick)
    (kk : ∀ w' b' h', FL s (l ++ [e]) w' b' → Cx h' (fs ++ (b' ++ bs)) os → h'.tick = h.tick → (w'.one = true ∧ w'.stored = true ∧ w'.cells = [w']) → N w' h') : Ev2 (appendA P t w (.sl k vk 0 1) h n) N := by
  have y := x.to_front
  obtain ⟨w', b', h', ea, fl, z, tk, q⟩ := FL.app (n := n) h0 f y hk he hl (fun e => hn (by
    simp only [nms, List.map_append, List.mem_append] at e ⊢
    rcases e with (e | e | e) | e
    · exact .inl (.inr (.inl e))
    · exact .inl (.inl e)
    · exact .inl (.inr (.inr e))
    · exact .inr e)) ht
  rw [ea]
  exact kk w' b' h' fl z.to_front tk q
theorem Cx.new_nin {h : Hp} {bs : Bx} {os : Ox} {T i : Nat} (x : Cx h bs os) (hT : h.tick ≤ T) : (T, i, 0) ∉ nms bs os := fun e => by
  have := x.lt _ e
  simp only at this
  omega
theorem FL.own {s : Nat} {l : List (List AV)} {w : AV} {b bs : Bx} {os : Ox} {h : Hp} (f : FL s l w b) (hf : ∀ e ∈ l, e.length = s ∧ ∀ x ∈ e, flatc x = true) (x : Cx h (b ++ bs) os) : ∃ ns, Cx h bs ((w, (fun c => .tr c l), ns) :: os) := by
  rcases f with ⟨rfl, rfl, rfl⟩ | ⟨k, ver, sp, rfl, hsp, rfl⟩
  · exact ⟨[], x.add_own (fun b => .one (.nilsl .nil)) .nil (fun n hn => by cases hn) (fun n _ => rfl) (Nat.le_refl _)⟩
  · exact ⟨[k], Cx.close_flat x hf (fun e he => (hsp e he).1) (clRow_flat fun e he => (hsp e he).2)⟩
/-- What a piece of code brings about, and no more of it. -/
theorem st_cut {P : Program} {M : FuncId → Mode} {σ : Nat → AV} {h : Hp} {K : Ex → (Nat → AV) → Hp → Prop} {a : Code} (R : (Nat → AV) → Hp → Prop) (w : wpC P M (Sound P) (drawW2 P M (Sound P)) a σ h (fun e σ' h' => e = .normal ∧ R σ' h')) (k : ∀ σ' h', R σ' h' → K .normal σ' h') : wpC P M (Sound P) (drawW2 P M (Sound P)) a σ h K :=
  wpC_mono Sound.le drawW_le a σ h _ _ (fun e σ' h' hr => by obtain ⟨rfl, hr⟩ := hr; exact k _ _ hr) w
theorem clearA_at {P : Program} {t : TypeId} {n : Nm} {v off len s : Nat} {h : Hp} {pre mid post : List (List AV)} {z : List AV} (h0 : ((telem P t).bind fun e => (tsz P e).bind fun s => (tzero P e).bind fun z => some (s, z, decide (z.length = s ∧ 0 < s ∧ ones z = true))) = some (s, z, true))
    (hr : h.rows n = some ⟨v, s, pre ++ (mid ++ post)⟩) (hp : pre.length = off) (hm : mid.length = len) (ht : n.1 < h.tick) : clearA P t (.sl n v off len) h = some (h.put n ⟨v, s, pre ++ (List.replicate len z ++ post)⟩) := by
  simp only [Option.bind_eq_some_iff] at h0
  obtain ⟨e, he, s', hs, z', hz, hd⟩ := h0
  simp only [Option.some.injEq, Prod.mk.injEq, decide_eq_true_eq] at hd
  obtain ⟨rfl, rfl, hd⟩ := hd
  unfold clearA
  simp only [he, lenOfA, hs, hz]
  subst hp hm
  by_cases h0 : mid.length = 0
  · rw [if_pos h0]
    have : mid = [] := List.eq_nil_of_length_eq_zero h0
    subst this
    congr 1
    exact (hp_put_same (by simpa using hr)).symm
  · rw [if_neg h0, if_pos hd]
    have e1 : (pre ++ (mid ++ post)).take pre.length = pre := by simp
    have e2 : (pre ++ (mid ++ post)).drop (pre.length + mid.length) = post := by rw [← List.append_assoc]; exact List.drop_left' (by simp)
    simp only [overA, hr]
    rw [if_pos ⟨trivial, trivial, by simp, by simp, ht⟩]
    simp only [e1, List.length_replicate, e2, List.append_assoc]
end Go.Proofs.YtlmlkkkgcbpaoaaGreat.AM

namespace Go.Proofs.YtlmlkkkgcbpaoaaGreat.AM
open Go.RowKit Go.Shelf Go.Sort

/-- The kit's numbers, led to this program's. -/
def laysSort_ren : Go.Shelf.Ren := ⟨fun | 189 => 147 | 125 => 178 | 257 => 177 | 128 => 196 | 129 => 197 | 294 => 187 | 295 => 188 | 296 => 189 | 297 => 190 | 298 => 191 | 299 => 192 | 216 => 193 | 300 => 194 | 301 => 195 | 328 => 201 | 329 => 202 | 330 => 203 | 331 => 204 | 332 => 205 | 215 => 206 | 343 => 208 | n => n, fun | 28 => 22 | 3 => 3 | 46 => 204 | 0 => 0 | 51 => 231 | 53 => 233 | 4 => 4 | 183 => 224 | 182 => 223 | 131 => 159 | 5 => 5 | 9 => 9 | 218 => 235 | 222 => 168 | 228 => 241 | 229 => 242 | n => n, fun n => n⟩

theorem laysSort : Lays.n189 Tryz.prog laysSort_ren where
  mixed := by kernel_rfl
  f125 := Tryz.func178.trans (congrArg some (by kernel_rfl))
  f128 := Tryz.func196.trans (congrArg some (by kernel_rfl))
  f129 := Tryz.func197.trans (congrArg some (by kernel_rfl))
  f189 := Tryz.func147.trans (congrArg some (by kernel_rfl))
  f215 := Tryz.func206.trans (congrArg some (by kernel_rfl))
  f216 := Tryz.func193.trans (congrArg some (by kernel_rfl))
  f257 := Tryz.func177.trans (congrArg some (by kernel_rfl))
  f294 := Tryz.func187.trans (congrArg some (by kernel_rfl))
  f295 := Tryz.func188.trans (congrArg some (by kernel_rfl))
  f296 := Tryz.func189.trans (congrArg some (by kernel_rfl))
  f297 := Tryz.func190.trans (congrArg some (by kernel_rfl))
  f298 := Tryz.func191.trans (congrArg some (by kernel_rfl))
  f299 := Tryz.func192.trans (congrArg some (by kernel_rfl))
  f300 := Tryz.func194.trans (congrArg some (by kernel_rfl))
  f301 := Tryz.func195.trans (congrArg some (by kernel_rfl))
  f328 := Tryz.func201.trans (congrArg some (by kernel_rfl))
  f329 := Tryz.func202.trans (congrArg some (by kernel_rfl))
  f330 := Tryz.func203.trans (congrArg some (by kernel_rfl))
  f331 := Tryz.func204.trans (congrArg some (by kernel_rfl))
  f332 := Tryz.func205.trans (congrArg some (by kernel_rfl))
  f343 := Tryz.func208.trans (congrArg some (by kernel_rfl))
  t0 := Tryz.underlying0
  a0 := Tryz.isAgg0
  z0 := Tryz.sizeOf0
  v0 := Tryz.zeroValue0
  t3 := Tryz.underlying3
  a3 := Tryz.isAgg3
  z3 := Tryz.sizeOf3
  v3 := Tryz.zeroValue3
  t4 := Tryz.underlying4
  a4 := Tryz.isAgg4
  z4 := Tryz.sizeOf4
  v4 := Tryz.zeroValue4
  t5 := Tryz.underlying5
  a5 := Tryz.isAgg5
  z5 := Tryz.sizeOf5
  v5 := Tryz.zeroValue5
  t9 := Tryz.underlying9
  a9 := Tryz.isAgg9
  z9 := Tryz.sizeOf9
  v9 := Tryz.zeroValue9
  t28 := Tryz.underlying22
  a28 := Tryz.isAgg22
  z28 := Tryz.sizeOf22
  v28 := Tryz.zeroValue22
  t46 := Tryz.underlying204
  a46 := Tryz.isAgg204
  z46 := Tryz.sizeOf204
  v46 := Tryz.zeroValue204
  t51 := Tryz.underlying231
  a51 := Tryz.isAgg231
  z51 := Tryz.sizeOf231
  v51 := Tryz.zeroValue231
  t53 := Tryz.underlying233
  a53 := Tryz.isAgg233
  z53 := Tryz.sizeOf233
  v53 := Tryz.zeroValue233
  t131 := Tryz.underlying159
  a131 := Tryz.isAgg159
  z131 := Tryz.sizeOf159
  v131 := Tryz.zeroValue159
  t182 := Tryz.underlying223
  a182 := Tryz.isAgg223
  z182 := Tryz.sizeOf223
  v182 := Tryz.zeroValue223
  t183 := Tryz.underlying224
  a183 := Tryz.isAgg224
  z183 := Tryz.sizeOf224
  v183 := Tryz.zeroValue224
  t218 := Tryz.underlying235
  a218 := Tryz.isAgg235
  z218 := Tryz.sizeOf235
  v218 := Tryz.zeroValue235
  t222 := Tryz.underlying168
  a222 := Tryz.isAgg168
  z222 := Tryz.sizeOf168
  v222 := Tryz.zeroValue168
  t228 := Tryz.underlying241
  a228 := Tryz.isAgg241
  z228 := Tryz.sizeOf241
  v228 := Tryz.zeroValue241
  t229 := Tryz.underlying242
  a229 := Tryz.isAgg242
  z229 := Tryz.sizeOf242
  v229 := Tryz.zeroValue242

section
variable {mu : Nm → Nat → Option Loc} {pr : Bool → Nat → Prop} {h : Hp} {w : World}
theorem Rel.heap {w2 : World} (R : Rel mu pr h w) (e : w2.heap = w.heap) : Rel mu pr h w2 := by
  refine ⟨fun n r hr => ?_, R.inj, R.fresh, R.vers, fun c b hb => by rw [e]; exact R.lt c b hb⟩
  rw [e]
  exact R.row n r hr
theorem ext_grow (os : Array Obj) (hlt : ∀ c b, pr c b → b < w.heap.size) : Ext mu pr w.heap mu pr (w.heap ++ os) :=
  ⟨fun _ _ _ h => h, fun _ _ h => h, fun c b hb => by rw [Array.getElem?_append_left (hlt c b hb)], fun b arr ty fr hb => ⟨arr, fr, by
    have := (Array.getElem?_eq_some_iff.1 hb).1
    rw [Array.getElem?_append_left this]
    exact hb, rfl⟩⟩
theorem Rel.grown (R : Rel mu pr h w) (os : Array Obj) : Rel mu pr h (Sort.grow w os) := by
  refine ⟨fun n r hr => ?_, R.inj, R.fresh, R.vers, fun c b hb => by have := R.lt c b hb; simp; omega⟩
  obtain ⟨l, arr, ty, g1, g2, g3, g4, g5, g6⟩ := R.row n r hr
  have hlt := (Array.getElem?_eq_some_iff.1 g3).1
  refine ⟨l, arr, ty, g1, g2, ?_, g4, g5, g6.1, fun i e j c hi hj => ?_⟩
  · show (w.heap ++ os)[l.b]? = _
    rw [Array.getElem?_append_left hlt]
    exact g3
  · obtain ⟨h1, u, h2, h3⟩ := g6.2 i e j c hi hj
    exact ⟨h1, u, h2, h3.mono (ext_grow os R.lt)⟩
end

def sorted (xs : List Int) : List Int := xs.mergeSort fun x y => decide (x ≤ y)
theorem sorted_len (xs : List Int) : (sorted xs).length = xs.length := List.length_mergeSort _

set_option maxHeartbeats 1000000 in
theorem sortS (xs : List Int) (hne : xs ≠ []) (hl : xs.length < 2 ^ 40) {h : Hp} {n : Nm} {ver : Nat} {sp : List (List AV)} (hr : h.rows n = some ⟨ver, 1, cl1 xs ++ sp⟩) (ht : n.1 < h.tick) :
    Sound Tryz.prog 147 [.sl n ver 0 xs.length] h fun v h' => h' = h.put n ⟨ver, 1, cl1 (sorted xs) ++ sp⟩ := by
  refine ⟨⟨_, Tryz.func147, rfl, rfl⟩, fun mu pr w vs R hv => ?_⟩
  obtain ⟨u, rfl⟩ : ∃ u, vs = [u] := by
    match vs, hv.1 with
    | [u], _ => exact ⟨u, rfl⟩
  have hu : VR mu pr w.heap (.sl n ver 0 xs.length) u := by
    obtain ⟨u', h1, h2⟩ := hv.2 0 _ rfl
    simp at h1
    subst h1
    exact h2
  have hxp : 0 < xs.length := List.length_pos_iff.2 hne
  have hu0 := hu
  cases hu with
  | sl _ _ _ _ cap ao l arr0 ty0 fr0 g1 g2 g3 g4 g5 g6 g7 g8 =>
    obtain ⟨l2, arr, ty, k1, k2, k3, k4, k5, k6⟩ := R.row n _ hr
    rw [show (⟨ver, 1, cl1 xs ++ sp⟩ : Row).ver = ver from rfl, g1] at k1
    cases k1
    have hao : ao = l.o := by have := g8 (by omega); omega
    subst hao
    have hblk : l.b < w.heap.size := (Array.getElem?_eq_some_iff.1 k3).1
    have hcell : ∀ j, j < xs.length → arr[l.o + j]? = some (.int .i64 (xs.getD j 0)) := fun j hj => by
      obtain ⟨_, u, h2, h3⟩ := k6.2 j [.int .i64 (xs.getD j 0)] 0 (.int .i64 (xs.getD j 0)) (by
        rw [List.getElem?_append_left (by simpa [cl1] using hj)]; simp [cl1, hj]) rfl
      cases h3
      rw [k4] at h2
      simpa using h2
    have hc : ∀ j, j < xs.length → w.cell? ⟨l.b, l.o + j, none⟩ = some (.int .i64 (xs.getD j 0)) := fun j hj => by
      simp only [World.cell?, k3]
      exact hcell j hj
    have hf : ∀ j, j < xs.length → w.frozen? ⟨l.b, l.o + j, none⟩ = false := fun j hj => by
      simp [World.frozen?, k3]
    have hH := Lib.holds_of_ints (n := xs.length) (Nat.le_refl _) hc hf
    rw [List.take_length] at hH
    have C := calls_of_every_depth fun D => AnyS.slices_Sort_int_alone laysSort D l.b l.o cap xs w hH hblk (by omega)
    refine Calls.mono (R := _) C ?_
    rintro e w' ⟨rfl, q, os, rfl⟩
    have hsw := Lib.sorted_world (Value.int .i64) w l.b l.o q xs.toArray (sorted xs) os hH (by simp [sorted_len])
    have R1 : Rel mu pr h (w.drewN q) := R.heap rfl
    have hsl : (cl1 (sorted xs)).length = xs.length := by simp [cl1, sorted_len]
    have he : overA h.rows h.tick 1 (.sl n ver 0 xs.length) (cl1 (sorted xs)) = some (n, ⟨ver, 1, cl1 (sorted xs) ++ sp⟩) := by
      simp only [overA, hr]
      rw [if_pos ⟨trivial, trivial, by simp [cl1], by omega, ht⟩, hsl]
      simp [cl1]
    have hv' : VRs mu pr (w.drewN q).heap (cl1 (sorted xs)).flatten ((sorted xs).map (Value.int .i64)) := by
      have e1 : (cl1 (sorted xs)).flatten = (sorted xs).map (AV.int .i64) := by
        unfold cl1
        induction sorted xs with
        | nil => rfl
        | cons x l ih => simp only [List.map_cons, List.flatten_cons, ih]; rfl
      rw [e1]
      refine ⟨by simp, fun i c hi => ?_⟩
      simp only [List.getElem?_map, Option.map_eq_some_iff] at hi
      obtain ⟨x, hx, rfl⟩ := hi
      exact ⟨.int .i64 x, by simp [hx], .int _ _⟩
    obtain ⟨mu', w2, a, n2, c2, eu, hle, hrun, R2, X2, F2, hmu⟩ := overA_ok (P := Tryz.prog) R1 hu0 he (fun e he => by simp only [cl1, List.mem_map] at he; obtain ⟨x, _, rfl⟩ := he; rfl) (fun e he => by simp only [cl1, List.mem_map] at he; obtain ⟨x, _, rfl⟩ := he; rfl) (fun e => by have := congrArg List.length e; simp [hsl] at this; exact hne this) (by omega) hv'
    injection eu with eu _ _
    injection eu with eu
    subst eu
    have hst := run_storeCells_cells (P := Tryz.prog) l.b l.o ((sorted xs).map (Value.int .i64)) 0 (w.drewN q) (fun j hj => by
        have hj' : j < xs.length := by simpa [sorted_len] using hj
        rw [Nat.add_zero]
        show (w.cell? ⟨l.b, l.o + j, none⟩).isSome = true
        rw [hc j hj']; rfl) (fun j hj => by
        have hj' : j < xs.length := by simpa [sorted_len] using hj
        rw [Nat.add_zero]
        exact hf j hj') (fun v hv => by
        simp only [List.mem_map] at hv
        obtain ⟨x, _, rfl⟩ := hv
        rfl)
    rw [hst] at hrun
    injection hrun with _ hrun
    rw [Nat.add_zero] at hrun
    subst hrun
    have hw2 : Sort.grow (putRow (Value.int .i64) (Sort.ahead w q) l.b l.o ((sorted xs)).toArray) os = Sort.grow ((w.drewN q).setCells l.b l.o ((sorted xs).map (Value.int .i64))) os := hsw
    show ∃ z v h' mu' pr', _
    have hfin : ∀ W, W = Sort.grow ((w.drewN q).setCells l.b l.o ((sorted xs).map (Value.int .i64))) os → ∃ z v h' mu' pr', Ending.returned (.tuple #[]) = .returned z ∧ h' = h.put n ⟨ver, 1, cl1 (sorted xs) ++ sp⟩ ∧ VR mu' pr' W.heap v z ∧ After mu pr h w mu' pr' h' W := by
      rintro W rfl
      refine ⟨_, .tup [], _, mu', pr, rfl, rfl, VR.tup_mk .nil, ⟨R2.grown os, X2.trans (ext_grow os R2.lt), ⟨F2.os, F2.tape, F2.output, Nat.le_trans F2.size (by simp)⟩, fun b hb => .inl hb, fun b hb => hb, fun m hm hf v => by rw [hmu]; exact hf v, by rw [hp_put_tick]; exact Nat.le_refl _⟩⟩
    exact hfin _ hw2
end Go.Proofs.YtlmlkkkgcbpaoaaGreat.AM

namespace Go.Proofs.YtlmlkkkgcbpaoaaGreat.AM
open Go.RowKit

def rangeI (n : Nat) : List Int := (List.range n).map fun i : Nat => (i : Int)
theorem rangeI_len (n : Nat) : (rangeI n).length = n := by simp [rangeI]
theorem rangeI_mem {n : Nat} {x : Int} : x ∈ rangeI n ↔ inB x 0 ((n : Int) - 1) = true := by
  simp only [rangeI, List.mem_map, List.mem_range, inB, Bool.and_eq_true, decide_eq_true_eq]
  constructor
  · rintro ⟨a, h, rfl⟩; omega
  · rintro ⟨h1, h2⟩; exact ⟨x.toNat, by omega, by omega⟩
theorem rangeI_nodup (n : Nat) : (rangeI n).Nodup := by
  unfold rangeI
  rw [List.Nodup, List.pairwise_map]
  exact (List.nodup_range (n := n)).imp fun h e => h (by omega)
theorem rangeI_sorted (n : Nat) : (rangeI n).Pairwise (· ≤ ·) := by
  unfold rangeI
  rw [List.pairwise_map]
  exact (List.pairwise_lt_range (n := n)).imp fun h => by omega
/-- As many and among them: a permutation. -/
theorem perm_of_nodup : ∀ {l m : List Int}, l.Nodup → (∀ x ∈ l, x ∈ m) → m.length ≤ l.length → l.Perm m
  | [], m, _, _, hl => by
    have : m = [] := List.eq_nil_of_length_eq_zero (by simpa using hl)
    rw [this]
  | x :: l, m, hn, hs, hl => by
    have hx := hs x (by simp)
    have hp := List.perm_cons_erase hx
    have hn' := List.nodup_cons.1 hn
    have ih := perm_of_nodup (l := l) (m := m.erase x) hn'.2 (fun y hy => by
      have hym := hs y (by simp [hy])
      have hne : y ≠ x := fun e => hn'.1 (e ▸ hy)
      exact (List.mem_erase_of_ne hne).2 hym) (by
      have := hp.length_eq
      simp only [List.length_cons] at this hl
      omega)
    exact (List.Perm.cons x ih).trans hp.symm
theorem eq_of_sorted : ∀ {l m : List Int}, l.Pairwise (· ≤ ·) → m.Pairwise (· ≤ ·) → l.Perm m → l = m
  | [], m, _, _, hp => (List.Perm.nil_eq hp)
  | x :: l, [], _, _, hp => by have := hp.length_eq; simp at this
  | x :: l, y :: m, hl, hm, hp => by
    have h1 := List.pairwise_cons.1 hl
    have h2 := List.pairwise_cons.1 hm
    have e : x = y := by
      have hx : x ∈ y :: m := hp.subset (by simp)
      have hy : y ∈ x :: l := hp.symm.subset (by simp)
      have a1 : y ≤ x := by
        rcases List.mem_cons.1 hx with h | h
        · omega
        · exact h2.1 x h
      have a2 : x ≤ y := by
        rcases List.mem_cons.1 hy with h | h
        · omega
        · exact h1.1 y h
      omega
    subst e
    rw [eq_of_sorted h1.2 h2.2 ((List.perm_cons x).1 hp)]
theorem sorted_perm (l : List Int) : (sorted l).Perm l := List.mergeSort_perm _ _
theorem sorted_sorted (l : List Int) : (sorted l).Pairwise (· ≤ ·) := by
  have := List.pairwise_mergeSort (le := fun x y : Int => decide (x ≤ y)) (fun a b c h1 h2 => by simp at *; omega) (fun a b => by simp; omega) l
  exact this.imp fun h => by simpa using h
theorem sorted_range {l : List Int} {n : Nat} (hl : l.length = n) : sorted l = rangeI n ↔ (∀ x ∈ l, inB x 0 ((n : Int) - 1) = true) ∧ l.Nodup := by
  constructor
  · intro h
    have hp := (sorted_perm l).symm
    rw [h] at hp
    exact ⟨fun x hx => rangeI_mem.1 (hp.subset hx), (hp.symm.nodup_iff).1 (rangeI_nodup n)⟩
  · rintro ⟨h1, h2⟩
    exact eq_of_sorted (sorted_sorted l) (rangeI_sorted n) ((sorted_perm l).trans (perm_of_nodup h2 (fun x hx => rangeI_mem.2 (h1 x hx)) (by rw [rangeI_len, hl]; exact Nat.le_refl _)))
/-- What an order of a graph's blocks is. -/
def orderB (g : Graph) (l : List Int) : Bool := graphOk g && (decide (l.length = g.Blocks.length) && (decide (l.getD 0 1 = 0) && decide (sorted l = rangeI g.Blocks.length)))
end Go.Proofs.YtlmlkkkgcbpaoaaGreat.AM

namespace Go.Proofs.YtlmlkkkgcbpaoaaGreat.AM
open Go.RowKit

private def MG72 : FuncId → Mode := fun f => if f = 147 ∨ f = 148 ∨ f = 97 then .heap else .tree

theorem numbers (n : Nat) (hn : n ≤ 2 ^ 20) : Pure Tryz.prog 98 [.int .i64 n] (ints false (rangeI n)) := by
  intro T
  have hnil : True := trivial
  have hrs : ∀ i : Nat, rangeI (i + 1) = rangeI i ++ [(i : Int)] := fun i => by simp [rangeI, List.range_succ]
  refine enter mixed MG72 Tryz.func98 rfl (by kernel_rfl) rfl ?_
  repeat' (first | (with_reducible first | refine stp ?_ | refine k_blk_o rfl ?_ | refine k_seq_n ?_) | ((try (conv => arg 1; simp [hnil])); with_reducible refine evp ?_) | fail)
  refine st_loop (fun (i : Nat) σ h => i ≤ n ∧ σ 3 = .sl (T + 1, 0, 0) i 0 i ∧ σ 6 = .int .i64 n ∧ σ 7 = .int .i64 i ∧ Cx h [((T + 1, 0, 0), ⟨i, 1, cl1 (rangeI i)⟩)] []) (fun i => n - i) 0 ?init ?step
  case init =>
    have x0 := Cx.mt (T := T).next.next.box_one (T := T + 1) (i := 0) (r := ⟨0, 1, []⟩) (fun n hn => by simp [nms] at hn) (by simp)
    exact ⟨Nat.zero_le _, by simp, by simp, by simp, Cx.to x0⟩
  case step =>
    rintro i σ h ⟨hi, s3, s6, s7, x⟩
    have b := x.bxs
    simp only [Bxs] at b
    have hw : IntKind.i64.wrap (i + 1) = i + 1 := wrap_id (by omega) (by omega)
    by_cases hlt : i < n
    · have hlt2 : (i : Int) < n := by omega
      repeat' (first | (with_reducible first | refine stp ?_ | refine k_blk_o rfl ?_ | refine k_seq_n ?_) | ((try (conv => arg 1; simp [s3, s6, s7, b, hlt2, ltS, nm_ne])); with_reducible refine evp ?_) | fail)
      conv => arg 1; simp
      rw [appendA_snoc (s := 1) (l := cl1 (rangeI i)) (e := [.int .i64 i]) (by kernel_rfl) ?hr (by simp [cl1, rangeI_len]) ?hk rfl (by omega) ?hm]
      case hr => simp [b, nm_ne, ltS]
      case hk => simp
      case hm => simp [b, ltS]
      refine ev2_some ?_
      repeat' (first | (with_reducible first | refine stp ?_ | refine k_blk_o rfl ?_ | refine k_seq_n ?_) | ((try (conv => arg 1; simp [s3, s6, s7, hw])); with_reducible refine evp ?_) | fail)
      refine k_lp_n (i + 1) (by omega) ⟨by omega, by simp, by simp [s6], by simp, ?_⟩
      rw [hrs, show cl1 (rangeI i ++ [(i : Int)]) = cl1 (rangeI i) ++ [[.int .i64 i]] by simp [cl1]]
      exact Cx.to x
    · have hge : i = n := by omega
      have hlt2 : ¬ (i : Int) < n := by omega
      subst hge
      repeat' (first | (with_reducible first | refine stp ?_ | refine k_blk_o rfl ?_ | refine k_seq_n ?_) | ((try (conv => arg 1; simp [s3, s6, s7, hlt2])); with_reducible refine evp ?_) | fail)
      exact dr_ints_sl' (rangeI_len i) (by simpa [cl1] using b.1)

theorem equalII (a l : List Int) (h1 : a.length ≤ 2 ^ 40) : Pure Tryz.prog 96 [ints true a, ints true l] (.bool (decide (a = l))) := by
  intro T
  have hnil : True := trivial
  refine enter mixed MG72 Tryz.func96 rfl (by kernel_rfl) rfl ?_
  by_cases hl : a.length = l.length
  · have hl2 : (a.length : Int) = l.length := by omega
    repeat' (first | (with_reducible first | refine stp ?_ | refine k_blk_o rfl ?_ | refine k_seq_n ?_) | ((try (conv => arg 1; simp [ints, hl2, hl])); with_reducible refine evp ?_) | fail)
    refine st_loop (fun (i : Nat) σ h => i ≤ l.length ∧ σ 0 = ints true a ∧ σ 1 = ints true l ∧ σ 12 = .int .i64 l.length ∧ σ 13 = .int .i64 i ∧ a.take i = l.take i) (fun i => l.length - i) 0 ?init ?step
    case init => exact ⟨Nat.zero_le _, by simp [ints], by simp [ints], by simp, by simp, by simp⟩
    case step =>
      rintro i σ h ⟨hi, s0, s1, s12, s13, ht⟩
      have hw : IntKind.i64.wrap (i + 1) = i + 1 := wrap_id (by omega) (by omega)
      by_cases hlt : i < l.length
      · have hlt2 : (i : Int) < l.length := by omega
        have hx : a[i]? = some (a[i]'(by omega)) := by simp
        have hy : l[i]? = some l[i] := by simp
        have hla : i < a.length := by omega
        by_cases he : a[i] = l[i]
        · skip
          repeat' (first | (with_reducible first | refine stp ?_ | refine k_blk_o rfl ?_ | refine k_seq_n ?_) | ((try (conv => arg 1; simp [s0, s1, s12, s13, ints, hlt2])); with_reducible refine evp ?_) | fail)
          repeat (with_reducible first | refine stp ?_ | refine k_seq_n ?_)
          refine st_draw 9 (fun _ => false) (by kernel_rfl) ?_
          simp only [List.take_succ_cons, List.take_zero, List.drop_succ_cons, List.drop_zero, List.take_nil, List.drop_nil]
          repeat' (first | (with_reducible first | refine stp ?_ | refine k_blk_o rfl ?_ | refine k_seq_n ?_) | ((try (conv => arg 1; simp [s0, s1, s12, s13, ints, hx, hy, he, hw])); with_reducible refine evp ?_) | ((with_reducible refine apn ?na ?_); (case na => simp [appNames, ints, intss] <;> first | kernel_rfl | (refine ⟨?_, ?_⟩ <;> kernel_rfl))) | fail)
          refine k_lp_n (i + 1) (by omega) ⟨by omega, by simp [s0, ints], by simp [s1, ints], by simp [s12], by simp, ?_⟩
          rw [take_snoc hla, take_snoc hlt, ht, he]
        · skip
          repeat' (first | (with_reducible first | refine stp ?_ | refine k_blk_o rfl ?_ | refine k_seq_n ?_) | ((try (conv => arg 1; simp [s0, s1, s12, s13, ints, hlt2])); with_reducible refine evp ?_) | ((with_reducible refine apn ?na ?_); (case na => simp [appNames, ints, intss] <;> first | kernel_rfl | (refine ⟨?_, ?_⟩ <;> kernel_rfl))) | fail)
          repeat (with_reducible first | refine stp ?_ | refine k_seq_n ?_)
          refine st_draw 9 (fun _ => false) (by kernel_rfl) ?_
          simp only [List.take_succ_cons, List.take_zero, List.drop_succ_cons, List.drop_zero, List.take_nil, List.drop_nil]
          repeat' (first | (with_reducible first | refine stp ?_ | refine k_blk_o rfl ?_ | refine k_seq_n ?_) | ((try (conv => arg 1; simp [s0, s1, s12, s13, ints, hx, hy, he, hw])); with_reducible refine evp ?_) | ((with_reducible refine apn ?na ?_); (case na => simp [appNames, ints, intss] <;> first | kernel_rfl | (refine ⟨?_, ?_⟩ <;> kernel_rfl))) | fail)
          refine dr_bool ?_
          symm
          rw [decide_eq_false_iff_not]
          rintro rfl
          exact he rfl
      · have hge : i = l.length := by omega
        have hlt2 : ¬ (i : Int) < l.length := by omega
        repeat' (first | (with_reducible first | refine stp ?_ | refine k_blk_o rfl ?_ | refine k_seq_n ?_) | ((try (conv => arg 1; simp [s0, s1, s12, s13, ints, hlt2])); with_reducible refine evp ?_) | ((with_reducible refine apn ?na ?_); (case na => simp [appNames, ints, intss] <;> first | kernel_rfl | (refine ⟨?_, ?_⟩ <;> kernel_rfl))) | fail)
        refine dr_bool ?_
        symm
        rw [decide_eq_true_iff]
        rw [hge, List.take_length, ← hl, List.take_length] at ht
        exact ht
  · have hl2 : ¬ (a.length : Int) = l.length := by omega
    repeat' (first | (with_reducible first | refine stp ?_ | refine k_blk_o rfl ?_ | refine k_seq_n ?_) | ((try (conv => arg 1; simp [ints, hl2, hl])); with_reducible refine evp ?_) | ((with_reducible refine apn ?na ?_); (case na => simp [appNames, ints, intss] <;> first | kernel_rfl | (refine ⟨?_, ?_⟩ <;> kernel_rfl))) | fail)
    refine dr_bool ?_
    symm
    rw [decide_eq_false_iff_not]
    rintro rfl
    exact hl rfl
end Go.Proofs.YtlmlkkkgcbpaoaaGreat.AM

namespace Go.Proofs.YtlmlkkkgcbpaoaaGreat.AM
open Go.RowKit

private def MG73 : FuncId → Mode := fun f => if f = 147 ∨ f = 148 ∨ f = 97 then .heap else .tree

theorem cl1_at {xs : List Int} {i : Nat} (hi : i < xs.length) : (cl1 xs)[i]? = some [.int .i64 xs[i]] := by simp [cl1, hi]
theorem not_nodup {xs : List Int} {i : Nat} (hi : i + 1 < xs.length) (he : xs[i + 1] = xs[i]) : ¬ xs.Nodup := fun h => by
  have := (List.pairwise_iff_getElem.1 h) i (i + 1) (by omega) hi (by omega)
  exact this he.symm

set_option maxHeartbeats 2000000 in
theorem compactS (xs : List Int) {m : Nat} (hm : xs.length = m) (hl : m ≤ 2 ^ 31) {h : Hp} {bs : Bx} {os : Ox} {n : Nm} {ver : Nat} (x : Cx h ((n, ⟨ver, 1, cl1 xs⟩) :: bs) os) :
    Sound Tryz.prog 148 [.sl n ver 0 m] h fun v h' => ∃ ys sp, v = .sl n ver 0 ys.length ∧ (ys = xs ∨ (ys.length < xs.length ∧ ¬ xs.Nodup)) ∧ Cx h' ((n, ⟨ver, 1, cl1 ys ++ sp⟩) :: bs) os := by
  have hnil : True := trivial
  subst hm
  refine enter mixed MG73 Tryz.func148 rfl (by kernel_rfl) rfl ?_
  by_cases h2 : (xs.length : Int) < 2
  · skip
    repeat' (first | (with_reducible first | refine stp ?_ | refine k_blk_o rfl ?_ | refine k_seq_n ?_) | ((try (conv => arg 1; simp [h2])); with_reducible refine evp ?_) | fail)
    exact ⟨xs, [], rfl, .inl rfl, by rw [List.append_nil]; exact Cx.to x⟩
  · skip
    repeat' (first | (with_reducible first | refine stp ?_ | refine k_blk_o rfl ?_ | refine k_seq_n ?_) | ((try (conv => arg 1; simp [h2])); with_reducible refine evp ?_) | fail)
    refine st_loop (fun (k : Nat) σ h' => 1 ≤ k ∧ k ≤ xs.length ∧ σ 0 = .sl n ver 0 xs.length ∧ σ 3 = .int .i64 k ∧ Cx h' ((n, ⟨ver, 1, cl1 xs⟩) :: bs) os) (fun k => xs.length - k) 1 ?init ?step
    case init => exact ⟨Nat.le_refl _, by omega, by simp, by simp, Cx.to x⟩
    case step =>
      rintro k σ h' ⟨hk1, hk, s0, s3, y⟩
      have b := y.bxs
      simp only [Bxs] at b
      by_cases hlt : k < xs.length
      · have hlt2 : (k : Int) < xs.length := by omega
        have hw : IntKind.i64.wrap (k + 1) = k + 1 := wrap_id (by omega) (by omega)
        have hwk : IntKind.i64.wrap ((k : Int) - 1) = ((k - 1 : Nat) : Int) := by rw [wrap_id (by omega) (by omega)]; omega
        have hg1 := cl1_at hlt
        have hk2 : k - 1 < xs.length := by omega
        have hg2 := cl1_at hk2
        have hT : ¬ n.1 = h'.tick + 1 := by have := b.2.1; omega
        have hcl : (cl1 xs).length = xs.length := by simp [cl1]
        have hsl : k ≤ xs.length := by omega
        generalize hE : cl1 xs = E at *
        generalize hj : k - 1 = j at *
        by_cases he : xs[k] = xs[j]
        · have hnn : ¬ xs.Nodup := by
            have e1 : k = j + 1 := by omega
            subst e1
            exact not_nodup hlt he
          repeat' (first | (with_reducible first | refine stp ?_ | refine k_blk_o rfl ?_ | refine k_seq_n ?_) | ((try (conv => arg 1; simp [s0, s3, hlt2])); with_reducible refine evp ?_) | fail)
          repeat (with_reducible first | refine stp ?_ | refine k_seq_n ?_)
          refine st_draw 10 (fun _ => false) (by kernel_rfl) ?_
          simp only [List.take_succ_cons, List.take_zero, List.drop_succ_cons, List.drop_zero, List.take_nil, List.drop_nil]
          repeat' (first | (with_reducible first | refine stp ?_ | refine k_blk_o rfl ?_ | refine k_seq_n ?_) | ((try (conv => arg 1; simp [s0, s3, b, hlt, hlt2, hk2, hwk, hg1, hg2, he, maskR, hT])); with_reducible refine evp ?_) | ((with_reducible refine apn ?na ?_); (case na => simp [appNames, ints, intss] <;> first | kernel_rfl | (refine ⟨?_, ?_⟩ <;> kernel_rfl))) | fail)
          repeat' (first | (with_reducible first | refine stp ?_ | refine k_blk_o rfl ?_ | refine k_seq_n ?_) | ((try (conv => arg 1; simp [s0, s3, b, hlt, hlt2, hsl, hcl, sliceA, bnd])); with_reducible refine evp ?_) | ((with_reducible refine apn ?na ?_); (case na => simp [appNames, ints, intss] <;> first | kernel_rfl | (refine ⟨?_, ?_⟩ <;> kernel_rfl))) | fail)
          refine st_loop (fun (i : Nat) σ h' => 1 ≤ i ∧ i ≤ xs.length - k ∧ σ 0 = .sl n ver 0 xs.length ∧ σ 4 = .sl n ver k (xs.length - k) ∧ σ 5 = .int .i64 i ∧ ∃ (cur : List Int) (m : Nat), cur.length = xs.length ∧ k ≤ m ∧ m < k + i ∧ σ 3 = .int .i64 m ∧ Cx h' ((n, ⟨ver, 1, cl1 cur⟩) :: bs) os) (fun i => xs.length - k - i) 1 ?init ?step
          case init => exact ⟨Nat.le_refl _, by omega, by simp [s0], by simp, by simp, xs, k, rfl, Nat.le_refl _, by omega, by simp [s3], by rw [hE]; exact Cx.to y⟩
          case step =>
            rintro i σ h2 ⟨hi1, hi, s0, s4, s5, cur, m, hcu, hm1, hm2, s3, z⟩
            have bz := z.bxs
            simp only [Bxs] at bz
            by_cases hil : i < xs.length - k
            · have hil2 : (i : Int) < ((xs.length - k : Nat) : Int) := by omega
              have hwi : IntKind.i64.wrap (i + 1) = i + 1 := wrap_id (by omega) (by omega)
              have hwm : IntKind.i64.wrap (m + 1) = m + 1 := wrap_id (by omega) (by omega)
              have hwi2 : IntKind.i64.wrap ((i : Int) - 1) = ((i - 1 : Nat) : Int) := by rw [wrap_id (by omega) (by omega)]; omega
              have ha : k + i < cur.length := by omega
              have ha2 : k + (i - 1) < cur.length := by omega
              have hg3 := cl1_at ha
              have hg4 := cl1_at ha2
              have hmx : m < xs.length := by omega
              have hg5 := cl1_at (xs := cur) (i := m) (by omega)
              have hT2 : ¬ n.1 = h2.tick + 1 := by have := bz.2.1; omega
              have hi2l : i - 1 < xs.length - k := by omega
              have hset : ∀ c : Int, (cl1 cur).set m [.int .i64 c] = cl1 (cur.set m c) := fun c => by simp [cl1, List.map_set]
              generalize hq : i - 1 = q at *
              generalize hrm : xs.length - k = rm at *
              generalize hF : cl1 cur = F at *
              by_cases hc : cur[k + i] = cur[k + q]
              · skip
                repeat' (first | (with_reducible first | refine stp ?_ | refine k_blk_o rfl ?_ | refine k_seq_n ?_) | ((try (conv => arg 1; simp [s0, s3, s4, s5, hil2])); with_reducible refine evp ?_) | ((with_reducible refine apn ?na ?_); (case na => simp [appNames, ints, intss] <;> first | kernel_rfl | (refine ⟨?_, ?_⟩ <;> kernel_rfl))) | fail)
                repeat (with_reducible first | refine stp ?_ | refine k_seq_n ?_)
                refine st_draw 10 (fun _ => false) (by kernel_rfl) ?_
                simp only [List.take_succ_cons, List.take_zero, List.drop_succ_cons, List.drop_zero, List.take_nil, List.drop_nil]
                repeat' (first | (with_reducible first | refine stp ?_ | refine k_blk_o rfl ?_ | refine k_seq_n ?_) | ((try (conv => arg 1; simp [s0, s3, s4, s5, bz, hil, hi2l, hwi2, hg3, hg4, hc, hwi, maskR, hT2])); with_reducible refine evp ?_) | ((with_reducible refine apn ?na ?_); (case na => simp [appNames, ints, intss] <;> first | kernel_rfl | (refine ⟨?_, ?_⟩ <;> kernel_rfl))) | fail)
                refine k_lp_n (i + 1) (by omega) ⟨by omega, by omega, by simp [s0], by simp [s4], by simp, cur, m, hcu, hm1, by omega, by simp [s3], by rw [hF]; exact Cx.to z⟩
              · skip
                repeat' (first | (with_reducible first | refine stp ?_ | refine k_blk_o rfl ?_ | refine k_seq_n ?_) | ((try (conv => arg 1; simp [s0, s3, s4, s5, hil2])); with_reducible refine evp ?_) | ((with_reducible refine apn ?na ?_); (case na => simp [appNames, ints, intss] <;> first | kernel_rfl | (refine ⟨?_, ?_⟩ <;> kernel_rfl))) | fail)
                repeat (with_reducible first | refine stp ?_ | refine k_seq_n ?_)
                refine st_draw 10 (fun _ => false) (by kernel_rfl) ?_
                simp only [List.take_succ_cons, List.take_zero, List.drop_succ_cons, List.drop_zero, List.take_nil, List.drop_nil]
                repeat' (first | (with_reducible first | refine stp ?_ | refine k_blk_o rfl ?_ | refine k_seq_n ?_) | ((try (conv => arg 1; simp [s0, s3, s4, s5, bz, hil, hi2l, hwi2, hg3, hg4, hg5, hmx, hc, hwi, hwm, maskR, hT2])); with_reducible refine evp ?_) | ((with_reducible refine apn ?na ?_); (case na => simp [appNames, ints, intss] <;> first | kernel_rfl | (refine ⟨?_, ?_⟩ <;> kernel_rfl))) | fail)
                refine k_lp_n (i + 1) (by omega) ⟨by omega, by omega, by simp [s0], by simp [s4], by simp, cur.set m cur[k + i], m + 1, by simp [hcu], by omega, by omega, by simp, ?_⟩
                rw [← hset]
                exact Cx.to z
            · have hil2 : ¬ (i : Int) < ((xs.length - k : Nat) : Int) := by omega
              have hmn : m < xs.length := by omega
              have hml : m ≤ xs.length := by omega
              have ee : cl1 cur = cl1 (cur.take m) ++ (cl1 (cur.drop m) ++ []) := by
                rw [List.append_nil]; simp only [cl1]; rw [← List.map_append, List.take_append_drop]
              have row := bz.1
              rw [ee] at row
              have hcl2 : (cl1 cur).length = xs.length := by simp [cl1, hcu]
              have hpl : (cl1 (cur.take m)).length = m := by simp [cl1]; omega
              have hdl : (cl1 (cur.drop m)).length = xs.length - m := by simp [cl1]; omega
              generalize hrm : xs.length - k = rm at *
              generalize hF : cl1 cur = F at *
              repeat' (first | (with_reducible first | refine stp ?_ | refine k_blk_o rfl ?_ | refine k_seq_n ?_) | ((try (conv => arg 1; simp [s0, s3, s4, s5, hil2, bz, hml, hcl2, sliceA, bnd])); with_reducible refine evp ?_) | ((with_reducible refine apn ?na ?_); (case na => simp [appNames, ints, intss] <;> first | kernel_rfl | (refine ⟨?_, ?_⟩ <;> kernel_rfl))) | fail)
              conv => arg 1; simp
              rw [clearA_at (s := 1) (z := [AV.int .i64 0]) (pre := cl1 (cur.take m)) (mid := cl1 (cur.drop m)) (post := []) (by kernel_rfl) (by simpa using row) hpl hdl (by have := bz.2.1; simp; omega)]
              refine ev2_some ?_
              have hRl : m ≤ (cl1 (cur.take m) ++ (List.replicate (xs.length - m) [AV.int .i64 0] ++ [])).length := by simp [cl1]; omega
              generalize hR : cl1 (cur.take m) ++ (List.replicate (xs.length - m) [AV.int .i64 0] ++ []) = R at *
              repeat' (first | (with_reducible first | refine stp ?_ | refine k_blk_o rfl ?_ | refine k_seq_n ?_) | ((try (conv => arg 1; simp [s0, s3, s4, s5, bz, hml, hRl, sliceA, bnd])); with_reducible refine evp ?_) | ((with_reducible refine apn ?na ?_); (case na => simp [appNames, ints, intss] <;> first | kernel_rfl | (refine ⟨?_, ?_⟩ <;> kernel_rfl))) | fail)
              refine ⟨cur.take m, List.replicate (xs.length - m) [AV.int .i64 0] ++ [], ?_, .inr ⟨by simp; omega, hnn⟩, by rw [hR]; exact Cx.to z⟩
              rw [show (cur.take m).length = m by simp; omega]
              rfl
        · skip
          repeat' (first | (with_reducible first | refine stp ?_ | refine k_blk_o rfl ?_ | refine k_seq_n ?_) | ((try (conv => arg 1; simp [s0, s3, hlt2])); with_reducible refine evp ?_) | ((with_reducible refine apn ?na ?_); (case na => simp [appNames, ints, intss] <;> first | kernel_rfl | (refine ⟨?_, ?_⟩ <;> kernel_rfl))) | fail)
          repeat (with_reducible first | refine stp ?_ | refine k_seq_n ?_)
          refine st_draw 10 (fun _ => false) (by kernel_rfl) ?_
          simp only [List.take_succ_cons, List.take_zero, List.drop_succ_cons, List.drop_zero, List.take_nil, List.drop_nil]
          repeat' (first | (with_reducible first | refine stp ?_ | refine k_blk_o rfl ?_ | refine k_seq_n ?_) | ((try (conv => arg 1; simp [s0, s3, b, hlt, hlt2, hk2, hwk, hg1, hg2, he, hw, maskR, hT])); with_reducible refine evp ?_) | ((with_reducible refine apn ?na ?_); (case na => simp [appNames, ints, intss] <;> first | kernel_rfl | (refine ⟨?_, ?_⟩ <;> kernel_rfl))) | fail)
          refine k_lp_n (k + 1) (by omega) ⟨by omega, by omega, by simp [s0], by simp, Cx.to y⟩
      · have hge : k = xs.length := by omega
        have hlt2 : ¬ (k : Int) < xs.length := by omega
        repeat' (first | (with_reducible first | refine stp ?_ | refine k_blk_o rfl ?_ | refine k_seq_n ?_) | ((try (conv => arg 1; simp [s0, s3, hlt2])); with_reducible refine evp ?_) | ((with_reducible refine apn ?na ?_); (case na => simp [appNames, ints, intss] <;> first | kernel_rfl | (refine ⟨?_, ?_⟩ <;> kernel_rfl))) | fail)
        exact ⟨xs, [], rfl, .inl rfl, by rw [List.append_nil]; exact Cx.to y⟩

theorem ascendingS (xs : List Int) (hne : xs ≠ []) (hl : xs.length ≤ 2 ^ 30) {h : Hp} {bs : Bx} {os : Ox} {n : Nm} {ver : Nat} (x : Cx h ((n, ⟨ver, 1, cl1 xs⟩) :: bs) os) :
    Sound Tryz.prog 97 [.sl n ver 0 xs.length] h fun v h' => ∃ ys sp, v = .sl n ver 0 ys.length ∧ (ys = sorted xs ∨ (ys.length < xs.length ∧ ¬ (sorted xs).Nodup)) ∧ Cx h' ((n, ⟨ver, 1, cl1 ys ++ sp⟩) :: bs) os := by
  have hnil : True := trivial
  have b := x.bxs
  simp only [Bxs] at b
  refine enter mixed MG73 Tryz.func97 rfl (by kernel_rfl) rfl ?_
  repeat' (first | (with_reducible first | refine stp ?_ | refine k_blk_o rfl ?_ | refine k_seq_n ?_) | ((try (conv => arg 1; simp [hnil])); with_reducible refine evp ?_) | fail)
  refine st_heap rfl (sortS xs hne (by omega) (sp := []) (ver := ver) (n := n) (by simp [b]) (by have := b.2.1; simp; omega)) ?_
  rintro v h' rfl
  repeat' (first | (with_reducible first | refine stp ?_ | refine k_blk_o rfl ?_ | refine k_seq_n ?_) | ((try (conv => arg 1; simp [hnil])); with_reducible refine evp ?_) | fail)
  rw [List.append_nil]
  refine st_heap rfl (compactS (sorted xs) (sorted_len xs) (by omega) (Cx.to x)) ?_
  rintro v h' ⟨ys, sp, rfl, hy, z⟩
  repeat' (first | (with_reducible first | refine stp ?_ | refine k_blk_o rfl ?_ | refine k_seq_n ?_) | ((try (conv => arg 1; simp [hnil])); with_reducible refine evp ?_) | fail)
  exact ⟨ys, sp, rfl, by rw [sorted_len] at hy; exact hy, Cx.to z⟩
end Go.Proofs.YtlmlkkkgcbpaoaaGreat.AM

namespace Go.Proofs.YtlmlkkkgcbpaoaaGreat.AM
open Go.RowKit

private def MG74 : FuncId → Mode := fun f => if f = 97 then .heap else .tree

theorem orderB_f1 {g : Graph} {l : List Int} (h : graphOk g = false) : orderB g l = false := by simp [orderB, h]
theorem orderB_f2 {g : Graph} {l : List Int} (h : ¬ l.length = g.Blocks.length) : orderB g l = false := by simp [orderB, h]
theorem orderB_f3 {g : Graph} {l : List Int} (h : ¬ l.getD 0 1 = 0) : orderB g l = false := by simp only [orderB, h]; simp
theorem ok_blocks {g : Graph} (hk : graphOk g = true) : 1 ≤ g.Blocks.length ∧ g.Blocks.length ≤ 300 := (headOk_head (by simp only [graphOk, Bool.and_eq_true] at hk; exact hk.1.1)).blocks
/-- Which are there. -/
def markOf (n : Nat) (l : List Int) : List Bool := (List.range n).map fun k : Nat => decide ((k : Int) ∈ l)
theorem markOf_len (n : Nat) (l : List Int) : (markOf n l).length = n := by simp [markOf]
theorem markOf_at {n : Nat} {l : List Int} {k : Nat} (hk : k < n) : (markOf n l)[k]'(by rw [markOf_len]; exact hk) = decide ((k : Int) ∈ l) := by simp [markOf]
theorem markOf_set {n : Nat} {l : List Int} {k : Nat} (hk : k < n) : (markOf n l).set k true = markOf n (l ++ [(k : Int)]) := by
  refine List.ext_getElem (by simp [markOf]) fun i h1 h2 => ?_
  simp only [markOf_len, List.length_set] at h1
  rw [List.getElem_set, markOf_at h1, markOf_at h1]
  by_cases e : k = i
  · subst e; simp
  · rw [if_neg e]
    have : ¬ (i : Int) = (k : Int) := by omega
    simp [this]

set_option maxHeartbeats 2000000 in
theorem specOrderOk (g : Graph) (d : g.Small) (l : List Int) (hll : l.length ≤ 2 ^ 20) : Pure Tryz.prog 49 [.agg (g.cells true), ints true l] (.bool (orderB g l)) := by
  intro T
  have hln := d.len
  have hnil : True := trivial
  have G := graphOkSpec g d.fit
  refine enter mixed MG74 Tryz.func49 rfl (by kernel_rfl) rfl ?_
  repeat' (first | (with_reducible first | refine stp ?_ | refine k_blk_o rfl ?_) | ((try (conv => arg 1; simp [Graph.cells])); with_reducible refine evp ?_) | fail)
  refine cx_k (Cx.mt.next.box_one (T := T) (i := 0) Cx.mt.off (by simp)) ?_
  intro h1 x1
  have b1 := x1.bxs
  simp only [Bxs] at b1
  cases hk : graphOk g with
  | false =>
    rw [hk] at G
    rw [orderB_f1 hk]
    repeat' (first | (with_reducible first | refine stp ?_ | refine k_blk_o rfl ?_ | refine k_seq_n ?_) | ((try (conv => arg 1; simp [b1, ltS, nm_ne, tk_ne])); with_reducible refine evp ?_) | ((with_reducible refine tcl ?_); first | ((apply tg (G)); (case e => rfl); (case d => (refine dq ?_); (repeat' (first | ((refine Da.mk ?_); first | exact dr_blocks (by simp) _ | assumption) | constructor))))) | fail)
    exact .bool _
  | true =>
    rw [hk] at G
    have hnb := ok_blocks hk
    by_cases hl : l.length = g.Blocks.length
    · have hl2 : (l.length : Int) = g.Blocks.length := by omega
      have hl0 : l[0]? = some (l[0]'(by omega)) := by simp
      have hg0 : l.getD 0 1 = l[0]'(by omega) := by simp [List.getD, hl0]
      have hlp : 0 < l.length := by omega
      by_cases h0 : l[0]'(by omega) = 0
      · have hnb3 : (g.Blocks.length : Int) ≤ 4294967296 := by omega
        repeat' (first | (with_reducible first | refine stp ?_ | refine k_blk_o rfl ?_ | refine k_seq_n ?_) | ((try (conv => arg 1; simp [b1, ints, blocks, hl, hl2, hl0, hlp, h0, hnb3, ltS, nm_ne, tk_ne])); with_reducible refine evp ?_) | ((with_reducible refine tcl ?_); first | ((apply tg (G)); (case e => rfl); (case d => (refine dq ?_); (repeat' (first | ((refine Da.mk ?_); first | exact dr_blocks (by simp) _ | assumption) | constructor))))) | fail)
        have oe : orderB g l = decide ((∀ x ∈ l, inB x 0 ((g.Blocks.length : Int) - 1) = true) ∧ l.Nodup) := by
          simp only [orderB, hk, hl, hg0, h0, decide_true, Bool.true_and]
          exact decide_eq_decide.2 (sorted_range hl)
        rw [oe]
        refine st_loop (fun (i : Nat) σ h => i ≤ l.length ∧ σ 1 = ints true l ∧ σ 5 = .sl (h1.tick + 1, 2, 0) 0 0 g.Blocks.length ∧ σ 6 = .int .i64 i ∧ (∀ x ∈ l.take i, inB x 0 ((g.Blocks.length : Int) - 1) = true) ∧ (l.take i).Nodup ∧
          ∃ L : List (List AV), L = (markOf g.Blocks.length (l.take i)).map (fun x => [.bool x]) ∧ Cx h [((h1.tick + 1, 2, 0), ⟨0, 1, L⟩)] []) (fun i => l.length - i) 0 ?init ?step
        case init =>
          have z0 : Cx h1 [] [] := x1.box_drop
          have z1 := z0.next.next.box_one (T := h1.tick + 1) (i := 2) (r := ⟨0, 1, List.replicate g.Blocks.length [.bool false]⟩) (fun n hn => by simp [nms] at hn) (by simp)
          refine ⟨Nat.zero_le _, by simp [ints], by simp, by simp, by simp, by simp, _, ?_, Cx.to z1⟩
          rw [List.take_zero]
          refine List.ext_getElem (by simp [markOf]) fun i h1 h2 => by simp [markOf]
        case step =>
          rintro i σ h ⟨hi, s1, s5, s6, hal, hnd, L, hL, x⟩
          have b := x.bxs
          simp only [Bxs] at b
          by_cases hlt : i < l.length
          · have hlt2 : (i : Int) < l.length := by omega
            have hw : IntKind.i64.wrap (i + 1) = i + 1 := wrap_id (by omega) (by omega)
            have hwl : IntKind.i64.wrap ((l.length : Int) - 1) = (l.length : Int) - 1 := wrap_id (by omega) (by omega)
            have hx : l[i]? = some l[i] := by simp
            have I := l01In l[i] 0 ((l.length : Int) - 1)
            have hmem : l[i] ∈ l := List.getElem_mem hlt
            have hLl : L.length = g.Blocks.length := by rw [hL, List.length_map, markOf_len]
            have hts := take_snoc hlt
            cases hb : inB l[i] 0 ((l.length : Int) - 1) with
            | false =>
              rw [hb] at I
              generalize hli : l[i] = li at *
              have hop : ∀ hh, l[i]'hh = li := fun _ => hli
              repeat' (first | (with_reducible first | refine stp ?_ | refine k_blk_o rfl ?_ | refine k_seq_n ?_) | ((try (conv => arg 1; simp [s1, s5, s6, ints, hlt2, hx, hlt, hop, hwl])); with_reducible refine evp ?_) | ((with_reducible refine tcl ?_); first | ((apply tg (I)); (case e => rfl); (case d => (refine dq ?_); (repeat' (first | ((refine Da.mk ?_); first | assumption) | constructor))))) | fail)
              refine dr_bool ?_
              symm
              rw [decide_eq_false_iff_not]
              rintro ⟨h1, _⟩
              have := h1 li hmem
              rw [← hl, hb] at this
              cases this
            | true =>
              rw [hb] at I
              obtain ⟨k, hk2⟩ : ∃ k : Nat, l[i] = (k : Int) := ⟨l[i].toNat, by simp [inB] at hb; omega⟩
              have hkN : k < g.Blocks.length := by rw [hk2] at hb; simp [inB] at hb; omega
              have hkN2 : (k : Int) < g.Blocks.length := by omega
              generalize hli : l[i] = li at *
              subst hk2
              have hop : ∀ hh, l[i]'hh = (k : Int) := fun _ => hli
              cases hm : decide ((k : Int) ∈ l.take i) with
              | true =>
                have hel : ∀ hh, L[k]'hh = [.bool true] := fun hh => by
                  simp only [hL, List.getElem_map, markOf_at hkN, hm]
                repeat' (first | (with_reducible first | refine stp ?_ | refine k_blk_o rfl ?_ | refine k_seq_n ?_) | ((try (conv => arg 1; simp [s1, s5, s6, ints, b, hlt2, hx, hlt, hop, hwl, hLl, hkN, hkN2, hel])); with_reducible refine evp ?_) | ((with_reducible refine tcl ?_); first | ((apply tg (I)); (case e => rfl); (case d => (refine dq ?_); (repeat' (first | ((refine Da.mk ?_); first | assumption) | constructor))))) | fail)
                refine dr_bool ?_
                symm
                rw [decide_eq_false_iff_not]
                rintro ⟨_, h2⟩
                have h3 := h2.sublist (List.take_sublist (i + 1) l)
                rw [hts] at h3
                have h4 := List.nodup_append.1 h3
                exact h4.2.2 _ (of_decide_eq_true hm) _ (by simp) rfl
              | false =>
                have hel : ∀ hh, L[k]'hh = [.bool false] := fun hh => by
                  simp only [hL, List.getElem_map, markOf_at hkN, hm]
                have hls : L.set k [.bool true] = (markOf g.Blocks.length (l.take (i + 1))).map (fun x => [.bool x]) := by
                  rw [hL, ← List.map_set (f := fun x => [AV.bool x]), markOf_set hkN, hts]
                repeat' (first | (with_reducible first | refine stp ?_ | refine k_blk_o rfl ?_ | refine k_seq_n ?_) | ((try (conv => arg 1; simp [s1, s5, s6, ints, b, hlt2, hx, hlt, hop, hwl, hLl, hkN, hkN2, hel, hw])); with_reducible refine evp ?_) | ((with_reducible refine tcl ?_); first | ((apply tg (I)); (case e => rfl); (case d => (refine dq ?_); (repeat' (first | ((refine Da.mk ?_); first | assumption) | constructor))))) | fail)
                refine k_lp_n (i + 1) (by omega) ⟨by omega, by simp [s1, ints], by simp [s5], by simp, ?_, ?_, _, hls, Cx.to x⟩
                · rw [hts]
                  intro y hy
                  rcases List.mem_append.1 hy with hy | hy
                  · exact hal y hy
                  · rw [List.mem_singleton.1 hy, ← hl]; exact hb
                · rw [hts, List.nodup_append]
                  refine ⟨hnd, by simp, fun a ha c hc e => ?_⟩
                  rw [List.mem_singleton.1 hc] at e
                  rw [e] at ha
                  exact absurd ha (of_decide_eq_false hm)
          · have hge : i = l.length := by omega
            have hlt2 : ¬ (i : Int) < l.length := by omega
            repeat' (first | (with_reducible first | refine stp ?_ | refine k_blk_o rfl ?_ | refine k_seq_n ?_) | ((try (conv => arg 1; simp [s1, s5, s6, ints, hlt2])); with_reducible refine evp ?_) | fail)
            rw [hge, List.take_length] at hal hnd
            refine dr_bool ?_
            symm
            rw [decide_eq_true_iff]
            exact ⟨hal, hnd⟩
      · rw [orderB_f3 (by rw [hg0]; exact h0)]
        repeat' (first | (with_reducible first | refine stp ?_ | refine k_blk_o rfl ?_ | refine k_seq_n ?_) | ((try (conv => arg 1; simp [b1, ints, blocks, hl, hl2, hl0, hlp, h0, ltS, nm_ne, tk_ne])); with_reducible refine evp ?_) | ((with_reducible refine tcl ?_); first | ((apply tg (G)); (case e => rfl); (case d => (refine dq ?_); (repeat' (first | ((refine Da.mk ?_); first | exact dr_blocks (by simp) _ | assumption) | constructor))))) | fail)
        exact .bool _
    · have hl2 : ¬ (l.length : Int) = g.Blocks.length := by omega
      rw [orderB_f2 hl]
      repeat' (first | (with_reducible first | refine stp ?_ | refine k_blk_o rfl ?_ | refine k_seq_n ?_) | ((try (conv => arg 1; simp [b1, ints, blocks, hl, hl2, ltS, nm_ne, tk_ne])); with_reducible refine evp ?_) | ((with_reducible refine tcl ?_); first | ((apply tg (G)); (case e => rfl); (case d => (refine dq ?_); (repeat' (first | ((refine Da.mk ?_); first | exact dr_blocks (by simp) _ | assumption) | constructor))))) | fail)
      exact .bool _
theorem dr_ints_sp {c : Bool} {rows : Nm → Option Row} {n : Nm} {ver : Nat} {l : List Int} {sp : List (List AV)} (h : rows n = some ⟨ver, 1, cl1 l ++ sp⟩) : DR c rows (.sl n ver 0 l.length) (ints c l) := by
  have := dr_flat_sl (c := c) (l := cl1 l) (sp := sp) h (fun e he x hx => by simp only [cl1, List.mem_map] at he; obtain ⟨a, _, rfl⟩ := he; simp at hx; subst hx; rfl)
  rw [show (cl1 l).length = l.length by simp [cl1]] at this
  exact this

set_option maxHeartbeats 2000000 in
theorem isOrder (g : Graph) (d : g.Small) (l : List Int) (hll : l.length ≤ 2 ^ 20) : Pure Tryz.prog 56 [.agg (g.cells true), ints true l] (.bool (orderB g l)) := by
  intro T
  have hln := d.len
  have hnil : True := trivial
  have G := isGraph g d
  refine enter mixed MG74 Tryz.func56 rfl (by kernel_rfl) rfl ?_
  repeat' (first | (with_reducible first | refine stp ?_ | refine k_blk_o rfl ?_) | ((try (conv => arg 1; simp [Graph.cells])); with_reducible refine evp ?_) | fail)
  refine cx_k (Cx.mt.next.box_one (T := T) (i := 0) Cx.mt.off (by simp)) ?_
  intro h1 x1
  have b1 := x1.bxs
  simp only [Bxs] at b1
  cases hk : graphOk g with
  | false =>
    rw [hk] at G
    rw [orderB_f1 hk]
    repeat' (first | (with_reducible first | refine stp ?_ | refine k_blk_o rfl ?_ | refine k_seq_n ?_) | ((try (conv => arg 1; simp [b1, ltS, nm_ne, tk_ne])); with_reducible refine evp ?_) | ((with_reducible refine tcl ?_); first | ((apply tg (G)); (case e => rfl); (case d => (refine dq ?_); (repeat' (first | ((refine Da.mk ?_); first | exact dr_blocks (by simp) _ | assumption) | constructor))))) | fail)
    exact .bool _
  | true =>
    rw [hk] at G
    have hnb := ok_blocks hk
    by_cases hl : l.length = g.Blocks.length
    · have hl2 : (l.length : Int) = g.Blocks.length := by omega
      have hl0 : l[0]? = some (l[0]'(by omega)) := by simp
      have hg0 : l.getD 0 1 = l[0]'(by omega) := by simp [List.getD, hl0]
      have hlp : 0 < l.length := by omega
      have hne : l ≠ [] := fun e => by rw [e] at hlp; simp at hlp
      have hll2 : l.length ≤ 4294967296 := by omega
      by_cases h0 : l[0]'(by omega) = 0
      · have oe : orderB g l = decide (sorted l = rangeI g.Blocks.length) := by simp only [orderB, hk, hl, hg0, h0, decide_true, Bool.true_and]
        have N := numbers l.length hll
        have z1 := x1.next.box_one (T := h1.tick) (i := 17) (r := ⟨0, 1, []⟩) x1.off (by simp)
        repeat' (first | (with_reducible first | refine stp ?_ | refine k_blk_o rfl ?_ | refine k_seq_n ?_) | ((try (conv => arg 1; simp [b1, ints, blocks, hl2, hl0, hlp, h0, hll2, ltS, nm_ne, tk_ne])); with_reducible refine evp ?_) | ((with_reducible refine tcl ?_); first | ((apply tg (G)); (case e => rfl); (case d => (refine dq ?_); (repeat' (first | ((refine Da.mk ?_); first | exact dr_blocks (by simp) _ | assumption) | constructor))))) | fail)
        conv => arg 1; simp
        rw [show AV.tr true (l.map fun n => [AV.int .i64 n]) = ints true l from rfl]
        repeat' (first | (with_reducible first | refine stp ?_ | refine k_blk_o rfl ?_ | refine k_seq_n ?_) | ((try (conv => arg 1; simp [b1, hll2, hlp, ltS, nm_ne, tk_ne])); with_reducible refine evp ?_) | fail)
        refine st_heap rfl (ascendingS l hne (by omega) (Cx.to z1)) ?_
        rintro v h2 ⟨ys, sp, rfl, hy, z⟩
        have bz := z.bxs
        simp only [Bxs] at bz
        have E := equalII ys (rangeI l.length) (by rcases hy with rfl | ⟨hy, _⟩; rw [sorted_len]; omega; omega)
        have er : decide (ys = rangeI l.length) = orderB g l := by
          rw [oe, ← hl]
          rcases hy with rfl | ⟨hy, hn⟩
          · rfl
          · rw [decide_eq_decide]
            constructor
            · intro e; rw [e, rangeI_len] at hy; omega
            · intro e; rw [e] at hn; exact absurd (rangeI_nodup _) hn
        rw [er] at E
        repeat' (first | (with_reducible first | refine stp ?_ | refine k_blk_o rfl ?_ | refine k_seq_n ?_) | ((try (conv => arg 1; simp [bz, ltS, nm_ne])); with_reducible refine evp ?_) | ((with_reducible refine tcl ?_); first | ((apply tg (N)); (case e => rfl); (case d => (refine dq ?_); (repeat' (first | ((refine Da.mk ?_); first | assumption) | constructor))))) | fail)
        refine st_tree rfl E (.cons (dr_ints_sp (sp := sp) (by simpa [hne] using bz.1)) (.cons (dr_ints (by simp) _) .nil)) ?_
        repeat' (first | (with_reducible first | refine stp ?_ | refine k_blk_o rfl ?_ | refine k_seq_n ?_) | ((try (conv => arg 1; simp [hnil])); with_reducible refine evp ?_) | fail)
        exact .bool _
      · rw [orderB_f3 (by rw [hg0]; exact h0)]
        repeat' (first | (with_reducible first | refine stp ?_ | refine k_blk_o rfl ?_ | refine k_seq_n ?_) | ((try (conv => arg 1; simp [b1, ints, blocks, hl2, hl0, hlp, h0, ltS, nm_ne, tk_ne])); with_reducible refine evp ?_) | ((with_reducible refine tcl ?_); first | ((apply tg (G)); (case e => rfl); (case d => (refine dq ?_); (repeat' (first | ((refine Da.mk ?_); first | exact dr_blocks (by simp) _ | assumption) | constructor))))) | fail)
        exact .bool _
    · have hl2 : ¬ (l.length : Int) = g.Blocks.length := by omega
      rw [orderB_f2 hl]
      repeat' (first | (with_reducible first | refine stp ?_ | refine k_blk_o rfl ?_ | refine k_seq_n ?_) | ((try (conv => arg 1; simp [b1, ints, blocks, hl2, ltS, nm_ne, tk_ne])); with_reducible refine evp ?_) | ((with_reducible refine tcl ?_); first | ((apply tg (G)); (case e => rfl); (case d => (refine dq ?_); (repeat' (first | ((refine Da.mk ?_); first | exact dr_blocks (by simp) _ | assumption) | constructor))))) | fail)
      exact .bool _
end Go.Proofs.YtlmlkkkgcbpaoaaGreat.AM

namespace Go.Proofs.YtlmlkkkgcbpaoaaGreat.AM
open Go.RowKit

private def MG75 : FuncId → Mode := fun f => .tree

def placeI (l : List Int) (t : Int) : Int := idxOf (fun x => decide (t = x)) l
def reB (l : List Int) (b : Block) : Block := ⟨b.Code, b.Jump, b.A, if b.Jump = 2 then b.To else placeI l b.To, if b.Jump = 1 then placeI l b.Else else b.Else⟩
def reorderR (g : Graph) (l : List Int) : Graph := if orderB g l = true then { g with Blocks := l.map fun k => reB l (blkAt g k) } else g
structure Ord (g : Graph) (l : List Int) : Prop where
  ok : graphOk g = true
  len : l.length = g.Blocks.length
  fst : l.getD 0 1 = 0
  perm : l.Perm (rangeI g.Blocks.length)
theorem orderB_ord {g : Graph} {l : List Int} (h : orderB g l = true) : Ord g l := by
  simp only [orderB, Bool.and_eq_true, decide_eq_true_eq] at h
  obtain ⟨h1, h2, h3, h4⟩ := h
  exact ⟨h1, h2, h3, h4 ▸ (sorted_perm l).symm⟩
theorem Ord.at {g : Graph} {l : List Int} (o : Ord g l) {i : Nat} (hi : i < l.length) : ∃ k : Nat, l[i] = (k : Int) ∧ k < g.Blocks.length := by
  have h := o.perm.subset (List.getElem_mem hi)
  simp only [rangeI, List.mem_map, List.mem_range] at h
  obtain ⟨k, h1, h2⟩ := h
  exact ⟨k, h2.symm, h1⟩
theorem Ord.nodup {g : Graph} {l : List Int} (o : Ord g l) : l.Nodup := o.perm.symm.nodup_iff.1 (rangeI_nodup _)
theorem placeI_at {l : List Int} (hn : l.Nodup) {i : Nat} (hi : i < l.length) : placeI l l[i] = i := by
  refine idxOf_hit hi (fun j hj hlt => ?_) (by simp)
  have := (List.pairwise_iff_getElem.1 hn) j i hj hi hlt
  simpa using fun e => this e.symm
theorem rangeI_map (g : Graph) {α : Type} (f : Block → α) : (rangeI g.Blocks.length).map (fun k => f (blkAt g k)) = g.Blocks.map f := by
  refine List.ext_getElem (by simp [rangeI]) fun i h1 h2 => ?_
  simp only [List.length_map] at h2
  simp [rangeI, blkAt, h2]
theorem reorderR_small (g : Graph) (d : g.Small) (l : List Int) : (reorderR g l).Small := by
  unfold reorderR
  split
  · rename_i h
    have o := orderB_ord h
    refine ⟨d.sizes, ?_⟩
    have hd := d.blocks
    unfold wtBS at hd ⊢
    rw [gsum_all] at hd ⊢
    have e : ((l.map fun k => reB l (blkAt g k)).map wtB) = l.map fun k => wtB (blkAt g k) := by rw [List.map_map]; rfl
    rw [e, List.length_map, o.len, (o.perm.map fun k => wtB (blkAt g k)).sum_nat, rangeI_map g wtB]
    exact hd
  · exact d
theorem l03Zeros (n : Nat) (hn : n ≤ 2 ^ 20) : FreshW Tryz.prog 50 [.int .i64 n] (fun b => ints b (zeros n)) := by
  intro T
  have hnil : True := trivial
  refine enter mixed MG75 Tryz.func50 rfl (by kernel_rfl) rfl ?_
  repeat' (first | (with_reducible first | refine stp ?_ | refine k_blk_o rfl ?_ | refine k_seq_n ?_) | ((try (conv => arg 1; simp [hnil])); with_reducible refine evp ?_) | fail)
  refine st_loop (fun (i : Nat) σ h => i ≤ n ∧ σ 0 = .int .i64 n ∧ σ 3 = .sl (T + 1, 0, 0) i 0 i ∧ σ 4 = .int .i64 i ∧ Cx h [((T + 1, 0, 0), ⟨i, 1, cl1 (zeros i)⟩)] []) (fun i => n - i) 0 ?init ?step
  case init =>
    have x0 := Cx.mt (T := T).next.next.box_one (T := T + 1) (i := 0) (r := ⟨0, 1, []⟩) (fun n hn => by simp [nms] at hn) (by simp)
    exact ⟨Nat.zero_le _, by simp, by simp, by simp, Cx.to x0⟩
  case step =>
    rintro i σ h ⟨hi, s0, s3, s4, x⟩
    have b := x.bxs
    simp only [Bxs] at b
    have hw : IntKind.i64.wrap (i + 1) = i + 1 := wrap_id (by omega) (by omega)
    by_cases hlt : i < n
    · have hlt2 : (i : Int) < n := by omega
      repeat' (first | (with_reducible first | refine stp ?_ | refine k_blk_o rfl ?_ | refine k_seq_n ?_) | ((try (conv => arg 1; simp [s0, s3, s4, b, hlt2, ltS, nm_ne])); with_reducible refine evp ?_) | fail)
      conv => arg 1; simp
      rw [appendA_snoc (s := 1) (l := cl1 (zeros i)) (e := [.int .i64 0]) (by kernel_rfl) ?hr (by simp [cl1, zeros]) ?hk rfl (by omega) ?hm]
      case hr => simp [b, nm_ne, ltS]
      case hk => simp
      case hm => simp [b, ltS]
      refine ev2_some ?_
      repeat' (first | (with_reducible first | refine stp ?_ | refine k_blk_o rfl ?_ | refine k_seq_n ?_) | ((try (conv => arg 1; simp [s0, s3, s4, hw])); with_reducible refine evp ?_) | fail)
      refine k_lp_n (i + 1) (by omega) ⟨by omega, by simp [s0], by simp, by simp, ?_⟩
      rw [zeros_succ, show cl1 (zeros i ++ [0]) = cl1 (zeros i) ++ [[.int .i64 0]] by simp [cl1]]
      exact Cx.to x
    · have hge : i = n := by omega
      have hlt2 : ¬ (i : Int) < n := by omega
      subst hge
      repeat' (first | (with_reducible first | refine stp ?_ | refine k_blk_o rfl ?_ | refine k_seq_n ?_) | ((try (conv => arg 1; simp [s0, s3, s4, hlt2])); with_reducible refine evp ?_) | fail)
      have hzl : (zeros i).length = i := by simp [zeros]
      have z := Cx.close_ints (ver := i) (pre := []) (sp := []) (xs := zeros i) (k := (T + 1, 0, 0)) (bs := []) (os := []) (by simpa [ir] using x) ⟨fun e he => by (cases he), fun e he => by (cases he), fun i e j y he => by simp at he, fun i e j y he => by simp at he⟩
      rw [hzl] at z
      refine fin_own (os := []) (ns := [(T + 1, 0, 0)]) (bs := ?bs1) ?y1
      case y1 => exact Cx.to z
end Go.Proofs.YtlmlkkkgcbpaoaaGreat.AM

namespace Go.Proofs.YtlmlkkkgcbpaoaaGreat.AM
open Go.RowKit

/-- A block with its slice of steps, and the rows that it owns. -/
abbrev OB := AV × Block × List Nm
def OB.cells (p : OB) : List AV := [p.1, .int .i64 p.2.1.Jump, .int .i64 p.2.1.A, .int .i64 p.2.1.To, .int .i64 p.2.1.Else]
def OB.own (p : OB) : AV × (Bool → AV) × List Nm := (p.1, (fun b => instrs b p.2.1.Code), p.2.2)
theorem Cx.join_blocks {h : Hp} {bs : Bx} : ∀ {L : List OB} {os : Ox}, Cx h bs (L.map OB.own ++ os) →
    ∃ ns, Cx h bs ((.agg (L.map OB.cells).flatten, (fun b => .agg ((L.map fun p => p.2.1).map (Block.cells b)).flatten), ns) :: os)
  | [], os, x => ⟨[], x.agg_nil⟩
  | p :: L, os, x => by
    have x1 : Cx h bs (L.map OB.own ++ (p.own :: os)) := x.perm (List.perm_middle.symm)
    obtain ⟨ns, x2⟩ := Cx.join_blocks x1
    have x3 := (x2.perm (List.Perm.swap _ _ _)).block_join (c := p.2.1)
    have x4 := (x3.perm (List.Perm.swap _ _ _)).agg_app
    exact ⟨_, x4⟩
theorem Cx.split_blocks {h : Hp} {bs : Bx} : ∀ {ys : List Block} {es : List (List AV)} {os : Ox} {ns : List Nm}, es.length = ys.length → (∀ e ∈ es, e.length = 5) →
    Cx h bs ((.agg es.flatten, (fun b => .agg (ys.map (Block.cells b)).flatten), ns) :: os) →
    ∃ L : List OB, (L.map fun p => p.2.1) = ys ∧ L.map OB.cells = es ∧ (∀ p ∈ L, p.1.one = true ∧ p.1.stored = true ∧ p.1.cells = [p.1]) ∧ Cx h bs (L.map OB.own ++ os)
  | [], es, os, ns, hl, h5, x => by
    have : es = [] := List.eq_nil_of_length_eq_zero (by simpa using hl)
    subst this
    exact ⟨[], rfl, rfl, fun p hp => by (cases hp), x.drop⟩
  | y :: ys, [], os, ns, hl, h5, x => by simp at hl
  | y :: ys, e :: es, os, ns, hl, h5, x => by
    have he := h5 e (by simp)
    have x0 : Cx h bs ((.agg (e ++ es.flatten), (fun b => .agg (y.cells b ++ (ys.map (Block.cells b)).flatten)), ns) :: os) := by simpa using x
    obtain ⟨m1, m2, _, x1⟩ := Cx.agg_split (t1 := fun b => y.cells b) (t2 := fun b => (ys.map (Block.cells b)).flatten) (fun b => by rw [block_len, he]) x0
    obtain ⟨w, ew, x2⟩ := Cx.block_split x1.rot1
    have q := own_one' (own_of (x2.o0 true) rfl)
    obtain ⟨L, e1, e2, e3, x3⟩ := Cx.split_blocks (by simpa using hl) (fun e he => h5 e (by simp [he])) (x2.perm (List.Perm.swap _ _ _))
    refine ⟨(w, y, m1) :: L, by simp [e1], by simp [e2, ew, OB.cells], fun p hp => ?_, ?_⟩
    · rcases List.mem_cons.1 hp with rfl | hp
      · exact q
      · exact e3 p hp
    · exact x3.perm List.perm_middle
end Go.Proofs.YtlmlkkkgcbpaoaaGreat.AM
