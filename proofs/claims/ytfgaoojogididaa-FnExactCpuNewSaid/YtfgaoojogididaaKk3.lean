/- Lemmas: an abstract machine over named rows, and what single functions compute (parts W9, W10, V0, W11, W12, W13, W14, W15, W16, W17, W18, W19, W20, W21, W22, W30). -/
import Derived.Test.YtfgaoojogididaaKk2
/-
  An image that is right: the reference's.
-/
set_option linter.unusedVariables false
set_option linter.unusedSimpArgs false
set_option maxRecDepth 4000
namespace Go.Proofs.Ytfgaoojogididaa.AM
open Go.RowKit

private def MW9 : FuncId → Mode := fun f => .tree

theorem specImageOk (m : Image) (hs : m.Sizes.length ≤ 2 ^ 62) (hcd : m.Code.length ≤ 2 ^ 62) : Pure Try.prog 54 [.agg (m.cells true)] (.bool (imageOk m)) := by
  intro T
  refine enter mixed MW9 Try.func54 rfl (by kernel_rfl) rfl ?_
  repeat' (first
   | with_reducible refine stp ?_
   | with_reducible refine k_blk_o rfl ?_
   | with_reducible refine k_seq_n ?_
   | ((try (conv => arg 1; simp [Image.cells])); with_reducible refine evp ?_)
   | ((with_reducible refine apn ?na ?_); (case na => simp [appNames, ints, intss] <;> first | kernel_rfl | (refine ⟨?_, ?_⟩ <;> kernel_rfl)))
   | fail)
  refine st_loop (fun (i : Nat) σ h => i ≤ m.Sizes.length ∧ σ 1 = .ptr (T, 0, 0) 0 0 0 ∧ σ 3 = .int .i64 i ∧ T < h.tick ∧ h.rows (T, 0, 0) = some ⟨0, 4, [[ints true m.Sizes, .int .i64 m.Params, .int .i64 m.Slots, words true m.Code]]⟩ ∧ ∀ j (hj : j < m.Sizes.length), j < i → inB m.Sizes[j] 1 16 = true) (fun i => m.Sizes.length - i) 0 ?init ?step
  case init =>
    simp
  case step =>
    rintro i σ h ⟨hi, h1, h3, ht, hr, hall⟩
    repeat' (first
     | with_reducible refine stp ?_
     | with_reducible refine k_blk_o rfl ?_
     | with_reducible refine k_seq_n ?_
     | ((try (conv => arg 1; simp [h1, h3, hr])); with_reducible refine evp ?_)
     | ((with_reducible refine apn ?na ?_); (case na => simp [appNames, ints, intss] <;> first | kernel_rfl | (refine ⟨?_, ?_⟩ <;> kernel_rfl)))
     | fail)
    (try with_reducible refine st_if ?_)
    (try (conv => arg 1; simp [h1]))
    (try with_reducible refine at_mk ?_)
    refine ⟨fun hb => ?_, fun hb => ?_⟩
    · have hlt : i < m.Sizes.length := by simpa using hb
      have hx : m.Sizes[i]? = some (m.Sizes[i]) := by simp
      have hw : IntKind.i64.wrap (i + 1) = i + 1 := wrap_id (by omega) (by omega)
      repeat' (first
       | with_reducible refine stp ?_
       | with_reducible refine k_blk_o rfl ?_
       | with_reducible refine k_seq_n ?_
       | ((try (conv => arg 1; simp [ints, h1, h3, hr, hx])); with_reducible refine evp ?_)
       | ((with_reducible refine apn ?na ?_); (case na => simp [appNames, ints, intss] <;> first | kernel_rfl | (refine ⟨?_, ?_⟩ <;> kernel_rfl)))
       | fail)
      refine st_tree rfl (l01In _ _ _) (.cons (.int _ _) (.cons (.int _ _) (.cons (.int _ _) .nil))) ?_
      repeat' (first
       | with_reducible refine stp ?_
       | with_reducible refine k_blk_o rfl ?_
       | with_reducible refine k_seq_n ?_
       | ((try (conv => arg 1; simp [h1, h3, hr])); with_reducible refine evp ?_)
       | ((with_reducible refine apn ?na ?_); (case na => simp [appNames, ints, intss] <;> first | kernel_rfl | (refine ⟨?_, ?_⟩ <;> kernel_rfl)))
       | fail)
      (try with_reducible refine st_if ?_)
      (try (conv => arg 1; simp [h1]))
      (try with_reducible refine at_mk ?_)
      refine ⟨fun hb => ?_, fun hb => ?_⟩
      · skip
        repeat' (first
         | with_reducible refine stp ?_
         | with_reducible refine k_blk_o rfl ?_
         | with_reducible refine k_seq_n ?_
         | ((try (conv => arg 1; simp [h1])); with_reducible refine evp ?_)
         | ((with_reducible refine apn ?na ?_); (case na => simp [appNames, ints, intss] <;> first | kernel_rfl | (refine ⟨?_, ?_⟩ <;> kernel_rfl)))
         | fail)
        refine dr_bool ?_
        have e2 : (m.Sizes.all fun n => inB n 1 16) = false := by
          rw [List.all_eq_false]
          exact ⟨m.Sizes[i], List.getElem_mem hlt, by simpa using hb⟩
        simp only [imageOk, e2, Bool.and_false, Bool.false_and]
      · have hgood : inB m.Sizes[i] 1 16 = true := by simpa using hb
        repeat' (first
         | with_reducible refine stp ?_
         | with_reducible refine k_blk_o rfl ?_
         | with_reducible refine k_seq_n ?_
         | ((try (conv => arg 1; simp [h1, h3, hr, hw])); with_reducible refine evp ?_)
         | ((with_reducible refine apn ?na ?_); (case na => simp [appNames, ints, intss] <;> first | kernel_rfl | (refine ⟨?_, ?_⟩ <;> kernel_rfl)))
         | fail)
        refine k_lp_n (i + 1) (by omega) ⟨by omega, by simp [h1], by simp [h3], by simp; omega, by simp [hr], fun j hj hji => ?_⟩
        by_cases e : j = i
        · subst e; exact hgood
        · exact hall j hj (by omega)
    · have hge : i = m.Sizes.length := by simp at hb; omega
      have e2 : (m.Sizes.all fun n => inB n 1 16) = true := by
        rw [List.all_eq_true]
        intro x hx
        obtain ⟨j, hj, rfl⟩ := List.getElem_of_mem hx
        exact hall j hj (by omega)
      repeat' (first
        | (with_reducible first | refine st_seq ?_ | refine st_reg ?_ | refine st_block ?_ | refine st_nil ?_ | refine st_skip ?_ | refine st_ret ?_ | refine st_exit ?_ | refine fr_nil ?_ | refine k_seq_n ?_ | refine k_seq_r ?_ | refine k_seq_e ?_ | refine k_blk_n ?_ | refine k_blk_r ?_ | refine k_blk_s ?_ | refine k_blk_o rfl ?_ | refine k_fn_r ?_ | refine k_fn_n ?_ | refine k_lp_r ?_ | refine k_lp_e ?_)
        | ((with_reducible first | refine st_move ?_ | refine st_asg ?_ | refine st_c ?_ | refine fr_c ?_); (try (conv => arg 1; simp [h1, h3, hr])); (with_reducible refine at_mk ?_))
        | ((with_reducible first | refine st_g ?_ | refine fr_g ?_); (try (conv => arg 1; simp [h1, h3, hr])); (with_reducible refine at_mk ?_); with_reducible first | refine gd_tt ?_ | refine gd_ff ?_ | refine gd_tf ?_ | refine gd_ft ?_ | refine gd_no ?_)
        | ((with_reducible first | refine st_gm ?_ | refine fr_gm ?_); (try (conv => arg 1; simp [h1, h3, hr])); (with_reducible refine at_mk ?_); (with_reducible first | refine gm_bool ?_ | refine gm_gv ?_); refine ⟨_, (by intro hc; first | ((try simp only [Bool.and_eq_true] at hc); (try (conv => lhs; simp [hc, h1, h3, hr])); first | done | exact rfl) | ((try simp [gq] at hc); (try (conv => lhs; simp [gq, hc, h1, h3, hr])); first | done | exact rfl)), ?_⟩)
        | ((with_reducible refine st_gmc ?_); (try (conv => arg 1; simp [h1, h3, hr])); (with_reducible refine at_mk ?_); (with_reducible first | refine gm_bool ?_ | refine gm_gv ?_); refine ⟨_, _, _, (by intro hc; first | ((try simp only [Bool.and_eq_true] at hc); (try (conv => lhs; simp [hc, h1, h3, hr])); first | done | exact rfl) | ((try simp [gq] at hc); (try (conv => lhs; simp [gq, hc, h1, h3, hr])); first | done | exact rfl)), rfl, l01In _ _ _, (by intro hc; (try simp at hc); (repeat' (first | exact DRs.nil | refine DRs.cons ?_ ?_ | exact .int _ _ | exact .bool _ | exact .str _ | exact .nilsl | exact .nilp | exact dr_ints (by simp) _ | exact dr_intss (by simp) _ | refine dr_agg ?_ | refine dr_fn ?_ | refine dr_tptr' (by simp) ?_ | assumption))), ?_⟩)
        | ((with_reducible refine fr_gmc ?_); (try (conv => arg 1; simp [h1, h3, hr])); (with_reducible refine at_mk ?_); (with_reducible first | refine gm_bool ?_ | refine gm_gv ?_); refine ⟨_, _, _, (by intro hc; first | ((try simp only [Bool.and_eq_true] at hc); (try (conv => lhs; simp [hc, h1, h3, hr])); first | done | exact rfl) | ((try simp [gq] at hc); (try (conv => lhs; simp [gq, hc, h1, h3, hr])); first | done | exact rfl)), l01In _ _ _, (by intro hc; (try simp at hc); (repeat' (first | exact DRs.nil | refine DRs.cons ?_ ?_ | exact .int _ _ | exact .bool _ | exact .str _ | exact .nilsl | exact .nilp | exact dr_ints (by simp) _ | exact dr_intss (by simp) _ | refine dr_agg ?_ | refine dr_fn ?_ | refine dr_tptr' (by simp) ?_ | assumption))), ?_⟩)
        | ((with_reducible refine st_gmv ?_); (try (conv => arg 1; simp [h1, h3, hr])); (with_reducible refine at_mk ?_); (with_reducible first | refine gm_bool ?_ | refine gm_gv ?_); refine ⟨_, _, _, _, _, (by intro hc; first | ((try simp only [Bool.and_eq_true] at hc); (try (conv => lhs; simp [hc, h1, h3, hr])); first | done | exact rfl) | ((try simp [gq] at hc); (try (conv => lhs; simp [gq, hc, h1, h3, hr])); first | done | exact rfl)), (by intro hc; first | ((try simp only [Bool.and_eq_true] at hc); (try (conv => lhs; simp [hc, h1, h3, hr])); first | done | exact rfl) | ((try simp [gq] at hc); (try (conv => lhs; simp [gq, hc, h1, h3, hr])); first | done | exact rfl)), rfl, l01In _ _ _, (by intro hc; (try simp at hc); (repeat' (first | exact DRs.nil | refine DRs.cons ?_ ?_ | exact .int _ _ | exact .bool _ | exact .str _ | exact .nilsl | exact .nilp | exact dr_ints (by simp) _ | exact dr_intss (by simp) _ | refine dr_agg ?_ | refine dr_fn ?_ | refine dr_tptr' (by simp) ?_ | assumption))), ?_⟩)
        | ((with_reducible refine st_m rfl ?_); (try (conv => arg 1; simp [h1, h3, hr])); (with_reducible refine ev2_some ?_))
        | ((with_reducible refine fr_n rfl ?_); (try (conv => arg 1; simp [h1, h3, hr])); (with_reducible refine evn_some ?_))
        | ((with_reducible first | refine st_cv ?_ | refine fr_cv ?_); (try (conv => arg 1; simp [h1, h3, hr])); (with_reducible refine at_mk ?_); (with_reducible refine fn_mk ?_); (try (conv => arg 1; simp [h1, h3, hr])); (with_reducible refine at_mk ?_))
        | ((with_reducible refine fr_a ?_); (try (conv => arg 1; simp [h1, h3, hr])); (with_reducible refine at_mk ?_); (try (conv => arg 1; simp [h1, h3, hr])); (with_reducible refine at_mk ?_); refine ⟨?names, ?_⟩; (case names => (simp [appNames, ints, intss] <;> first | kernel_rfl | (refine ⟨?_, ?_⟩ <;> kernel_rfl))); (try (conv => arg 1; simp [h1, h3, hr])); (with_reducible refine ev2_some ?_))
        | ((with_reducible first | refine st_q ?_ | refine fr_q ?_ | refine st_res ?_); (try (conv => arg 1; simp [h1, h3, hr])); (with_reducible refine ev_some ?_))
        | ((with_reducible refine st_if ?_); (try (conv => arg 1; simp [h1, h3, hr])); (with_reducible refine at_mk ?_); with_reducible first | refine br_t ?_ | refine br_f ?_)
        | ((with_reducible refine ct_id ?_); refine st_tree rfl (l01In _ _ _) (by (repeat' (first | exact DRs.nil | refine DRs.cons ?_ ?_ | exact .int _ _ | exact .bool _ | exact .str _ | exact .nilsl | exact .nilp | exact dr_ints (by simp) _ | exact dr_intss (by simp) _ | refine dr_agg ?_ | refine dr_fn ?_ | refine dr_tptr' (by simp) ?_ | assumption))) ?_)
        | ((with_reducible refine tw_id ?_); refine treeW_pure (l01In _ _ _) (by (repeat' (first | exact DRs.nil | refine DRs.cons ?_ ?_ | exact .int _ _ | exact .bool _ | exact .str _ | exact .nilsl | exact .nilp | exact dr_ints (by simp) _ | exact dr_intss (by simp) _ | refine dr_agg ?_ | refine dr_fn ?_ | refine dr_tptr' (by simp) ?_ | assumption))) ?_))
      (try with_reducible refine st_if ?_)
      (try (conv => arg 1; simp [h1]))
      (try with_reducible refine at_mk ?_)
      refine ⟨fun hb => ?_, fun hb => ?_⟩
      · skip
        repeat' (first
         | with_reducible refine stp ?_
         | with_reducible refine k_blk_o rfl ?_
         | with_reducible refine k_seq_n ?_
         | ((try (conv => arg 1; simp [h1])); with_reducible refine evp ?_)
         | ((with_reducible refine apn ?na ?_); (case na => simp [appNames, ints, intss] <;> first | kernel_rfl | (refine ⟨?_, ?_⟩ <;> kernel_rfl)))
         | fail)
        refine dr_bool ?_
        simp only [Bool.or_eq_true, Bool.not_eq_true'] at hb
        rcases hb with ((h | h) | h) | h <;> simp only [imageOk, h, Bool.false_and, Bool.and_false]
      · simp at hb
        obtain ⟨⟨⟨c1, c3⟩, c4⟩, c5⟩ := hb
        repeat' (first
         | with_reducible refine stp ?_
         | with_reducible refine k_blk_o rfl ?_
         | with_reducible refine k_seq_n ?_
         | ((try (conv => arg 1; simp [h1])); with_reducible refine evp ?_)
         | ((with_reducible refine apn ?na ?_); (case na => simp [appNames, ints, intss] <;> first | kernel_rfl | (refine ⟨?_, ?_⟩ <;> kernel_rfl)))
         | fail)
        refine st_loop (fun (i : Nat) σ h => i ≤ m.Code.length ∧ σ 1 = .ptr (T, 0, 0) 0 0 0 ∧ σ 4 = .int .i64 m.Code.length ∧ σ 5 = .int .i64 i ∧ T < h.tick ∧ h.rows (T, 0, 0) = some ⟨0, 4, [[ints true m.Sizes, .int .i64 m.Params, .int .i64 m.Slots, words true m.Code]]⟩ ∧ ∀ j (hj : j < m.Code.length), j < i → wordOk m m.Code[j] = true) (fun i => m.Code.length - i) 0 ?init2 ?step2
        case init2 =>
          simp [h1, hr]
          omega
        case step2 =>
          clear hi h1 h3 ht hr hall hb hge h σ i
          rintro i σ h ⟨hi, h1, h4, h5, ht, hr, hall⟩
          repeat' (first
           | with_reducible refine stp ?_
           | with_reducible refine k_blk_o rfl ?_
           | with_reducible refine k_seq_n ?_
           | ((try (conv => arg 1; simp [h1, h4, h5, hr])); with_reducible refine evp ?_)
           | ((with_reducible refine apn ?na ?_); (case na => simp [appNames, ints, intss] <;> first | kernel_rfl | (refine ⟨?_, ?_⟩ <;> kernel_rfl)))
           | fail)
          (try with_reducible refine st_if ?_)
          (try (conv => arg 1; simp [h1]))
          (try with_reducible refine at_mk ?_)
          refine ⟨fun hb => ?_, fun hb => ?_⟩
          · have hlt : i < m.Code.length := by simpa using hb
            have hx : m.Code[i]? = some (m.Code[i]) := by simp
            have hlen : (m.Code[i]).cells.length = 5 := rfl
            have hw : IntKind.i64.wrap (i + 1) = i + 1 := wrap_id (by omega) (by omega)
            have htn : ¬ T = h.tick + 1 := by omega
            repeat' (first
             | with_reducible refine stp ?_
             | with_reducible refine k_blk_o rfl ?_
             | with_reducible refine k_seq_n ?_
             | ((try (conv => arg 1; simp [h1, h5, hr, hx])); with_reducible refine evp ?_)
             | ((with_reducible refine apn ?na ?_); (case na => simp [appNames, ints, intss] <;> first | kernel_rfl | (refine ⟨?_, ?_⟩ <;> kernel_rfl)))
             | fail)
            repeat (with_reducible first | refine stp ?_ | refine k_seq_n ?_)
            refine st_draw 8 (fun _ => false) (by kernel_rfl) ?_
            simp only [List.take_succ_cons, List.take_zero, List.drop_succ_cons, List.drop_zero, List.take_nil, List.drop_nil]
            repeat' (first
             | with_reducible refine stp ?_
             | with_reducible refine k_blk_o rfl ?_
             | with_reducible refine k_seq_n ?_
             | ((try (conv => arg 1; simp [words, h1, h5, hr, hx, hlen, htn, Word.cells])); with_reducible refine evp ?_)
             | ((with_reducible refine apn ?na ?_); (case na => simp [appNames, ints, intss] <;> first | kernel_rfl | (refine ⟨?_, ?_⟩ <;> kernel_rfl)))
             | fail)
            refine treeW_pure (l13WordOk m m.Code[i]) (.cons (dr_agg (drs_image m (fun h => h))) (.cons (dr_agg (drs_word _)) .nil)) ?_
            repeat' (first
             | with_reducible refine stp ?_
             | with_reducible refine k_blk_o rfl ?_
             | with_reducible refine k_seq_n ?_
             | ((try (conv => arg 1; simp [h1, h5, hr])); with_reducible refine evp ?_)
             | ((with_reducible refine apn ?na ?_); (case na => simp [appNames, ints, intss] <;> first | kernel_rfl | (refine ⟨?_, ?_⟩ <;> kernel_rfl)))
             | fail)
            (try with_reducible refine st_if ?_)
            (try (conv => arg 1; simp [h1]))
            (try with_reducible refine at_mk ?_)
            refine ⟨fun hb => ?_, fun hb => ?_⟩
            · skip
              repeat' (first
               | with_reducible refine stp ?_
               | with_reducible refine k_blk_o rfl ?_
               | with_reducible refine k_seq_n ?_
               | ((try (conv => arg 1; simp [h1])); with_reducible refine evp ?_)
               | ((with_reducible refine apn ?na ?_); (case na => simp [appNames, ints, intss] <;> first | kernel_rfl | (refine ⟨?_, ?_⟩ <;> kernel_rfl)))
               | fail)
              refine dr_bool ?_
              have e3 : m.Code.all (wordOk m) = false := by
                rw [List.all_eq_false]
                exact ⟨m.Code[i], List.getElem_mem hlt, by simpa using hb⟩
              simp only [imageOk, e3, Bool.and_false, Bool.false_and]
            · have hgood : wordOk m m.Code[i] = true := by simpa using hb
              repeat' (first
               | with_reducible refine stp ?_
               | with_reducible refine k_blk_o rfl ?_
               | with_reducible refine k_seq_n ?_
               | ((try (conv => arg 1; simp [h1, h5, hr, hw])); with_reducible refine evp ?_)
               | ((with_reducible refine apn ?na ?_); (case na => simp [appNames, ints, intss] <;> first | kernel_rfl | (refine ⟨?_, ?_⟩ <;> kernel_rfl)))
               | fail)
              refine k_lp_n (i + 1) (by omega) ⟨by omega, by simp [h1], by simp [h4], by simp [h5], by simp; omega, by simp [hr], fun j hj hji => ?_⟩
              by_cases e : j = i
              · subst e; exact hgood
              · exact hall j hj (by omega)
          · have hge : i = m.Code.length := by simp at hb; omega
            have e3 : m.Code.all (wordOk m) = true := by
              rw [List.all_eq_true]
              intro x hx
              obtain ⟨j, hj, rfl⟩ := List.getElem_of_mem hx
              exact hall j hj (by omega)
            obtain ⟨k, hk⟩ : ∃ k, m.Code.length = k + 1 := ⟨m.Code.length - 1, by simp [inB] at c5; omega⟩
            have hkl : k < m.Code.length := by omega
            obtain ⟨w, hx⟩ : ∃ w, m.Code[k]? = some w := ⟨m.Code[k], by simp⟩
            have hlast : m.Code.getLast? = some w := by rw [List.getLast?_eq_getElem?, hk]; exact hx
            have hw : IntKind.i64.wrap ((m.Code.length : Int) - 1) = (k : Int) := by rw [hk, wrap_id (by omega) (by omega)]; omega
            repeat' (first
              | (with_reducible first | refine st_seq ?_ | refine st_reg ?_ | refine st_block ?_ | refine st_nil ?_ | refine st_skip ?_ | refine st_ret ?_ | refine st_exit ?_ | refine fr_nil ?_ | refine k_seq_n ?_ | refine k_seq_r ?_ | refine k_seq_e ?_ | refine k_blk_n ?_ | refine k_blk_r ?_ | refine k_blk_s ?_ | refine k_blk_o rfl ?_ | refine k_fn_r ?_ | refine k_fn_n ?_ | refine k_lp_r ?_ | refine k_lp_e ?_)
              | ((with_reducible first | refine st_move ?_ | refine st_asg ?_ | refine st_c ?_ | refine fr_c ?_); (try (conv => arg 1; simp [h1, h4, h5, hr, hw, hx, words, Word.cells])); (with_reducible refine at_mk ?_))
              | ((with_reducible first | refine st_g ?_ | refine fr_g ?_); (try (conv => arg 1; simp [h1, h4, h5, hr, hw, hx, words, Word.cells])); (with_reducible refine at_mk ?_); with_reducible first | refine gd_tt ?_ | refine gd_ff ?_ | refine gd_tf ?_ | refine gd_ft ?_ | refine gd_no ?_)
              | ((with_reducible first | refine st_gm ?_ | refine fr_gm ?_); (try (conv => arg 1; simp [h1, h4, h5, hr, hw, hx, words, Word.cells])); (with_reducible refine at_mk ?_); (with_reducible first | refine gm_bool ?_ | refine gm_gv ?_); refine ⟨_, (by intro hc; first | ((try simp only [Bool.and_eq_true] at hc); (try (conv => lhs; simp [hc, h1, h4, h5, hr, hw, hx, words, Word.cells])); first | done | exact rfl) | ((try simp [gq] at hc); (try (conv => lhs; simp [gq, hc, h1, h4, h5, hr, hw, hx, words, Word.cells])); first | done | exact rfl)), ?_⟩)
              | ((with_reducible refine st_m rfl ?_); (try (conv => arg 1; simp [h1, h4, h5, hr, hw, hx, words, Word.cells])); (with_reducible refine ev2_some ?_))
              | ((with_reducible refine fr_n rfl ?_); (try (conv => arg 1; simp [h1, h4, h5, hr, hw, hx, words, Word.cells])); (with_reducible refine evn_some ?_))
              | ((with_reducible first | refine st_cv ?_ | refine fr_cv ?_); (try (conv => arg 1; simp [h1, h4, h5, hr, hw, hx, words, Word.cells])); (with_reducible refine at_mk ?_); (with_reducible refine fn_mk ?_); (try (conv => arg 1; simp [h1, h4, h5, hr, hw, hx, words, Word.cells])); (with_reducible refine at_mk ?_))
              | ((with_reducible refine fr_a ?_); (try (conv => arg 1; simp [h1, h4, h5, hr, hw, hx, words, Word.cells])); (with_reducible refine at_mk ?_); (try (conv => arg 1; simp [h1, h4, h5, hr, hw, hx, words, Word.cells])); (with_reducible refine at_mk ?_); refine ⟨?names, ?_⟩; (case names => (simp [appNames, ints, intss] <;> first | kernel_rfl | (refine ⟨?_, ?_⟩ <;> kernel_rfl))); (try (conv => arg 1; simp [h1, h4, h5, hr, hw, hx, words, Word.cells])); (with_reducible refine ev2_some ?_))
              | ((with_reducible first | refine st_q ?_ | refine fr_q ?_ | refine st_res ?_); (try (conv => arg 1; simp [h1, h4, h5, hr, hw, hx, words, Word.cells])); (with_reducible refine ev_some ?_))
              | ((with_reducible refine st_if ?_); (try (conv => arg 1; simp [h1, h4, h5, hr, hw, hx, words, Word.cells])); (with_reducible refine at_mk ?_); with_reducible first | refine br_t ?_ | refine br_f ?_))
            refine dr_bool ?_
            simp only [imageOk, c1, e2, e3, c3, c4, c5, Bool.true_and, Bool.and_true, lastOk, hlast]
end Go.Proofs.Ytfgaoojogididaa.AM

/-
  A stepper's state that is right: the reference's and the program's.
-/
set_option linter.unusedVariables false
set_option linter.unusedSimpArgs false
set_option maxRecDepth 4000
namespace Go.Proofs.Ytfgaoojogididaa.AM
open Go.RowKit

private def MW10 : FuncId → Mode := fun f => .tree

def lens (a : List (List Int)) : List Int := a.map fun x => (x.length : Int)
def headBad (m : Image) (c : Cpu) : Bool := !imageOk m || !inB c.At 0 (IntKind.i64.wrap (m.Code.length - 1)) || !decide ((c.Regs.length : Int) = 16) || !decide ((c.Slots.length : Int) = m.Slots) || !decide ((c.Mem.length : Int) = (m.Sizes.length : Int)) || decide (100 < (c.Input.length : Int))
def tailOk (c : Cpu) : Bool := (decide (c.Code = 0) || (decide (c.Code = 1) && !c.Over)) && (c.Over || decide (c.Val = 0))
def cpuOk (m : Image) (c : Cpu) : Bool := !headBad m c && decide (lens c.Mem = m.Sizes) && tailOk c
theorem headBad_len {m : Image} {c : Cpu} (h : headBad m c = false) : c.Mem.length = m.Sizes.length := by
  simp only [headBad, Bool.or_eq_false_iff, Bool.not_eq_false', decide_eq_true_eq] at h
  omega
theorem lens_ne {a : List (List Int)} {b : List Int} {j : Nat} (hj : j < a.length) (hj' : j < b.length) (h : ¬ ((a[j].length : Int) = b[j])) : ¬ lens a = b := fun e => h (by subst e; simp [lens])
theorem lens_eq {a : List (List Int)} {b : List Int} (hl : a.length = b.length) (h : ∀ j (hj : j < a.length) (hj' : j < b.length), (a[j].length : Int) = b[j]) : lens a = b := List.ext_getElem (by simpa [lens] using hl) fun j h1 h2 => by simpa [lens] using h j (by simpa [lens] using h1) h2

theorem isCpu (m : Image) (c : Cpu) (hs : m.Sizes.length ≤ 2 ^ 62) (hcd : m.Code.length ≤ 2 ^ 62) (hm : c.Mem.length ≤ 2 ^ 62) : Pure Try.prog 57 [.agg (m.cells true), .agg (c.cells true)] (.bool (cpuOk m c)) := by
  intro T
  have hi := isImage m hs hcd
  refine enter mixed MW10 Try.func57 rfl (by kernel_rfl) rfl ?_
  repeat' (first
    | (with_reducible first | refine st_seq ?_ | refine st_reg ?_ | refine st_block ?_ | refine st_nil ?_ | refine st_skip ?_ | refine st_ret ?_ | refine st_exit ?_ | refine fr_nil ?_ | refine k_seq_n ?_ | refine k_seq_r ?_ | refine k_seq_e ?_ | refine k_blk_n ?_ | refine k_blk_r ?_ | refine k_blk_s ?_ | refine k_blk_o rfl ?_ | refine k_fn_r ?_ | refine k_fn_n ?_ | refine k_lp_r ?_ | refine k_lp_e ?_)
    | ((with_reducible first | refine st_move ?_ | refine st_asg ?_ | refine st_c ?_ | refine fr_c ?_); (try (conv => arg 1; simp [Image.cells, Cpu.cells])); (with_reducible refine at_mk ?_))
    | ((with_reducible first | refine st_g ?_ | refine fr_g ?_); (try (conv => arg 1; simp [Image.cells, Cpu.cells])); (with_reducible refine at_mk ?_); with_reducible first | refine gd_tt ?_ | refine gd_ff ?_ | refine gd_tf ?_ | refine gd_ft ?_ | refine gd_no ?_)
    | ((with_reducible first | refine st_gm ?_ | refine fr_gm ?_); (try (conv => arg 1; simp [Image.cells, Cpu.cells])); (with_reducible refine at_mk ?_); (with_reducible first | refine gm_bool ?_ | refine gm_gv ?_); refine ⟨_, (by intro hc; first | ((try simp only [Bool.and_eq_true] at hc); (try (conv => lhs; simp [hc, Image.cells, Cpu.cells])); first | done | exact rfl) | ((try simp [gq] at hc); (try (conv => lhs; simp [gq, hc, Image.cells, Cpu.cells])); first | done | exact rfl)), ?_⟩)
    | ((with_reducible refine st_gmc ?_); (try (conv => arg 1; simp [Image.cells, Cpu.cells])); (with_reducible refine at_mk ?_); (with_reducible first | refine gm_bool ?_ | refine gm_gv ?_); refine ⟨_, _, _, (by intro hc; first | ((try simp only [Bool.and_eq_true] at hc); (try (conv => lhs; simp [hc, Image.cells, Cpu.cells])); first | done | exact rfl) | ((try simp [gq] at hc); (try (conv => lhs; simp [gq, hc, Image.cells, Cpu.cells])); first | done | exact rfl)), rfl, hi, (by intro hc; (try simp at hc); (repeat' (first | exact DRs.nil | refine DRs.cons ?_ ?_ | exact .int _ _ | exact .bool _ | exact .str _ | exact .nilsl | exact .nilp | exact dr_ints (by simp) _ | exact dr_intss (by simp) _ | refine dr_agg ?_ | refine dr_fn ?_ | refine dr_tptr' (by simp) ?_ | assumption | exact dr_words (by simp) _))), ?_⟩)
    | ((with_reducible refine fr_gmc ?_); (try (conv => arg 1; simp [Image.cells, Cpu.cells])); (with_reducible refine at_mk ?_); (with_reducible first | refine gm_bool ?_ | refine gm_gv ?_); refine ⟨_, _, _, (by intro hc; first | ((try simp only [Bool.and_eq_true] at hc); (try (conv => lhs; simp [hc, Image.cells, Cpu.cells])); first | done | exact rfl) | ((try simp [gq] at hc); (try (conv => lhs; simp [gq, hc, Image.cells, Cpu.cells])); first | done | exact rfl)), hi, (by intro hc; (try simp at hc); (repeat' (first | exact DRs.nil | refine DRs.cons ?_ ?_ | exact .int _ _ | exact .bool _ | exact .str _ | exact .nilsl | exact .nilp | exact dr_ints (by simp) _ | exact dr_intss (by simp) _ | refine dr_agg ?_ | refine dr_fn ?_ | refine dr_tptr' (by simp) ?_ | assumption | exact dr_words (by simp) _))), ?_⟩)
    | ((with_reducible refine st_gmv ?_); (try (conv => arg 1; simp [Image.cells, Cpu.cells])); (with_reducible refine at_mk ?_); (with_reducible first | refine gm_bool ?_ | refine gm_gv ?_); refine ⟨_, _, _, _, _, (by intro hc; first | ((try simp only [Bool.and_eq_true] at hc); (try (conv => lhs; simp [hc, Image.cells, Cpu.cells])); first | done | exact rfl) | ((try simp [gq] at hc); (try (conv => lhs; simp [gq, hc, Image.cells, Cpu.cells])); first | done | exact rfl)), (by intro hc; first | ((try simp only [Bool.and_eq_true] at hc); (try (conv => lhs; simp [hc, Image.cells, Cpu.cells])); first | done | exact rfl) | ((try simp [gq] at hc); (try (conv => lhs; simp [gq, hc, Image.cells, Cpu.cells])); first | done | exact rfl)), rfl, hi, (by intro hc; (try simp at hc); (repeat' (first | exact DRs.nil | refine DRs.cons ?_ ?_ | exact .int _ _ | exact .bool _ | exact .str _ | exact .nilsl | exact .nilp | exact dr_ints (by simp) _ | exact dr_intss (by simp) _ | refine dr_agg ?_ | refine dr_fn ?_ | refine dr_tptr' (by simp) ?_ | assumption | exact dr_words (by simp) _))), ?_⟩)
    | ((with_reducible refine st_gmc ?_); (try (conv => arg 1; simp [Image.cells, Cpu.cells])); (with_reducible refine at_mk ?_); (with_reducible first | refine gm_bool ?_ | refine gm_gv ?_); refine ⟨_, _, _, (by intro hc; first | ((try simp only [Bool.and_eq_true] at hc); (try (conv => lhs; simp [hc, Image.cells, Cpu.cells])); first | done | exact rfl) | ((try simp [gq] at hc); (try (conv => lhs; simp [gq, hc, Image.cells, Cpu.cells])); first | done | exact rfl)), rfl, in_ _ _ _, (by intro hc; (try simp at hc); (repeat' (first | exact DRs.nil | refine DRs.cons ?_ ?_ | exact .int _ _ | exact .bool _ | exact .str _ | exact .nilsl | exact .nilp | exact dr_ints (by simp) _ | exact dr_intss (by simp) _ | refine dr_agg ?_ | refine dr_fn ?_ | refine dr_tptr' (by simp) ?_ | assumption | exact dr_words (by simp) _))), ?_⟩)
    | ((with_reducible refine fr_gmc ?_); (try (conv => arg 1; simp [Image.cells, Cpu.cells])); (with_reducible refine at_mk ?_); (with_reducible first | refine gm_bool ?_ | refine gm_gv ?_); refine ⟨_, _, _, (by intro hc; first | ((try simp only [Bool.and_eq_true] at hc); (try (conv => lhs; simp [hc, Image.cells, Cpu.cells])); first | done | exact rfl) | ((try simp [gq] at hc); (try (conv => lhs; simp [gq, hc, Image.cells, Cpu.cells])); first | done | exact rfl)), in_ _ _ _, (by intro hc; (try simp at hc); (repeat' (first | exact DRs.nil | refine DRs.cons ?_ ?_ | exact .int _ _ | exact .bool _ | exact .str _ | exact .nilsl | exact .nilp | exact dr_ints (by simp) _ | exact dr_intss (by simp) _ | refine dr_agg ?_ | refine dr_fn ?_ | refine dr_tptr' (by simp) ?_ | assumption | exact dr_words (by simp) _))), ?_⟩)
    | ((with_reducible refine st_gmv ?_); (try (conv => arg 1; simp [Image.cells, Cpu.cells])); (with_reducible refine at_mk ?_); (with_reducible first | refine gm_bool ?_ | refine gm_gv ?_); refine ⟨_, _, _, _, _, (by intro hc; first | ((try simp only [Bool.and_eq_true] at hc); (try (conv => lhs; simp [hc, Image.cells, Cpu.cells])); first | done | exact rfl) | ((try simp [gq] at hc); (try (conv => lhs; simp [gq, hc, Image.cells, Cpu.cells])); first | done | exact rfl)), (by intro hc; first | ((try simp only [Bool.and_eq_true] at hc); (try (conv => lhs; simp [hc, Image.cells, Cpu.cells])); first | done | exact rfl) | ((try simp [gq] at hc); (try (conv => lhs; simp [gq, hc, Image.cells, Cpu.cells])); first | done | exact rfl)), rfl, in_ _ _ _, (by intro hc; (try simp at hc); (repeat' (first | exact DRs.nil | refine DRs.cons ?_ ?_ | exact .int _ _ | exact .bool _ | exact .str _ | exact .nilsl | exact .nilp | exact dr_ints (by simp) _ | exact dr_intss (by simp) _ | refine dr_agg ?_ | refine dr_fn ?_ | refine dr_tptr' (by simp) ?_ | assumption | exact dr_words (by simp) _))), ?_⟩)
    | ((with_reducible refine st_m rfl ?_); (try (conv => arg 1; simp [Image.cells, Cpu.cells])); (with_reducible refine ev2_some ?_))
    | ((with_reducible refine fr_n rfl ?_); (try (conv => arg 1; simp [Image.cells, Cpu.cells])); (with_reducible refine evn_some ?_))
    | ((with_reducible first | refine st_cv ?_ | refine fr_cv ?_); (try (conv => arg 1; simp [Image.cells, Cpu.cells])); (with_reducible refine at_mk ?_); (with_reducible refine fn_mk ?_); (try (conv => arg 1; simp [Image.cells, Cpu.cells])); (with_reducible refine at_mk ?_))
    | ((with_reducible refine fr_a ?_); (try (conv => arg 1; simp [Image.cells, Cpu.cells])); (with_reducible refine at_mk ?_); (try (conv => arg 1; simp [Image.cells, Cpu.cells])); (with_reducible refine at_mk ?_); refine ⟨?names, ?_⟩; (case names => (simp [appNames, ints, intss] <;> first | kernel_rfl | (refine ⟨?_, ?_⟩ <;> kernel_rfl))); (try (conv => arg 1; simp [Image.cells, Cpu.cells])); (with_reducible refine ev2_some ?_))
    | ((with_reducible first | refine st_q ?_ | refine fr_q ?_ | refine st_res ?_); (try (conv => arg 1; simp [Image.cells, Cpu.cells])); (with_reducible refine ev_some ?_))
    | ((with_reducible refine st_if ?_); (try (conv => arg 1; simp [Image.cells, Cpu.cells])); (with_reducible refine at_mk ?_); with_reducible first | refine br_t ?_ | refine br_f ?_)
    | ((with_reducible refine ct_id ?_); refine st_tree rfl (hi) (by (repeat' (first | exact DRs.nil | refine DRs.cons ?_ ?_ | exact .int _ _ | exact .bool _ | exact .str _ | exact .nilsl | exact .nilp | exact dr_ints (by simp) _ | exact dr_intss (by simp) _ | refine dr_agg ?_ | refine dr_fn ?_ | refine dr_tptr' (by simp) ?_ | assumption | exact dr_words (by simp) _))) ?_)
    | ((with_reducible refine tw_id ?_); refine treeW_pure (hi) (by (repeat' (first | exact DRs.nil | refine DRs.cons ?_ ?_ | exact .int _ _ | exact .bool _ | exact .str _ | exact .nilsl | exact .nilp | exact dr_ints (by simp) _ | exact dr_intss (by simp) _ | refine dr_agg ?_ | refine dr_fn ?_ | refine dr_tptr' (by simp) ?_ | assumption | exact dr_words (by simp) _))) ?_)
    | ((with_reducible refine ct_id ?_); refine st_tree rfl (in_ _ _ _) (by (repeat' (first | exact DRs.nil | refine DRs.cons ?_ ?_ | exact .int _ _ | exact .bool _ | exact .str _ | exact .nilsl | exact .nilp | exact dr_ints (by simp) _ | exact dr_intss (by simp) _ | refine dr_agg ?_ | refine dr_fn ?_ | refine dr_tptr' (by simp) ?_ | assumption | exact dr_words (by simp) _))) ?_)
    | ((with_reducible refine tw_id ?_); refine treeW_pure (in_ _ _ _) (by (repeat' (first | exact DRs.nil | refine DRs.cons ?_ ?_ | exact .int _ _ | exact .bool _ | exact .str _ | exact .nilsl | exact .nilp | exact dr_ints (by simp) _ | exact dr_intss (by simp) _ | refine dr_agg ?_ | refine dr_fn ?_ | refine dr_tptr' (by simp) ?_ | assumption | exact dr_words (by simp) _))) ?_))
  (try with_reducible refine st_if ?_)
  (try (conv => arg 1; simp [hs]))
  (try with_reducible refine at_mk ?_)
  refine ⟨fun hb => ?_, fun hb => ?_⟩
  · skip
    repeat' (first
     | with_reducible refine stp ?_
     | with_reducible refine k_blk_o rfl ?_
     | with_reducible refine k_seq_n ?_
     | ((try (conv => arg 1; simp [hs])); with_reducible refine evp ?_)
     | ((with_reducible refine apn ?na ?_); (case na => simp [appNames, ints, intss] <;> first | kernel_rfl | (refine ⟨?_, ?_⟩ <;> kernel_rfl)))
     | fail)
    refine dr_bool ?_
    have hb : headBad m c = true := hb
    simp only [cpuOk, hb, Bool.not_true, Bool.false_and]
  · have hb : headBad m c = false := hb
    have hml := headBad_len hb
    repeat' (first
     | with_reducible refine stp ?_
     | with_reducible refine k_blk_o rfl ?_
     | with_reducible refine k_seq_n ?_
     | ((try (conv => arg 1; simp [Cpu.cells])); with_reducible refine evp ?_)
     | ((with_reducible refine apn ?na ?_); (case na => simp [appNames, ints, intss] <;> first | kernel_rfl | (refine ⟨?_, ?_⟩ <;> kernel_rfl)))
     | fail)
    refine st_loop (fun (i : Nat) σ h => i ≤ c.Mem.length ∧ σ 2 = .ptr (T, 0, 0) 0 0 0 ∧ σ 3 = .ptr (T, 1, 0) 0 0 0 ∧ σ 50 = intss true c.Mem ∧ σ 51 = .int .i64 c.Mem.length ∧ σ 52 = .int .i64 i ∧ T < h.tick ∧ h.rows (T, 0, 0) = some ⟨0, 4, [[ints true m.Sizes, .int .i64 m.Params, .int .i64 m.Slots, words true m.Code]]⟩ ∧ h.rows (T, 1, 0) = some ⟨0, 9, [[.int .i64 c.At, ints true c.Regs, ints true c.Slots, intss true c.Mem, ints true c.Input, ints true c.Out, .int .i64 c.Code, .bool c.Over, .int .i64 c.Val]]⟩ ∧ ∀ j (hj : j < c.Mem.length) (hj' : j < m.Sizes.length), j < i → (c.Mem[j].length : Int) = m.Sizes[j]) (fun i => c.Mem.length - i) 0 ?init ?step
    case init =>
      simp
    case step =>
      rintro i σ h ⟨hle, h2, h3, h50, h51, h52, ht, hr, hr2, hall⟩
      repeat' (first
       | with_reducible refine stp ?_
       | with_reducible refine k_blk_o rfl ?_
       | with_reducible refine k_seq_n ?_
       | ((try (conv => arg 1; simp [h51, h52])); with_reducible refine evp ?_)
       | ((with_reducible refine apn ?na ?_); (case na => simp [appNames, ints, intss] <;> first | kernel_rfl | (refine ⟨?_, ?_⟩ <;> kernel_rfl)))
       | fail)
      (try with_reducible refine st_if ?_)
      (try (conv => arg 1; simp [h51]))
      (try with_reducible refine at_mk ?_)
      refine ⟨fun hb => ?_, fun hb => ?_⟩
      · have hlt : i < c.Mem.length := by simpa using hb
        have hlt2 : i < m.Sizes.length := by omega
        have hx : c.Mem[i]? = some (c.Mem[i]) := by simp
        have hy : m.Sizes[i]? = some (m.Sizes[i]) := by simp
        have hw : IntKind.i64.wrap (i + 1) = i + 1 := wrap_id (by omega) (by omega)
        repeat' (first
         | with_reducible refine stp ?_
         | with_reducible refine k_blk_o rfl ?_
         | with_reducible refine k_seq_n ?_
         | ((try (conv => arg 1; simp [h50, h52, intss, ints, hx])); with_reducible refine evp ?_)
         | ((with_reducible refine apn ?na ?_); (case na => simp [appNames, ints, intss] <;> first | kernel_rfl | (refine ⟨?_, ?_⟩ <;> kernel_rfl)))
         | fail)
        repeat' (first
         | with_reducible refine stp ?_
         | with_reducible refine k_blk_o rfl ?_
         | with_reducible refine k_seq_n ?_
         | ((try (conv => arg 1; simp [h2, h3, h50, h51, h52, hr, hr2, hx, hy, ints])); with_reducible refine evp ?_)
         | ((with_reducible refine apn ?na ?_); (case na => simp [appNames, ints, intss] <;> first | kernel_rfl | (refine ⟨?_, ?_⟩ <;> kernel_rfl)))
         | fail)
        (try with_reducible refine st_if ?_)
        (try (conv => arg 1; simp [h51]))
        (try with_reducible refine at_mk ?_)
        refine ⟨fun hb => ?_, fun hb => ?_⟩
        · skip
          repeat' (first
           | with_reducible refine stp ?_
           | with_reducible refine k_blk_o rfl ?_
           | with_reducible refine k_seq_n ?_
           | ((try (conv => arg 1; simp [h2])); with_reducible refine evp ?_)
           | ((with_reducible refine apn ?na ?_); (case na => simp [appNames, ints, intss] <;> first | kernel_rfl | (refine ⟨?_, ?_⟩ <;> kernel_rfl)))
           | fail)
          refine dr_bool ?_
          have hne : decide (lens c.Mem = m.Sizes) = false := decide_eq_false (lens_ne hlt hlt2 (by simpa using hb))
          simp only [cpuOk, hne, Bool.and_false, Bool.false_and]
        · have hgood : (c.Mem[i].length : Int) = m.Sizes[i] := by simpa using hb
          repeat' (first
           | with_reducible refine stp ?_
           | with_reducible refine k_blk_o rfl ?_
           | with_reducible refine k_seq_n ?_
           | ((try (conv => arg 1; simp [h52, hw])); with_reducible refine evp ?_)
           | ((with_reducible refine apn ?na ?_); (case na => simp [appNames, ints, intss] <;> first | kernel_rfl | (refine ⟨?_, ?_⟩ <;> kernel_rfl)))
           | fail)
          refine k_lp_n (i + 1) (by omega) ⟨by omega, by simp [h2], by simp [h3], by simp [h50], by simp [h51], by simp [h52], by simp; omega, by simp [hr], by simp [hr2], fun j hj hj' hji => ?_⟩
          by_cases e : j = i
          · subst e; exact hgood
          · exact hall j hj hj' (by omega)
      · have hge : i = c.Mem.length := by simp at hb; omega
        have he : decide (lens c.Mem = m.Sizes) = true := decide_eq_true (lens_eq hml fun j hj hj' => hall j hj hj' (by omega))
        repeat' (first
          | (with_reducible first | refine st_seq ?_ | refine st_reg ?_ | refine st_block ?_ | refine st_nil ?_ | refine st_skip ?_ | refine st_ret ?_ | refine st_exit ?_ | refine fr_nil ?_ | refine k_seq_n ?_ | refine k_seq_r ?_ | refine k_seq_e ?_ | refine k_blk_n ?_ | refine k_blk_r ?_ | refine k_blk_s ?_ | refine k_blk_o rfl ?_ | refine k_fn_r ?_ | refine k_fn_n ?_ | refine k_lp_r ?_ | refine k_lp_e ?_)
          | ((with_reducible first | refine st_move ?_ | refine st_asg ?_ | refine st_c ?_ | refine fr_c ?_); (try (conv => arg 1; simp [h2, h3, hr, hr2])); (with_reducible refine at_mk ?_))
          | ((with_reducible first | refine st_g ?_ | refine fr_g ?_); (try (conv => arg 1; simp [h2, h3, hr, hr2])); (with_reducible refine at_mk ?_); with_reducible first | refine gd_tt ?_ | refine gd_ff ?_ | refine gd_tf ?_ | refine gd_ft ?_ | refine gd_no ?_)
          | ((with_reducible first | refine st_gm ?_ | refine fr_gm ?_); (try (conv => arg 1; simp [h2, h3, hr, hr2])); (with_reducible refine at_mk ?_); (with_reducible first | refine gm_bool ?_ | refine gm_gv ?_); refine ⟨_, (by intro hc; first | ((try simp only [Bool.and_eq_true] at hc); (try (conv => lhs; simp [hc, h2, h3, hr, hr2])); first | done | exact rfl) | ((try simp [gq] at hc); (try (conv => lhs; simp [gq, hc, h2, h3, hr, hr2])); first | done | exact rfl)), ?_⟩)
          | ((with_reducible refine st_m rfl ?_); (try (conv => arg 1; simp [h2, h3, hr, hr2])); (with_reducible refine ev2_some ?_))
          | ((with_reducible refine fr_n rfl ?_); (try (conv => arg 1; simp [h2, h3, hr, hr2])); (with_reducible refine evn_some ?_))
          | ((with_reducible first | refine st_cv ?_ | refine fr_cv ?_); (try (conv => arg 1; simp [h2, h3, hr, hr2])); (with_reducible refine at_mk ?_); (with_reducible refine fn_mk ?_); (try (conv => arg 1; simp [h2, h3, hr, hr2])); (with_reducible refine at_mk ?_))
          | ((with_reducible refine fr_a ?_); (try (conv => arg 1; simp [h2, h3, hr, hr2])); (with_reducible refine at_mk ?_); (try (conv => arg 1; simp [h2, h3, hr, hr2])); (with_reducible refine at_mk ?_); refine ⟨?names, ?_⟩; (case names => (simp [appNames, ints, intss] <;> first | kernel_rfl | (refine ⟨?_, ?_⟩ <;> kernel_rfl))); (try (conv => arg 1; simp [h2, h3, hr, hr2])); (with_reducible refine ev2_some ?_))
          | ((with_reducible first | refine st_q ?_ | refine fr_q ?_ | refine st_res ?_); (try (conv => arg 1; simp [h2, h3, hr, hr2])); (with_reducible refine ev_some ?_))
          | ((with_reducible refine st_if ?_); (try (conv => arg 1; simp [h2, h3, hr, hr2])); (with_reducible refine at_mk ?_); with_reducible first | refine br_t ?_ | refine br_f ?_))
        refine dr_bool ?_
        have hb2 : headBad m c = false := by assumption
        simp only [cpuOk, hb2, he, Bool.not_false, Bool.true_and, tailOk]

theorem specCpuOk (m : Image) (c : Cpu) (hs : m.Sizes.length ≤ 2 ^ 62) (hcd : m.Code.length ≤ 2 ^ 62) (hm : c.Mem.length ≤ 2 ^ 62) : Pure Try.prog 22 [.agg (m.cells true), .agg (c.cells true)] (.bool (cpuOk m c)) := by
  intro T
  have hi := specImageOk m hs hcd
  refine enter mixed MW10 Try.func22 rfl (by kernel_rfl) rfl ?_
  repeat' (first
    | (with_reducible first | refine st_seq ?_ | refine st_reg ?_ | refine st_block ?_ | refine st_nil ?_ | refine st_skip ?_ | refine st_ret ?_ | refine st_exit ?_ | refine fr_nil ?_ | refine k_seq_n ?_ | refine k_seq_r ?_ | refine k_seq_e ?_ | refine k_blk_n ?_ | refine k_blk_r ?_ | refine k_blk_s ?_ | refine k_blk_o rfl ?_ | refine k_fn_r ?_ | refine k_fn_n ?_ | refine k_lp_r ?_ | refine k_lp_e ?_)
    | ((with_reducible first | refine st_move ?_ | refine st_asg ?_ | refine st_c ?_ | refine fr_c ?_); (try (conv => arg 1; simp [Image.cells, Cpu.cells])); (with_reducible refine at_mk ?_))
    | ((with_reducible first | refine st_g ?_ | refine fr_g ?_); (try (conv => arg 1; simp [Image.cells, Cpu.cells])); (with_reducible refine at_mk ?_); with_reducible first | refine gd_tt ?_ | refine gd_ff ?_ | refine gd_tf ?_ | refine gd_ft ?_ | refine gd_no ?_)
    | ((with_reducible first | refine st_gm ?_ | refine fr_gm ?_); (try (conv => arg 1; simp [Image.cells, Cpu.cells])); (with_reducible refine at_mk ?_); (with_reducible first | refine gm_bool ?_ | refine gm_gv ?_); refine ⟨_, (by intro hc; first | ((try simp only [Bool.and_eq_true] at hc); (try (conv => lhs; simp [hc, Image.cells, Cpu.cells])); first | done | exact rfl) | ((try simp [gq] at hc); (try (conv => lhs; simp [gq, hc, Image.cells, Cpu.cells])); first | done | exact rfl)), ?_⟩)
    | ((with_reducible refine st_gmc ?_); (try (conv => arg 1; simp [Image.cells, Cpu.cells])); (with_reducible refine at_mk ?_); (with_reducible first | refine gm_bool ?_ | refine gm_gv ?_); refine ⟨_, _, _, (by intro hc; first | ((try simp only [Bool.and_eq_true] at hc); (try (conv => lhs; simp [hc, Image.cells, Cpu.cells])); first | done | exact rfl) | ((try simp [gq] at hc); (try (conv => lhs; simp [gq, hc, Image.cells, Cpu.cells])); first | done | exact rfl)), rfl, hi, (by intro hc; (try simp at hc); (repeat' (first | exact DRs.nil | refine DRs.cons ?_ ?_ | exact .int _ _ | exact .bool _ | exact .str _ | exact .nilsl | exact .nilp | exact dr_ints (by simp) _ | exact dr_intss (by simp) _ | refine dr_agg ?_ | refine dr_fn ?_ | refine dr_tptr' (by simp) ?_ | assumption | exact dr_words (by simp) _))), ?_⟩)
    | ((with_reducible refine fr_gmc ?_); (try (conv => arg 1; simp [Image.cells, Cpu.cells])); (with_reducible refine at_mk ?_); (with_reducible first | refine gm_bool ?_ | refine gm_gv ?_); refine ⟨_, _, _, (by intro hc; first | ((try simp only [Bool.and_eq_true] at hc); (try (conv => lhs; simp [hc, Image.cells, Cpu.cells])); first | done | exact rfl) | ((try simp [gq] at hc); (try (conv => lhs; simp [gq, hc, Image.cells, Cpu.cells])); first | done | exact rfl)), hi, (by intro hc; (try simp at hc); (repeat' (first | exact DRs.nil | refine DRs.cons ?_ ?_ | exact .int _ _ | exact .bool _ | exact .str _ | exact .nilsl | exact .nilp | exact dr_ints (by simp) _ | exact dr_intss (by simp) _ | refine dr_agg ?_ | refine dr_fn ?_ | refine dr_tptr' (by simp) ?_ | assumption | exact dr_words (by simp) _))), ?_⟩)
    | ((with_reducible refine st_gmv ?_); (try (conv => arg 1; simp [Image.cells, Cpu.cells])); (with_reducible refine at_mk ?_); (with_reducible first | refine gm_bool ?_ | refine gm_gv ?_); refine ⟨_, _, _, _, _, (by intro hc; first | ((try simp only [Bool.and_eq_true] at hc); (try (conv => lhs; simp [hc, Image.cells, Cpu.cells])); first | done | exact rfl) | ((try simp [gq] at hc); (try (conv => lhs; simp [gq, hc, Image.cells, Cpu.cells])); first | done | exact rfl)), (by intro hc; first | ((try simp only [Bool.and_eq_true] at hc); (try (conv => lhs; simp [hc, Image.cells, Cpu.cells])); first | done | exact rfl) | ((try simp [gq] at hc); (try (conv => lhs; simp [gq, hc, Image.cells, Cpu.cells])); first | done | exact rfl)), rfl, hi, (by intro hc; (try simp at hc); (repeat' (first | exact DRs.nil | refine DRs.cons ?_ ?_ | exact .int _ _ | exact .bool _ | exact .str _ | exact .nilsl | exact .nilp | exact dr_ints (by simp) _ | exact dr_intss (by simp) _ | refine dr_agg ?_ | refine dr_fn ?_ | refine dr_tptr' (by simp) ?_ | assumption | exact dr_words (by simp) _))), ?_⟩)
    | ((with_reducible refine st_gmc ?_); (try (conv => arg 1; simp [Image.cells, Cpu.cells])); (with_reducible refine at_mk ?_); (with_reducible first | refine gm_bool ?_ | refine gm_gv ?_); refine ⟨_, _, _, (by intro hc; first | ((try simp only [Bool.and_eq_true] at hc); (try (conv => lhs; simp [hc, Image.cells, Cpu.cells])); first | done | exact rfl) | ((try simp [gq] at hc); (try (conv => lhs; simp [gq, hc, Image.cells, Cpu.cells])); first | done | exact rfl)), rfl, l01In _ _ _, (by intro hc; (try simp at hc); (repeat' (first | exact DRs.nil | refine DRs.cons ?_ ?_ | exact .int _ _ | exact .bool _ | exact .str _ | exact .nilsl | exact .nilp | exact dr_ints (by simp) _ | exact dr_intss (by simp) _ | refine dr_agg ?_ | refine dr_fn ?_ | refine dr_tptr' (by simp) ?_ | assumption | exact dr_words (by simp) _))), ?_⟩)
    | ((with_reducible refine fr_gmc ?_); (try (conv => arg 1; simp [Image.cells, Cpu.cells])); (with_reducible refine at_mk ?_); (with_reducible first | refine gm_bool ?_ | refine gm_gv ?_); refine ⟨_, _, _, (by intro hc; first | ((try simp only [Bool.and_eq_true] at hc); (try (conv => lhs; simp [hc, Image.cells, Cpu.cells])); first | done | exact rfl) | ((try simp [gq] at hc); (try (conv => lhs; simp [gq, hc, Image.cells, Cpu.cells])); first | done | exact rfl)), l01In _ _ _, (by intro hc; (try simp at hc); (repeat' (first | exact DRs.nil | refine DRs.cons ?_ ?_ | exact .int _ _ | exact .bool _ | exact .str _ | exact .nilsl | exact .nilp | exact dr_ints (by simp) _ | exact dr_intss (by simp) _ | refine dr_agg ?_ | refine dr_fn ?_ | refine dr_tptr' (by simp) ?_ | assumption | exact dr_words (by simp) _))), ?_⟩)
    | ((with_reducible refine st_gmv ?_); (try (conv => arg 1; simp [Image.cells, Cpu.cells])); (with_reducible refine at_mk ?_); (with_reducible first | refine gm_bool ?_ | refine gm_gv ?_); refine ⟨_, _, _, _, _, (by intro hc; first | ((try simp only [Bool.and_eq_true] at hc); (try (conv => lhs; simp [hc, Image.cells, Cpu.cells])); first | done | exact rfl) | ((try simp [gq] at hc); (try (conv => lhs; simp [gq, hc, Image.cells, Cpu.cells])); first | done | exact rfl)), (by intro hc; first | ((try simp only [Bool.and_eq_true] at hc); (try (conv => lhs; simp [hc, Image.cells, Cpu.cells])); first | done | exact rfl) | ((try simp [gq] at hc); (try (conv => lhs; simp [gq, hc, Image.cells, Cpu.cells])); first | done | exact rfl)), rfl, l01In _ _ _, (by intro hc; (try simp at hc); (repeat' (first | exact DRs.nil | refine DRs.cons ?_ ?_ | exact .int _ _ | exact .bool _ | exact .str _ | exact .nilsl | exact .nilp | exact dr_ints (by simp) _ | exact dr_intss (by simp) _ | refine dr_agg ?_ | refine dr_fn ?_ | refine dr_tptr' (by simp) ?_ | assumption | exact dr_words (by simp) _))), ?_⟩)
    | ((with_reducible refine st_m rfl ?_); (try (conv => arg 1; simp [Image.cells, Cpu.cells])); (with_reducible refine ev2_some ?_))
    | ((with_reducible refine fr_n rfl ?_); (try (conv => arg 1; simp [Image.cells, Cpu.cells])); (with_reducible refine evn_some ?_))
    | ((with_reducible first | refine st_cv ?_ | refine fr_cv ?_); (try (conv => arg 1; simp [Image.cells, Cpu.cells])); (with_reducible refine at_mk ?_); (with_reducible refine fn_mk ?_); (try (conv => arg 1; simp [Image.cells, Cpu.cells])); (with_reducible refine at_mk ?_))
    | ((with_reducible refine fr_a ?_); (try (conv => arg 1; simp [Image.cells, Cpu.cells])); (with_reducible refine at_mk ?_); (try (conv => arg 1; simp [Image.cells, Cpu.cells])); (with_reducible refine at_mk ?_); refine ⟨?names, ?_⟩; (case names => (simp [appNames, ints, intss] <;> first | kernel_rfl | (refine ⟨?_, ?_⟩ <;> kernel_rfl))); (try (conv => arg 1; simp [Image.cells, Cpu.cells])); (with_reducible refine ev2_some ?_))
    | ((with_reducible first | refine st_q ?_ | refine fr_q ?_ | refine st_res ?_); (try (conv => arg 1; simp [Image.cells, Cpu.cells])); (with_reducible refine ev_some ?_))
    | ((with_reducible refine st_if ?_); (try (conv => arg 1; simp [Image.cells, Cpu.cells])); (with_reducible refine at_mk ?_); with_reducible first | refine br_t ?_ | refine br_f ?_)
    | ((with_reducible refine ct_id ?_); refine st_tree rfl (hi) (by (repeat' (first | exact DRs.nil | refine DRs.cons ?_ ?_ | exact .int _ _ | exact .bool _ | exact .str _ | exact .nilsl | exact .nilp | exact dr_ints (by simp) _ | exact dr_intss (by simp) _ | refine dr_agg ?_ | refine dr_fn ?_ | refine dr_tptr' (by simp) ?_ | assumption | exact dr_words (by simp) _))) ?_)
    | ((with_reducible refine tw_id ?_); refine treeW_pure (hi) (by (repeat' (first | exact DRs.nil | refine DRs.cons ?_ ?_ | exact .int _ _ | exact .bool _ | exact .str _ | exact .nilsl | exact .nilp | exact dr_ints (by simp) _ | exact dr_intss (by simp) _ | refine dr_agg ?_ | refine dr_fn ?_ | refine dr_tptr' (by simp) ?_ | assumption | exact dr_words (by simp) _))) ?_)
    | ((with_reducible refine ct_id ?_); refine st_tree rfl (l01In _ _ _) (by (repeat' (first | exact DRs.nil | refine DRs.cons ?_ ?_ | exact .int _ _ | exact .bool _ | exact .str _ | exact .nilsl | exact .nilp | exact dr_ints (by simp) _ | exact dr_intss (by simp) _ | refine dr_agg ?_ | refine dr_fn ?_ | refine dr_tptr' (by simp) ?_ | assumption | exact dr_words (by simp) _))) ?_)
    | ((with_reducible refine tw_id ?_); refine treeW_pure (l01In _ _ _) (by (repeat' (first | exact DRs.nil | refine DRs.cons ?_ ?_ | exact .int _ _ | exact .bool _ | exact .str _ | exact .nilsl | exact .nilp | exact dr_ints (by simp) _ | exact dr_intss (by simp) _ | refine dr_agg ?_ | refine dr_fn ?_ | refine dr_tptr' (by simp) ?_ | assumption | exact dr_words (by simp) _))) ?_))
  (try with_reducible refine st_if ?_)
  (try (conv => arg 1; simp [hs]))
  (try with_reducible refine at_mk ?_)
  refine ⟨fun hb => ?_, fun hb => ?_⟩
  · skip
    repeat' (first
     | with_reducible refine stp ?_
     | with_reducible refine k_blk_o rfl ?_
     | with_reducible refine k_seq_n ?_
     | ((try (conv => arg 1; simp [hs])); with_reducible refine evp ?_)
     | ((with_reducible refine apn ?na ?_); (case na => simp [appNames, ints, intss] <;> first | kernel_rfl | (refine ⟨?_, ?_⟩ <;> kernel_rfl)))
     | fail)
    refine dr_bool ?_
    have hb : headBad m c = true := hb
    simp only [cpuOk, hb, Bool.not_true, Bool.false_and]
  · have hb : headBad m c = false := hb
    have hml := headBad_len hb
    repeat' (first
     | with_reducible refine stp ?_
     | with_reducible refine k_blk_o rfl ?_
     | with_reducible refine k_seq_n ?_
     | ((try (conv => arg 1; simp [Cpu.cells])); with_reducible refine evp ?_)
     | ((with_reducible refine apn ?na ?_); (case na => simp [appNames, ints, intss] <;> first | kernel_rfl | (refine ⟨?_, ?_⟩ <;> kernel_rfl)))
     | fail)
    refine st_loop (fun (i : Nat) σ h => i ≤ c.Mem.length ∧ σ 2 = .ptr (T, 0, 0) 0 0 0 ∧ σ 3 = .ptr (T, 1, 0) 0 0 0 ∧ σ 5 = .int .i64 i ∧ T < h.tick ∧ h.rows (T, 0, 0) = some ⟨0, 4, [[ints true m.Sizes, .int .i64 m.Params, .int .i64 m.Slots, words true m.Code]]⟩ ∧ h.rows (T, 1, 0) = some ⟨0, 9, [[.int .i64 c.At, ints true c.Regs, ints true c.Slots, intss true c.Mem, ints true c.Input, ints true c.Out, .int .i64 c.Code, .bool c.Over, .int .i64 c.Val]]⟩ ∧ ∀ j (hj : j < c.Mem.length) (hj' : j < m.Sizes.length), j < i → (c.Mem[j].length : Int) = m.Sizes[j]) (fun i => c.Mem.length - i) 0 ?init ?step
    case init =>
      simp
    case step =>
      rintro i σ h ⟨hle, h2, h3, h5, ht, hr, hr2, hall⟩
      repeat' (first
       | with_reducible refine stp ?_
       | with_reducible refine k_blk_o rfl ?_
       | with_reducible refine k_seq_n ?_
       | ((try (conv => arg 1; simp [h2, h3, h5, hr, hr2])); with_reducible refine evp ?_)
       | ((with_reducible refine apn ?na ?_); (case na => simp [appNames, ints, intss] <;> first | kernel_rfl | (refine ⟨?_, ?_⟩ <;> kernel_rfl)))
       | fail)
      (try with_reducible refine st_if ?_)
      (try (conv => arg 1; simp [h2]))
      (try with_reducible refine at_mk ?_)
      refine ⟨fun hb => ?_, fun hb => ?_⟩
      · have hlt : i < c.Mem.length := by simpa using hb
        have hlt2 : i < m.Sizes.length := by omega
        have hx : c.Mem[i]? = some (c.Mem[i]) := by simp
        have hy : m.Sizes[i]? = some (m.Sizes[i]) := by simp
        have hw : IntKind.i64.wrap (i + 1) = i + 1 := wrap_id (by omega) (by omega)
        have htn : ¬ T = h.tick + 1 := by omega
        repeat' (first
         | with_reducible refine stp ?_
         | with_reducible refine k_blk_o rfl ?_
         | with_reducible refine k_seq_n ?_
         | ((try (conv => arg 1; simp [h2])); with_reducible refine evp ?_)
         | ((with_reducible refine apn ?na ?_); (case na => simp [appNames, ints, intss] <;> first | kernel_rfl | (refine ⟨?_, ?_⟩ <;> kernel_rfl)))
         | fail)
        repeat (with_reducible first | refine stp ?_ | refine k_seq_n ?_)
        refine st_draw 12 (fun _ => false) (by kernel_rfl) ?_
        simp only [List.take_succ_cons, List.take_zero, List.drop_succ_cons, List.drop_zero, List.take_nil, List.drop_nil]
        repeat' (first
         | with_reducible refine stp ?_
         | with_reducible refine k_blk_o rfl ?_
         | with_reducible refine k_seq_n ?_
         | ((try (conv => arg 1; simp [h2, h3, h5, hr, hr2, htn, hx, hy, ints, intss])); with_reducible refine evp ?_)
         | ((with_reducible refine apn ?na ?_); (case na => simp [appNames, ints, intss] <;> first | kernel_rfl | (refine ⟨?_, ?_⟩ <;> kernel_rfl)))
         | fail)
        (try with_reducible refine st_if ?_)
        (try (conv => arg 1; simp [h2]))
        (try with_reducible refine at_mk ?_)
        refine ⟨fun hb => ?_, fun hb => ?_⟩
        · skip
          repeat' (first
           | with_reducible refine stp ?_
           | with_reducible refine k_blk_o rfl ?_
           | with_reducible refine k_seq_n ?_
           | ((try (conv => arg 1; simp [h2])); with_reducible refine evp ?_)
           | ((with_reducible refine apn ?na ?_); (case na => simp [appNames, ints, intss] <;> first | kernel_rfl | (refine ⟨?_, ?_⟩ <;> kernel_rfl)))
           | fail)
          refine dr_bool ?_
          have hne : decide (lens c.Mem = m.Sizes) = false := decide_eq_false (lens_ne hlt hlt2 (by simpa using hb))
          simp only [cpuOk, hne, Bool.and_false, Bool.false_and]
        · have hgood : (c.Mem[i].length : Int) = m.Sizes[i] := by simpa using hb
          repeat' (first
           | with_reducible refine stp ?_
           | with_reducible refine k_blk_o rfl ?_
           | with_reducible refine k_seq_n ?_
           | ((try (conv => arg 1; simp [h5, hw])); with_reducible refine evp ?_)
           | ((with_reducible refine apn ?na ?_); (case na => simp [appNames, ints, intss] <;> first | kernel_rfl | (refine ⟨?_, ?_⟩ <;> kernel_rfl)))
           | fail)
          refine k_lp_n (i + 1) (by omega) ⟨by omega, by simp [h2], by simp [h3], by simp [h5], by simp; omega, by simp [hr], by simp [hr2], fun j hj hj' hji => ?_⟩
          by_cases e : j = i
          · subst e; exact hgood
          · exact hall j hj hj' (by omega)
      · have hge : i = c.Mem.length := by simp at hb; omega
        have he : decide (lens c.Mem = m.Sizes) = true := decide_eq_true (lens_eq hml fun j hj hj' => hall j hj hj' (by omega))
        repeat' (first
          | (with_reducible first | refine st_seq ?_ | refine st_reg ?_ | refine st_block ?_ | refine st_nil ?_ | refine st_skip ?_ | refine st_ret ?_ | refine st_exit ?_ | refine fr_nil ?_ | refine k_seq_n ?_ | refine k_seq_r ?_ | refine k_seq_e ?_ | refine k_blk_n ?_ | refine k_blk_r ?_ | refine k_blk_s ?_ | refine k_blk_o rfl ?_ | refine k_fn_r ?_ | refine k_fn_n ?_ | refine k_lp_r ?_ | refine k_lp_e ?_)
          | ((with_reducible first | refine st_move ?_ | refine st_asg ?_ | refine st_c ?_ | refine fr_c ?_); (try (conv => arg 1; simp [h2, h3, hr, hr2])); (with_reducible refine at_mk ?_))
          | ((with_reducible first | refine st_g ?_ | refine fr_g ?_); (try (conv => arg 1; simp [h2, h3, hr, hr2])); (with_reducible refine at_mk ?_); with_reducible first | refine gd_tt ?_ | refine gd_ff ?_ | refine gd_tf ?_ | refine gd_ft ?_ | refine gd_no ?_)
          | ((with_reducible first | refine st_gm ?_ | refine fr_gm ?_); (try (conv => arg 1; simp [h2, h3, hr, hr2])); (with_reducible refine at_mk ?_); (with_reducible first | refine gm_bool ?_ | refine gm_gv ?_); refine ⟨_, (by intro hc; first | ((try simp only [Bool.and_eq_true] at hc); (try (conv => lhs; simp [hc, h2, h3, hr, hr2])); first | done | exact rfl) | ((try simp [gq] at hc); (try (conv => lhs; simp [gq, hc, h2, h3, hr, hr2])); first | done | exact rfl)), ?_⟩)
          | ((with_reducible refine st_gmc ?_); (try (conv => arg 1; simp [h2, h3, hr, hr2])); (with_reducible refine at_mk ?_); (with_reducible first | refine gm_bool ?_ | refine gm_gv ?_); refine ⟨_, _, _, (by intro hc; first | ((try simp only [Bool.and_eq_true] at hc); (try (conv => lhs; simp [hc, h2, h3, hr, hr2])); first | done | exact rfl) | ((try simp [gq] at hc); (try (conv => lhs; simp [gq, hc, h2, h3, hr, hr2])); first | done | exact rfl)), rfl, l01In _ _ _, (by intro hc; (try simp at hc); (repeat' (first | exact DRs.nil | refine DRs.cons ?_ ?_ | exact .int _ _ | exact .bool _ | exact .str _ | exact .nilsl | exact .nilp | exact dr_ints (by simp) _ | exact dr_intss (by simp) _ | refine dr_agg ?_ | refine dr_fn ?_ | refine dr_tptr' (by simp) ?_ | assumption))), ?_⟩)
          | ((with_reducible refine fr_gmc ?_); (try (conv => arg 1; simp [h2, h3, hr, hr2])); (with_reducible refine at_mk ?_); (with_reducible first | refine gm_bool ?_ | refine gm_gv ?_); refine ⟨_, _, _, (by intro hc; first | ((try simp only [Bool.and_eq_true] at hc); (try (conv => lhs; simp [hc, h2, h3, hr, hr2])); first | done | exact rfl) | ((try simp [gq] at hc); (try (conv => lhs; simp [gq, hc, h2, h3, hr, hr2])); first | done | exact rfl)), l01In _ _ _, (by intro hc; (try simp at hc); (repeat' (first | exact DRs.nil | refine DRs.cons ?_ ?_ | exact .int _ _ | exact .bool _ | exact .str _ | exact .nilsl | exact .nilp | exact dr_ints (by simp) _ | exact dr_intss (by simp) _ | refine dr_agg ?_ | refine dr_fn ?_ | refine dr_tptr' (by simp) ?_ | assumption))), ?_⟩)
          | ((with_reducible refine st_gmv ?_); (try (conv => arg 1; simp [h2, h3, hr, hr2])); (with_reducible refine at_mk ?_); (with_reducible first | refine gm_bool ?_ | refine gm_gv ?_); refine ⟨_, _, _, _, _, (by intro hc; first | ((try simp only [Bool.and_eq_true] at hc); (try (conv => lhs; simp [hc, h2, h3, hr, hr2])); first | done | exact rfl) | ((try simp [gq] at hc); (try (conv => lhs; simp [gq, hc, h2, h3, hr, hr2])); first | done | exact rfl)), (by intro hc; first | ((try simp only [Bool.and_eq_true] at hc); (try (conv => lhs; simp [hc, h2, h3, hr, hr2])); first | done | exact rfl) | ((try simp [gq] at hc); (try (conv => lhs; simp [gq, hc, h2, h3, hr, hr2])); first | done | exact rfl)), rfl, l01In _ _ _, (by intro hc; (try simp at hc); (repeat' (first | exact DRs.nil | refine DRs.cons ?_ ?_ | exact .int _ _ | exact .bool _ | exact .str _ | exact .nilsl | exact .nilp | exact dr_ints (by simp) _ | exact dr_intss (by simp) _ | refine dr_agg ?_ | refine dr_fn ?_ | refine dr_tptr' (by simp) ?_ | assumption))), ?_⟩)
          | ((with_reducible refine st_m rfl ?_); (try (conv => arg 1; simp [h2, h3, hr, hr2])); (with_reducible refine ev2_some ?_))
          | ((with_reducible refine fr_n rfl ?_); (try (conv => arg 1; simp [h2, h3, hr, hr2])); (with_reducible refine evn_some ?_))
          | ((with_reducible first | refine st_cv ?_ | refine fr_cv ?_); (try (conv => arg 1; simp [h2, h3, hr, hr2])); (with_reducible refine at_mk ?_); (with_reducible refine fn_mk ?_); (try (conv => arg 1; simp [h2, h3, hr, hr2])); (with_reducible refine at_mk ?_))
          | ((with_reducible refine fr_a ?_); (try (conv => arg 1; simp [h2, h3, hr, hr2])); (with_reducible refine at_mk ?_); (try (conv => arg 1; simp [h2, h3, hr, hr2])); (with_reducible refine at_mk ?_); refine ⟨?names, ?_⟩; (case names => (simp [appNames, ints, intss] <;> first | kernel_rfl | (refine ⟨?_, ?_⟩ <;> kernel_rfl))); (try (conv => arg 1; simp [h2, h3, hr, hr2])); (with_reducible refine ev2_some ?_))
          | ((with_reducible first | refine st_q ?_ | refine fr_q ?_ | refine st_res ?_); (try (conv => arg 1; simp [h2, h3, hr, hr2])); (with_reducible refine ev_some ?_))
          | ((with_reducible refine st_if ?_); (try (conv => arg 1; simp [h2, h3, hr, hr2])); (with_reducible refine at_mk ?_); with_reducible first | refine br_t ?_ | refine br_f ?_)
          | ((with_reducible refine ct_id ?_); refine st_tree rfl (l01In _ _ _) (by (repeat' (first | exact DRs.nil | refine DRs.cons ?_ ?_ | exact .int _ _ | exact .bool _ | exact .str _ | exact .nilsl | exact .nilp | exact dr_ints (by simp) _ | exact dr_intss (by simp) _ | refine dr_agg ?_ | refine dr_fn ?_ | refine dr_tptr' (by simp) ?_ | assumption))) ?_)
          | ((with_reducible refine tw_id ?_); refine treeW_pure (l01In _ _ _) (by (repeat' (first | exact DRs.nil | refine DRs.cons ?_ ?_ | exact .int _ _ | exact .bool _ | exact .str _ | exact .nilsl | exact .nilp | exact dr_ints (by simp) _ | exact dr_intss (by simp) _ | refine dr_agg ?_ | refine dr_fn ?_ | refine dr_tptr' (by simp) ?_ | assumption))) ?_))
        refine dr_bool ?_
        have hb2 : headBad m c = false := by assumption
        simp only [cpuOk, hb2, he, Bool.not_false, Bool.true_and, tailOk]
        rw [Bool.eq_iff_iff]
        cases c.Over <;> simp [inB] <;> omega
end Go.Proofs.Ytfgaoojogididaa.AM

/-
  What data of the laws' types are.
-/
set_option linter.unusedVariables false
set_option linter.unusedSimpArgs false
namespace Go.Proofs.Ytfgaoojogididaa.AM
open Go.RowKit

structure Cpu.Data (c : Cpu) : Prop where
  regs : c.Regs.length ≤ maxLen
  slots : c.Slots.length ≤ maxLen
  mem : c.Mem.length ≤ maxLen
  mem' : ∀ x ∈ c.Mem, x.length ≤ maxLen
  input : c.Input.length ≤ maxLen
  out : c.Out.length ≤ maxLen
  at' : I64 c.At
  val : I64 c.Val
  code : I64 c.Code
  regs' : ∀ x ∈ c.Regs, I64 x
  slots' : ∀ x ∈ c.Slots, I64 x
  input' : ∀ x ∈ c.Input, I64 x
  out' : ∀ x ∈ c.Out, I64 x
  mem'' : ∀ x ∈ c.Mem, ∀ y ∈ x, I64 y

theorem shp_cpu {cells : List AV} (h : Shp Try.prog 25 cells) : ∃ c : Cpu, cells = c.cells true ∧ c.Data := by
  have hs : stTys Try.prog 25 = some [3, 22, 22, 23, 22, 22, 3, 4, 3] := by kernel_rfl
  obtain ⟨p0, q0, rfl, s0, p1, q1, rfl, s1, p2, q2, rfl, s2, p3, q3, rfl, s3, p4, q4, rfl, s4, p5, q5, rfl, s5, p6, q6, rfl, s6, p7, q7, rfl, s7, p8, q8, rfl, s8, rfl⟩ := h.st_inv hs
  obtain ⟨a0, rfl, g0⟩ := s0.int_inv und_3
  obtain ⟨a1, rfl, g1, g1'⟩ := s1.ints_inv und_22 und_3
  obtain ⟨a2, rfl, g2, g2'⟩ := s2.ints_inv und_22 und_3
  obtain ⟨a3, rfl, g3, g3'⟩ := s3.intss_inv und_23 und_22 und_3
  obtain ⟨a4, rfl, g4, g4'⟩ := s4.ints_inv und_22 und_3
  obtain ⟨a5, rfl, g5, g5'⟩ := s5.ints_inv und_22 und_3
  obtain ⟨a6, rfl, g6⟩ := s6.int_inv und_3
  obtain ⟨a7, rfl⟩ := s7.bool_inv und_4
  obtain ⟨a8, rfl, g8⟩ := s8.int_inv und_3
  exact ⟨⟨a0, a1, a2, a3, a4, a5, a6, a7, a8⟩, rfl, ⟨g1, g2, g3, fun x hx => (g3' x hx).1, g4, g5, g0, g8, g6, g1', g2', g4', g5', fun x hx => (g3' x hx).2⟩⟩

theorem agg_25 (cells : List AV) : avOf Try.prog 25 cells = .agg cells := agg_of (by kernel_rfl) cells
end Go.Proofs.Ytfgaoojogididaa.AM

/-
  The law of CpuOk: what it needs.
-/
set_option linter.unusedVariables false
set_option linter.unusedSimpArgs false
set_option maxRecDepth 4000
namespace Go.Proofs.Ytfgaoojogididaa.AM
open Go.RowKit

private def MW11 : FuncId → Mode := fun f => .tree

structure Image.Data (m : Image) : Prop where
  sizes : m.Sizes.length ≤ maxLen
  code : m.Code.length ≤ maxLen
  sizes' : ∀ x ∈ m.Sizes, I64 x
  params : I64 m.Params
  slots : I64 m.Slots
  code' : ∀ w ∈ m.Code, I64 w.Op ∧ I64 w.R ∧ I64 w.A ∧ I64 w.B ∧ I64 w.N

theorem shp_word {cells : List AV} (h : Shp Try.prog 94 cells) : ∃ w : Word, cells = w.cells ∧ (I64 w.Op ∧ I64 w.R ∧ I64 w.A ∧ I64 w.B ∧ I64 w.N) := by
  have hs : stTys Try.prog 94 = some [3, 3, 3, 3, 3] := by kernel_rfl
  obtain ⟨p0, q0, rfl, s0, p1, q1, rfl, s1, p2, q2, rfl, s2, p3, q3, rfl, s3, p4, q4, rfl, s4, rfl⟩ := h.st_inv hs
  obtain ⟨a0, rfl, g0⟩ := s0.int_inv und_3
  obtain ⟨a1, rfl, g1⟩ := s1.int_inv und_3
  obtain ⟨a2, rfl, g2⟩ := s2.int_inv und_3
  obtain ⟨a3, rfl, g3⟩ := s3.int_inv und_3
  obtain ⟨a4, rfl, g4⟩ := s4.int_inv und_3
  exact ⟨⟨a0, a1, a2, a3, a4⟩, rfl, g0, g1, g2, g3, g4⟩
theorem shp_image {cells : List AV} (h : Shp Try.prog 39 cells) : ∃ m : Image, cells = m.cells true ∧ m.Data := by
  have hs : stTys Try.prog 39 = some [22, 3, 3, 37] := by kernel_rfl
  obtain ⟨p0, q0, rfl, s0, p1, q1, rfl, s1, p2, q2, rfl, s2, p3, q3, rfl, s3, rfl⟩ := h.st_inv hs
  obtain ⟨a0, rfl, g0, g0'⟩ := s0.ints_inv und_22 und_3
  obtain ⟨a1, rfl, g1⟩ := s1.int_inv und_3
  obtain ⟨a2, rfl, g2⟩ := s2.int_inv und_3
  obtain ⟨elems, rfl, g3, g3'⟩ := s3.sl_inv und_37
  obtain ⟨ws, rfl, gw⟩ := unmap Word.cells (fun w => I64 w.Op ∧ I64 w.R ∧ I64 w.A ∧ I64 w.B ∧ I64 w.N) elems fun y hy => shp_word (g3' y hy)
  exact ⟨⟨a0, a1, a2, ws⟩, rfl, ⟨g0, by simpa using g3, g0', g1, g2, gw⟩⟩
theorem agg_39 (cells : List AV) : avOf Try.prog 39 cells = .agg cells := agg_of (by kernel_rfl) cells

theorem implCpuOk (m : Image) (c : Cpu) (hs : m.Sizes.length ≤ 2 ^ 62) (hcd : m.Code.length ≤ 2 ^ 62) (hm : c.Mem.length ≤ 2 ^ 62) : Pure Try.prog 24 [.agg (m.cells true), .agg (c.cells true)] (.bool (cpuOk m c)) := by
  intro T
  refine enter mixed MW11 Try.func24 rfl (by kernel_rfl) rfl ?_
  repeat' (first
   | with_reducible refine stp ?_
   | with_reducible refine k_blk_o rfl ?_
   | with_reducible refine k_seq_n ?_
   | ((try (conv => arg 1; simp [Image.cells, Cpu.cells])); with_reducible refine evp ?_)
   | ((with_reducible refine apn ?na ?_); (case na => simp [appNames, ints, intss] <;> first | kernel_rfl | (refine ⟨?_, ?_⟩ <;> kernel_rfl)))
   | ((with_reducible refine tcl ?_); first | ((apply tg (isCpu m c hs hcd hm)); (case e => rfl); (case d => (refine dq ?_); (repeat' (first | ((refine Da.mk ?_); first | exact dr_words (by simp) _ | assumption) | constructor)))))
   | fail)
  exact .bool _
end Go.Proofs.Ytfgaoojogididaa.AM

/-
  What an operation makes of two numbers, by its sign.
-/
set_option linter.unusedVariables false
set_option linter.unusedSimpArgs false
set_option maxRecDepth 4000
namespace Go.Proofs.Ytfgaoojogididaa.AM
open Go.RowKit

private def MW12 : FuncId → Mode := fun f => .tree

theorem sg0 : (ByteArray.mk #[43]).toList = [43] := by kernel_rfl
theorem sg1 : (ByteArray.mk #[45]).toList = [45] := by kernel_rfl
theorem sg2 : (ByteArray.mk #[42]).toList = [42] := by kernel_rfl
theorem sg3 : (ByteArray.mk #[38]).toList = [38] := by kernel_rfl
theorem sg4 : (ByteArray.mk #[61, 61]).toList = [61, 61] := by kernel_rfl
theorem sg5 : (ByteArray.mk #[60]).toList = [60] := by kernel_rfl
def sgn : Nat → ByteArray
  | 0 => ⟨#[43]⟩
  | 1 => ⟨#[45]⟩
  | 2 => ⟨#[42]⟩
  | 3 => ⟨#[38]⟩
  | 4 => ⟨#[61, 61]⟩
  | _ => ⟨#[60]⟩
def alu (n : Nat) (a b : Int) : Int := match n with
  | 0 => IntKind.i64.wrap (a + b)
  | 1 => IntKind.i64.wrap (a - b)
  | 2 => IntKind.i64.wrap (a * b)
  | 3 => IntKind.i64.wrap (BitVec.ofInt 64 a &&& BitVec.ofInt 64 b).toNat
  | 4 => if a = b then 1 else 0
  | _ => if a < b then 1 else 0

theorem specBin (n : Nat) (a b : Int) : Pure Try.prog 88 [.str (sgn n), .int .i64 a, .int .i64 b] (.int .i64 (alu n a b)) := by
  intro T
  match n with
  | 0 =>
    refine enter mixed MW12 Try.func88 rfl (by kernel_rfl) rfl ?_
    repeat' (first
     | with_reducible refine stp ?_
     | with_reducible refine k_blk_o rfl ?_
     | with_reducible refine k_seq_n ?_
     | ((try (conv => arg 1; simp [sgn, sg0, sg1, sg2, sg3, sg4, sg5])); with_reducible refine evp ?_)
     | ((with_reducible refine apn ?na ?_); (case na => simp [appNames, ints, intss] <;> first | kernel_rfl | (refine ⟨?_, ?_⟩ <;> kernel_rfl)))
     | fail)
    exact .int _ _
  | 1 =>
    refine enter mixed MW12 Try.func88 rfl (by kernel_rfl) rfl ?_
    repeat' (first
     | with_reducible refine stp ?_
     | with_reducible refine k_blk_o rfl ?_
     | with_reducible refine k_seq_n ?_
     | ((try (conv => arg 1; simp [sgn, sg0, sg1, sg2, sg3, sg4, sg5])); with_reducible refine evp ?_)
     | ((with_reducible refine apn ?na ?_); (case na => simp [appNames, ints, intss] <;> first | kernel_rfl | (refine ⟨?_, ?_⟩ <;> kernel_rfl)))
     | fail)
    exact .int _ _
  | 2 =>
    refine enter mixed MW12 Try.func88 rfl (by kernel_rfl) rfl ?_
    repeat' (first
     | with_reducible refine stp ?_
     | with_reducible refine k_blk_o rfl ?_
     | with_reducible refine k_seq_n ?_
     | ((try (conv => arg 1; simp [sgn, sg0, sg1, sg2, sg3, sg4, sg5])); with_reducible refine evp ?_)
     | ((with_reducible refine apn ?na ?_); (case na => simp [appNames, ints, intss] <;> first | kernel_rfl | (refine ⟨?_, ?_⟩ <;> kernel_rfl)))
     | fail)
    exact .int _ _
  | 3 =>
    refine enter mixed MW12 Try.func88 rfl (by kernel_rfl) rfl ?_
    repeat' (first
     | with_reducible refine stp ?_
     | with_reducible refine k_blk_o rfl ?_
     | with_reducible refine k_seq_n ?_
     | ((try (conv => arg 1; simp [sgn, sg0, sg1, sg2, sg3, sg4, sg5])); with_reducible refine evp ?_)
     | ((with_reducible refine apn ?na ?_); (case na => simp [appNames, ints, intss] <;> first | kernel_rfl | (refine ⟨?_, ?_⟩ <;> kernel_rfl)))
     | fail)
    exact .int _ _
  | 4 =>
    refine enter mixed MW12 Try.func88 rfl (by kernel_rfl) rfl ?_
    repeat' (first
     | with_reducible refine stp ?_
     | with_reducible refine k_blk_o rfl ?_
     | with_reducible refine k_seq_n ?_
     | ((try (conv => arg 1; simp [sgn, sg0, sg1, sg2, sg3, sg4, sg5])); with_reducible refine evp ?_)
     | ((with_reducible first | refine gd_b (fun hb => ?_) (fun hb => ?_) | refine br_b (fun hb => ?_) (fun hb => ?_)) <;> ((try simp only [Bool.not_eq_eq_eq_not, Bool.not_true, Bool.not_false] at hb); (try simp only [hb]); (try simp at hb)))
     | ((with_reducible refine apn ?na ?_); (case na => simp [appNames, ints, intss] <;> first | kernel_rfl | (refine ⟨?_, ?_⟩ <;> kernel_rfl)))
     | fail)
    all_goals exact dr_int (by simp_all [alu])
  | n + 5 =>
    refine enter mixed MW12 Try.func88 rfl (by kernel_rfl) rfl ?_
    repeat' (first
     | with_reducible refine stp ?_
     | with_reducible refine k_blk_o rfl ?_
     | with_reducible refine k_seq_n ?_
     | ((try (conv => arg 1; simp [sgn, sg0, sg1, sg2, sg3, sg4, sg5])); with_reducible refine evp ?_)
     | ((with_reducible first | refine gd_b (fun hb => ?_) (fun hb => ?_) | refine br_b (fun hb => ?_) (fun hb => ?_)) <;> ((try simp only [Bool.not_eq_eq_eq_not, Bool.not_true, Bool.not_false] at hb); (try simp only [hb]); (try simp at hb)))
     | ((with_reducible refine apn ?na ?_); (case na => simp [appNames, ints, intss] <;> first | kernel_rfl | (refine ⟨?_, ?_⟩ <;> kernel_rfl)))
     | fail)
    all_goals exact dr_int (by simp_all [alu] <;> omega)

theorem bin (n : Nat) (a b : Int) : Pure Try.prog 82 [.str (sgn n), .int .i64 a, .int .i64 b] (.int .i64 (alu n a b)) := by
  intro T
  match n with
  | 0 =>
    refine enter mixed MW12 Try.func82 rfl (by kernel_rfl) rfl ?_
    repeat' (first
     | with_reducible refine stp ?_
     | with_reducible refine k_blk_o rfl ?_
     | with_reducible refine k_seq_n ?_
     | ((try (conv => arg 1; simp [sgn, sg0, sg1, sg2, sg3, sg4, sg5])); with_reducible refine evp ?_)
     | ((with_reducible refine apn ?na ?_); (case na => simp [appNames, ints, intss] <;> first | kernel_rfl | (refine ⟨?_, ?_⟩ <;> kernel_rfl)))
     | fail)
    exact .int _ _
  | 1 =>
    refine enter mixed MW12 Try.func82 rfl (by kernel_rfl) rfl ?_
    repeat' (first
     | with_reducible refine stp ?_
     | with_reducible refine k_blk_o rfl ?_
     | with_reducible refine k_seq_n ?_
     | ((try (conv => arg 1; simp [sgn, sg0, sg1, sg2, sg3, sg4, sg5])); with_reducible refine evp ?_)
     | ((with_reducible refine apn ?na ?_); (case na => simp [appNames, ints, intss] <;> first | kernel_rfl | (refine ⟨?_, ?_⟩ <;> kernel_rfl)))
     | fail)
    exact .int _ _
  | 2 =>
    refine enter mixed MW12 Try.func82 rfl (by kernel_rfl) rfl ?_
    repeat' (first
     | with_reducible refine stp ?_
     | with_reducible refine k_blk_o rfl ?_
     | with_reducible refine k_seq_n ?_
     | ((try (conv => arg 1; simp [sgn, sg0, sg1, sg2, sg3, sg4, sg5])); with_reducible refine evp ?_)
     | ((with_reducible refine apn ?na ?_); (case na => simp [appNames, ints, intss] <;> first | kernel_rfl | (refine ⟨?_, ?_⟩ <;> kernel_rfl)))
     | fail)
    exact .int _ _
  | 3 =>
    refine enter mixed MW12 Try.func82 rfl (by kernel_rfl) rfl ?_
    repeat' (first
     | with_reducible refine stp ?_
     | with_reducible refine k_blk_o rfl ?_
     | with_reducible refine k_seq_n ?_
     | ((try (conv => arg 1; simp [sgn, sg0, sg1, sg2, sg3, sg4, sg5])); with_reducible refine evp ?_)
     | ((with_reducible refine apn ?na ?_); (case na => simp [appNames, ints, intss] <;> first | kernel_rfl | (refine ⟨?_, ?_⟩ <;> kernel_rfl)))
     | fail)
    exact .int _ _
  | 4 =>
    refine enter mixed MW12 Try.func82 rfl (by kernel_rfl) rfl ?_
    repeat' (first
     | with_reducible refine stp ?_
     | with_reducible refine k_blk_o rfl ?_
     | with_reducible refine k_seq_n ?_
     | ((try (conv => arg 1; simp [sgn, sg0, sg1, sg2, sg3, sg4, sg5])); with_reducible refine evp ?_)
     | ((with_reducible first | refine gd_b (fun hb => ?_) (fun hb => ?_) | refine br_b (fun hb => ?_) (fun hb => ?_)) <;> ((try simp only [Bool.not_eq_eq_eq_not, Bool.not_true, Bool.not_false] at hb); (try simp only [hb]); (try simp at hb)))
     | ((with_reducible refine apn ?na ?_); (case na => simp [appNames, ints, intss] <;> first | kernel_rfl | (refine ⟨?_, ?_⟩ <;> kernel_rfl)))
     | fail)
    all_goals exact dr_int (by simp_all [alu])
  | n + 5 =>
    refine enter mixed MW12 Try.func82 rfl (by kernel_rfl) rfl ?_
    repeat' (first
     | with_reducible refine stp ?_
     | with_reducible refine k_blk_o rfl ?_
     | with_reducible refine k_seq_n ?_
     | ((try (conv => arg 1; simp [sgn, sg0, sg1, sg2, sg3, sg4, sg5])); with_reducible refine evp ?_)
     | ((with_reducible first | refine gd_b (fun hb => ?_) (fun hb => ?_) | refine br_b (fun hb => ?_) (fun hb => ?_)) <;> ((try simp only [Bool.not_eq_eq_eq_not, Bool.not_true, Bool.not_false] at hb); (try simp only [hb]); (try simp at hb)))
     | ((with_reducible refine apn ?na ?_); (case na => simp [appNames, ints, intss] <;> first | kernel_rfl | (refine ⟨?_, ?_⟩ <;> kernel_rfl)))
     | fail)
    all_goals exact dr_int (by simp_all [alu] <;> omega)

def signs (b : Bool) : AV := .tr b [[.str (sgn 0)], [.str (sgn 1)], [.str (sgn 2)], [.str (sgn 3)], [.str (sgn 4)], [.str (sgn 5)]]
theorem implSigns : Pure Try.prog 83 [] (signs false) := by
  intro T
  refine enter mixed MW12 Try.func83 rfl (by kernel_rfl) rfl ?_
  repeat' (first
   | with_reducible refine stp ?_
   | with_reducible refine k_blk_o rfl ?_
   | with_reducible refine k_seq_n ?_
   | ((try (conv => arg 1; simp)); with_reducible refine evp ?_)
   | ((with_reducible refine apn ?na ?_); (case na => simp [appNames, ints, intss] <;> first | kernel_rfl | (refine ⟨?_, ?_⟩ <;> kernel_rfl)))
   | fail)
  have hz : Try.prog.types[9].size = 1 := by kernel_rfl
  refine (own_row (s := 1) (xs := [[.str (sgn 0)], [.str (sgn 1)], [.str (sgn 2)], [.str (sgn 3)], [.str (sgn 4)], [.str (sgn 5)]]) (ys := [[.str (sgn 0)], [.str (sgn 1)], [.str (sgn 2)], [.str (sgn 3)], [.str (sgn 4)], [.str (sgn 5)]]) (by simp [sgn, hz]) (by rfl) rfl (by simp) (by simp [flatc]) (clRow_flat (by simp [flatc]))).dr 0 _ _ rfl rfl
end Go.Proofs.Ytfgaoojogididaa.AM

/-
  A stepper's state: the program's copy.
-/
set_option linter.unusedVariables false
set_option linter.unusedSimpArgs false
set_option maxRecDepth 4000
namespace Go.Proofs.Ytfgaoojogididaa.AM
open Go.RowKit

private def MW13 : FuncId → Mode := fun f => .tree

/-- What a state's output is known to be: in a row of whole numbers. -/
def OutR (rows : Nm → Option Row) (v : AV) : Prop := ∀ l n ver off len, v = .agg l → l[5]? = some (.sl n ver off len) → ∃ r, rows n = some r ∧ r.ver = ver ∧ r.esz = 1
theorem OutR.congr {rows rows' : Nm → Option Row} {v : AV} {c : Cpu} {ns : List Nm} (o : OwnV rows true v (.agg (c.cells true)) ns) (p : ∀ n ∈ ns, rows' n = rows n) (q : OutR rows v) : OutR rows' v := by
  obtain ⟨w1, w2, w3, w4, w5, n1, n2, n3, n4, n5, e1, e2, o1, o2, o3, o4, o5⟩ := ownV_cpu o
  intro l n ver off len e e'
  obtain ⟨r, h1, h2⟩ := q l n ver off len e e'
  rw [e1] at e
  cases e
  have e' : w5 = .sl n ver off len := by simpa using e'
  refine ⟨r, ?_, h2⟩
  rw [p n ?_]
  · exact h1
  · rw [e2]
    have : n ∈ n5 := by
      rw [e'] at o5
      generalize ints true c.Out = t at o5
      cases o5 <;> simp
    simp [this]
/-- A function whose result is a state of its own. -/
def FreshC (P : Program) (f : FuncId) (args : List AV) (c : Cpu) : Prop := ∀ T, Sound P f args (.mt T) fun v h' => ∃ ns, (∀ b, OwnV h'.rows b v (.agg (c.cells b)) ns) ∧ ns.Nodup ∧ (∀ n ∈ ns, n.1 < h'.tick) ∧ OutR h'.rows v
theorem FreshC.w {P : Program} {f : FuncId} {args : List AV} {c : Cpu} (h : FreshC P f args c) : FreshW P f args (fun b => .agg (c.cells b)) := fun T => (h T).mono fun v h' ⟨ns, k, d, l, _⟩ => ⟨ns, k, d, l⟩
theorem st_freshc {P : Program} {M : FuncId → Mode} {h : Hp} {g : FuncId} {args targs : List AV} {c : Cpu} {N : AV → Hp → Prop} (hm : M g = .fresh) (hp : FreshC P g targs c) (ha : DRs true h.rows args targs)
    (hk : ∀ v h' ns, (∀ b, OwnV h'.rows b v (.agg (c.cells b)) ns) → ns.Nodup → (∀ n ∈ ns, h.tick ≤ n.1 ∧ n.1 < h'.tick) → (∀ n, n.1 < h.tick → h'.rows n = h.rows n) → h.tick ≤ h'.tick → OutR h'.rows v → N v h') : callW M (Sound P) g args h N := by
  unfold callW
  rw [hm]
  refine .inl ⟨targs, ha, (hp h.tick).mono ?_⟩
  rintro v h' ⟨ns, h1, h2, h3, h4⟩ low ht
  have h3 : ∀ n ∈ ns, h.tick ≤ n.1 ∧ n.1 < h'.tick := fun n hn => by
    obtain ⟨r, hr, _⟩ := (h1 true).row n hn
    exact ⟨low n r hr, h3 n hn⟩
  have hj : ∀ n ∈ ns, (h.join (fun n => if n ∈ ns then h'.rows n else none) h'.tick).rows n = h'.rows n := fun n hn => by
    have := (h3 n hn).1
    simp only [Hp.join]
    rw [if_neg (by omega), if_pos hn]
  refine ⟨fun n => if n ∈ ns then h'.rows n else none, fun n r hn => ?_, (h1 true).cl, hk v _ ns (fun c => (h1 c).congr hj) h2 h3 (fun n hn => ?_) ht (h4.congr (h1 true) hj)⟩
  · by_cases hm : n ∈ ns
    · obtain ⟨r', q1, q2⟩ := (h1 true).row n hm
      simp only [if_pos hm] at hn
      rw [q1] at hn
      cases hn
      exact ⟨q1, q2⟩
    · simp [if_neg hm] at hn
  · simp only [Hp.join, if_pos hn]
theorem cx_kg {P : Program} {M : FuncId → Mode} {C : CS} {D : Array Oper → (Nat → AV) → Hp → ((Nat → AV) → Hp → Prop) → Prop} {σ : Nat → AV} {K : Ex → (Nat → AV) → Hp → Prop} {h : Hp} {bs : Bx} {os : Ox} (F : Hp → Prop) {b : Code} (c : Cx h bs os) (f : F h) (k : ∀ h', Cx h' bs os → F h' → wpC P M C D b σ h' K) : KSeq P M C D b K .normal σ h := k h c f

theorem copyCpu (c : Cpu) (hs : c.Small) : FreshC Try.prog 70 [.agg (c.cells true)] c := by
  intro T
  have z1 : c.Regs.length ≤ 4294967296 := by have := hs.regs; omega
  have z2 : c.Slots.length ≤ 4294967296 := by have := hs.slots; omega
  have z4 : c.Input.length ≤ 4294967296 := by have := hs.input; omega
  have z5 : c.Out.length ≤ 4294967296 := by have := hs.out; omega
  have z3 : c.Mem.length ≤ 2 ^ 20 := (mem_small hs.mem).1
  refine enter mixed MW13 Try.func70 rfl (by kernel_rfl) rfl ?_
  repeat' (first
   | with_reducible refine stp ?_
   | with_reducible refine k_blk_o rfl ?_
   | ((try (conv => arg 1; simp [Cpu.cells])); with_reducible refine evp ?_)
   | ((with_reducible refine apn ?na ?_); (case na => simp [appNames, ints, intss] <;> first | kernel_rfl | (refine ⟨?_, ?_⟩ <;> kernel_rfl)))
   | fail)
  refine cx_k ((Cx.mt.next.box_one (T := T) (i := 0) Cx.mt.off (by simp)).box_add (n := (T, 1, 0)) (by simp [nms]) (by simp)) ?_
  intro h1 x1
  have l1 : T < h1.tick := x1.lt (T, 0, 0) (by simp [nms])
  have q1 : T + 1 ≤ h1.tick := l1
  repeat' (first
   | with_reducible refine stp ?_
   | with_reducible refine k_blk_o rfl ?_
   | ((try (conv => arg 1; simp [x1.b1, x1.l1, z1, l1])); with_reducible refine evp ?_)
   | ((with_reducible refine apn ?na ?_); (case na => simp [appNames, ints, intss] <;> first | kernel_rfl | (refine ⟨?_, ?_⟩ <;> kernel_rfl)))
   | fail)
  refine cx_k ((x1.next.new_ints x1.off (by simp)).box_set1) ?_
  intro h2 x2
  have l2 : T < h2.tick := x2.lt (T, 0, 0) (by simp [nms])
  have q2 : h1.tick < h2.tick := x2.lt (h1.tick, 0, 0) (by simp [nms])
  repeat' (first
   | with_reducible refine stp ?_
   | with_reducible refine k_blk_o rfl ?_
   | ((try (conv => arg 1; simp [x2.b1, x2.l1, z2, l2])); with_reducible refine evp ?_)
   | ((with_reducible refine apn ?na ?_); (case na => simp [appNames, ints, intss] <;> first | kernel_rfl | (refine ⟨?_, ?_⟩ <;> kernel_rfl)))
   | fail)
  refine cx_k ((x2.next.new_ints x2.off (by simp)).box_set1) ?_
  intro h3 x3
  have l3 : T < h3.tick := x3.lt (T, 0, 0) (by simp [nms])
  have q3 : h2.tick < h3.tick := x3.lt (h2.tick, 0, 0) (by simp [nms])
  repeat' (first
   | with_reducible refine stp ?_
   | with_reducible refine k_blk_o rfl ?_
   | ((try (conv => arg 1; simp [x3.b1, x3.l1, z4, l3])); with_reducible refine evp ?_)
   | ((with_reducible refine apn ?na ?_); (case na => simp [appNames, ints, intss] <;> first | kernel_rfl | (refine ⟨?_, ?_⟩ <;> kernel_rfl)))
   | fail)
  refine cx_k ((x3.next.new_ints x3.off (by simp)).box_set1) ?_
  intro h4 x4
  have l4 : T < h4.tick := x4.lt (T, 0, 0) (by simp [nms])
  have q4 : h3.tick < h4.tick := x4.lt (h3.tick, 0, 0) (by simp [nms])
  repeat' (first
   | with_reducible refine stp ?_
   | with_reducible refine k_blk_o rfl ?_
   | ((try (conv => arg 1; simp [x4.b1, x4.l1, z5, l4])); with_reducible refine evp ?_)
   | ((with_reducible refine apn ?na ?_); (case na => simp [appNames, ints, intss] <;> first | kernel_rfl | (refine ⟨?_, ?_⟩ <;> kernel_rfl)))
   | fail)
  have n4 : ¬ h4.tick = T := by omega
  refine cx_kg (fun h' => ∃ es, h'.rows (h4.tick, 0, 0) = some ⟨if c.Out = [] then 0 else 1, 1, es⟩) ((x4.next.new_ints x4.off (by simp)).box_set1) ⟨c.Out.map fun n => [.int .i64 n], by simp [n4]⟩ ?_
  intro h5 x5 f5
  have l5 : T < h5.tick := x5.lt (T, 0, 0) (by simp [nms])
  have q5 : h4.tick < h5.tick := x5.lt (h4.tick, 0, 0) (by simp [nms])
  repeat' (first
   | with_reducible refine stp ?_
   | with_reducible refine k_blk_o rfl ?_
   | ((try (conv => arg 1; simp [z1])); with_reducible refine evp ?_)
   | ((with_reducible refine apn ?na ?_); (case na => simp [appNames, ints, intss] <;> first | kernel_rfl | (refine ⟨?_, ?_⟩ <;> kernel_rfl)))
   | fail)
  refine cx_kg (fun h' => ∃ es, h'.rows (h4.tick, 0, 0) = some ⟨if c.Out = [] then 0 else 1, 1, es⟩) ((x5.next.box_one (i := 0) x5.off (by simp)).agg_nil) (by obtain ⟨es, f5⟩ := f5; exact ⟨es, by simp [f5, show ¬ h4.tick = h5.tick by omega]⟩) ?_
  intro h6 x6 f6
  have q6 : h5.tick < h6.tick := x6.lt (h5.tick, 0, 0) (by simp [nms])
  have l6 : T < h6.tick := by omega
  repeat' (first
   | with_reducible refine stp ?_
   | with_reducible refine k_blk_o rfl ?_
   | with_reducible refine k_seq_n ?_
   | ((try (conv => arg 1; simp [x6.b2])); with_reducible refine evp ?_)
   | ((with_reducible refine apn ?na ?_); (case na => simp [appNames, ints, intss] <;> first | kernel_rfl | (refine ⟨?_, ?_⟩ <;> kernel_rfl)))
   | fail)
  refine st_loop (fun (i : Nat) σ h => i ≤ c.Mem.length ∧ σ 1 = .ptr (T, 0, 0) 0 0 0 ∧ σ 2 = .ptr (T, 1, 0) 0 0 0 ∧ σ 28 = intss true c.Mem ∧ σ 29 = .int .i64 c.Mem.length ∧ σ 30 = .int .i64 i ∧ σ 3 = .sl (h5.tick, 0, 0) i 0 i ∧ h6.tick ≤ h.tick ∧ (∃ es, h.rows (h4.tick, 0, 0) = some ⟨if c.Out = [] then 0 else 1, 1, es⟩) ∧ ∃ vs ns, vs.length = i ∧ (∀ n ∈ ns, h6.tick ≤ n.1) ∧
    Cx h [((h5.tick, 0, 0), ⟨i, 1, vs.map fun v => [v]⟩), ((T, 1, 0), ⟨0, 9, [[.int .i64 0, .nilsl, .nilsl, .nilsl, .nilsl, .nilsl, .int .i64 0, .bool false, .int .i64 0]]⟩), ((T, 0, 0), ⟨0, 9, [[.int .i64 c.At, .sl (h1.tick, 0, 0) (if c.Regs = [] then 0 else 1) 0 c.Regs.length, .sl (h2.tick, 0, 0) (if c.Slots = [] then 0 else 1) 0 c.Slots.length, intss true c.Mem, .sl (h3.tick, 0, 0) (if c.Input = [] then 0 else 1) 0 c.Input.length, .sl (h4.tick, 0, 0) (if c.Out = [] then 0 else 1) 0 c.Out.length, .int .i64 c.Code, .bool c.Over, .int .i64 c.Val]]⟩)]
      [(.agg vs, (fun b => .agg ((c.Mem.take i).map (ints b))), ns),
       (.sl (h4.tick, 0, 0) (if c.Out = [] then 0 else 1) 0 c.Out.length, (fun b => ints b c.Out), [(h4.tick, 0, 0)]), (.sl (h3.tick, 0, 0) (if c.Input = [] then 0 else 1) 0 c.Input.length, (fun b => ints b c.Input), [(h3.tick, 0, 0)]),
       (.sl (h2.tick, 0, 0) (if c.Slots = [] then 0 else 1) 0 c.Slots.length, (fun b => ints b c.Slots), [(h2.tick, 0, 0)]), (.sl (h1.tick, 0, 0) (if c.Regs = [] then 0 else 1) 0 c.Regs.length, (fun b => ints b c.Regs), [(h1.tick, 0, 0)])]) (fun i => c.Mem.length - i) 0 ?init ?step
  case init =>
    refine ⟨Nat.zero_le _, by simp, by simp, by simp, by simp, by simp, by simp, by simp, by simpa using f6, [], [], rfl, by simp, ?_⟩
    exact x6.next
  case step =>
    rintro i σ h ⟨hi, s1, s2, s28, s29, s30, s3, ht, ⟨eo, fo⟩, vs, ns, hvl, hns, x⟩
    repeat' (first
     | with_reducible refine stp ?_
     | with_reducible refine k_blk_o rfl ?_
     | with_reducible refine k_seq_n ?_
     | ((try (conv => arg 1; simp [s29, s30])); with_reducible refine evp ?_)
     | ((with_reducible refine apn ?na ?_); (case na => simp [appNames, ints, intss] <;> first | kernel_rfl | (refine ⟨?_, ?_⟩ <;> kernel_rfl)))
     | fail)
    (try with_reducible refine st_if ?_)
    (try (conv => arg 1; simp [s1]))
    (try with_reducible refine at_mk ?_)
    refine ⟨fun hb => ?_, fun hb => ?_⟩
    · have hlt : i < c.Mem.length := by simpa using hb
      have hx : c.Mem[i]? = some (c.Mem[i]) := by simp
      have hz : (c.Mem[i]).length ≤ 4294967296 := by have := (mem_small hs.mem).2 _ (List.getElem_mem hlt); omega
      have hw : IntKind.i64.wrap (i + 1) = i + 1 := wrap_id (by omega) (by omega)
      have l5 : h5.tick < h.tick := x.lt (h5.tick, 0, 0) (by simp [nms])
      repeat' (first
       | with_reducible refine stp ?_
       | with_reducible refine k_blk_o rfl ?_
       | with_reducible refine k_seq_n ?_
       | ((try (conv => arg 1; simp [s28, s30, intss, hx])); with_reducible refine evp ?_)
       | ((with_reducible refine apn ?na ?_); (case na => simp [appNames, ints, intss] <;> first | kernel_rfl | (refine ⟨?_, ?_⟩ <;> kernel_rfl)))
       | fail)
      repeat' (first
       | with_reducible refine stp ?_
       | with_reducible refine k_blk_o rfl ?_
       | with_reducible refine k_seq_n ?_
       | ((try (conv => arg 1; simp [s3, hz])); with_reducible refine evp ?_)
       | ((with_reducible refine apn ?na ?_); (case na => simp [appNames, ints, intss] <;> first | kernel_rfl | (refine ⟨?_, ?_⟩ <;> kernel_rfl)))
       | fail)
      (try with_reducible refine st_m rfl ?_)
      conv => arg 1; simp [s3]
      have ne5 : ¬ h5.tick = h.tick + 1 + 1 := by omega
      have hq : ∀ j, (h.tick + 1 + 1, j, 0) ∉ nms _ _ := fun j e => by have := x.lt _ e; simp at this; omega
      rw [appendA_snoc (s := 1) (l := vs.map fun v => [v]) (e := [.sl (h.tick + 1 + 1, 1, 0) (if c.Mem[i] = [] then 0 else 1) 0 c.Mem[i].length]) (by kernel_rfl) ?hr (by simp [hvl]) ?hk rfl (by omega) ?hm]
      case hr => simp [x.b0, ne5]
      case hk => simp
      case hm => simp; omega
      refine ev2_some ?_
      repeat' (first
       | with_reducible refine stp ?_
       | with_reducible refine k_blk_o rfl ?_
       | with_reducible refine k_seq_n ?_
       | ((try (conv => arg 1; simp [s30, hw])); with_reducible refine evp ?_)
       | ((with_reducible refine apn ?na ?_); (case na => simp [appNames, ints, intss] <;> first | kernel_rfl | (refine ⟨?_, ?_⟩ <;> kernel_rfl)))
       | fail)
      have c1 := (x.next.next.next).new_ints (T := h.tick + 1 + 1) (i := 1) (r := ⟨0, 1, []⟩) (ver := if c.Mem[i] = [] then 0 else 1) (xs := c.Mem[i]) (fun n hn e => by have := x.lt n hn; omega) (by simp)
      have c2 := c1.agg_snoc (fun b => rfl)
      have c3 := c2.put_junk (n := (h.tick + 1 + 1, 4, 0)) (r := ⟨0, 1, [[.sl (h.tick + 1 + 1, 1, 0) (if c.Mem[i] = [] then 0 else 1) 0 c.Mem[i].length]]⟩) (nin_agg (hq 4) (by simp))
      have c4 := c3.box_set (r' := ⟨i + 1, 1, vs.map (fun v => [v]) ++ [[.sl (h.tick + 1 + 1, 1, 0) (if c.Mem[i] = [] then 0 else 1) 0 c.Mem[i].length]]⟩)
      refine k_lp_n (i + 1) (by omega) ⟨by omega, by simp [s1], by simp [s2], by simp [s28], by simp [s29], by simp [s30], by simp, by simp; omega, ⟨eo, by simp [fo, show ¬ h4.tick = h.tick + 1 + 1 by omega, show ¬ h4.tick = h5.tick by omega]⟩, vs ++ [.sl (h.tick + 1 + 1, 1, 0) (if c.Mem[i] = [] then 0 else 1) 0 c.Mem[i].length], ns ++ [(h.tick + 1 + 1, 1, 0)], by simp [hvl], fun n hn => ?_, ?_⟩
      · simp only [List.mem_append, List.mem_singleton] at hn
        rcases hn with hn | hn
        · exact hns n hn
        · subst hn; simp; omega
      · rw [List.map_append, List.map_cons, List.map_nil]
        have e1 : ∀ b, (c.Mem.take (i + 1)).map (ints b) = (c.Mem.take i).map (ints b) ++ [ints b c.Mem[i]] := fun b => by rw [List.take_add_one, hx, Option.toList_some, List.map_append]; rfl
        simp only [e1]
        exact c4.next
    · have hge : i = c.Mem.length := by simp at hb; omega
      subst hge
      have hT : T < h.tick := x.lt (T, 0, 0) (by simp [nms])
      have hT2 : T < h.tick + 1 + 1 := by omega
      have hT3 : T < h.tick + 1 + 1 + 1 := by omega
      repeat' (first
       | with_reducible refine stp ?_
       | with_reducible refine k_blk_o rfl ?_
       | with_reducible refine k_seq_n ?_
       | ((try (conv => arg 1; simp [s1, s2, s3, x.b1, x.b2, x.l2, hT2, hT3])); with_reducible refine evp ?_)
       | ((with_reducible refine apn ?na ?_); (case na => simp [appNames, ints, intss] <;> first | kernel_rfl | (refine ⟨?_, ?_⟩ <;> kernel_rfl)))
       | fail)
      have c1 := x.next.next.box_set2 (r' := ⟨0, 9, [[.int .i64 c.At, .sl (h1.tick, 0, 0) (if c.Regs = [] then 0 else 1) 0 c.Regs.length, .sl (h2.tick, 0, 0) (if c.Slots = [] then 0 else 1) 0 c.Slots.length, .sl (h5.tick, 0, 0) c.Mem.length 0 c.Mem.length, .sl (h3.tick, 0, 0) (if c.Input = [] then 0 else 1) 0 c.Input.length, .sl (h4.tick, 0, 0) (if c.Out = [] then 0 else 1) 0 c.Out.length, .int .i64 c.Code, .bool c.Over, .int .i64 c.Val]]⟩)
      have c2 := c1.next.box_set1 (r' := ⟨0, 9, [[.int .i64 c.At, .sl (h1.tick, 0, 0) (if c.Regs = [] then 0 else 1) 0 c.Regs.length, .sl (h2.tick, 0, 0) (if c.Slots = [] then 0 else 1) 0 c.Slots.length, .sl (h5.tick, 0, 0) c.Mem.length 0 c.Mem.length, .sl (h3.tick, 0, 0) (if c.Input = [] then 0 else 1) 0 c.Input.length, .sl (h4.tick, 0, 0) (if c.Out = [] then 0 else 1) 0 c.Out.length, .int .i64 c.Code, .bool c.Over, .int .i64 c.Val]]⟩)
      have om : ∀ b, Own ((h.next.next.put (T, 0, 0) _).next.put (T, 1, 0) _).rows b [.sl (h5.tick, 0, 0) c.Mem.length 0 c.Mem.length] [intss b c.Mem] ((h5.tick, 0, 0) :: ns) := fun b => by
        have o1 := c2.o0 b
        have e2 : (c.Mem.take c.Mem.length).map (ints b) = c.Mem.map (ints b) := by rw [List.take_length]
        generalize hu : AV.agg ((c.Mem.take c.Mem.length).map (ints b)) = u at o1
        cases o1 with
        | one h => subst hu; cases h
        | agg o1 =>
          cases hu
          rw [e2] at o1
          exact own_intss_mk (sp := []) (by rw [List.append_nil]; exact c2.b0) (by simp) (fun i e j x he => by simp at he) o1
      have q7 : ∀ n ∈ ns, h6.tick ≤ n.1 := hns
      have fin : ∀ b, Own ((h.next.next.put (T, 0, 0) _).next.put (T, 1, 0) _).rows b _ _ ([(h1.tick, 0, 0)] ++ ([(h2.tick, 0, 0)] ++ (((h5.tick, 0, 0) :: ns) ++ ([(h3.tick, 0, 0)] ++ ([(h4.tick, 0, 0)] ++ []))))) := fun b =>
        .int .i64 c.At (Own.append (own_of (c2.o4 b) rfl) (Own.append (own_of (c2.o3 b) rfl) (Own.append (om b) (Own.append (own_of (c2.o2 b) rfl) (Own.append (own_of (c2.o1 b) rfl) (.int .i64 c.Code (.bool c.Over (.int .i64 c.Val .nil))))))))
      have qn : ∀ n ∈ ns, n.1 < h.tick := fun n hn => x.lt n (by simp [nms, hn])
      have q5 : h5.tick < h.tick := by omega
      refine ⟨_, fun b => .agg (fin b), ?_, fun n hn => ?_, fun l n ver off len e e' => ?_⟩
      · have nd : ns.Nodup := by
          have := x.nd
          simp only [nms, List.map_cons, List.flatten_cons] at this
          exact (List.nodup_append.1 (List.nodup_append.1 this).2.1).1
        have a1 : ∀ t, t < h6.tick → (t, 0, 0) ∉ ns := fun t ht e => by have := hns _ e; simp at this; omega
        have a2 : ∀ (a b c : Nat), (a, b, c) ∈ ns → h6.tick ≤ a := fun a b c hm => hns _ hm
        simp [List.nodup_append, nd]
        and_intros <;> first | omega | exact a1 _ (by omega) | (intro a b c hm; have := a2 a b c hm; constructor <;> intro <;> omega)
      · simp at hn
        simp only [hp_next_tick, hp_put_tick]
        rcases hn with rfl | rfl | rfl | hn | rfl | rfl
        all_goals first | (simp only; omega) | (have := qn n hn; have := q7 n hn; omega)
      · cases e
        simp at e'
        obtain ⟨rfl, rfl, rfl, rfl⟩ := e'
        exact ⟨⟨if c.Out = [] then 0 else 1, 1, eo⟩, by simp [fo, show ¬ h4.tick = T by omega], rfl, rfl⟩
end Go.Proofs.Ytfgaoojogididaa.AM

/-
  A stepper's state: the reference's copy.
-/
set_option linter.unusedVariables false
set_option linter.unusedSimpArgs false
set_option maxRecDepth 4000
namespace Go.Proofs.Ytfgaoojogididaa.AM
open Go.RowKit

private def MW14 : FuncId → Mode := fun f => .tree

theorem l15Copy (c : Cpu) (hs : c.Small) : FreshC Try.prog 67 [.agg (c.cells true)] c := by
  intro T
  have z1 : c.Regs.length ≤ 4294967296 := by have := hs.regs; omega
  have z2 : c.Slots.length ≤ 4294967296 := by have := hs.slots; omega
  have z4 : c.Input.length ≤ 4294967296 := by have := hs.input; omega
  have z5 : c.Out.length ≤ 4294967296 := by have := hs.out; omega
  have z3 : c.Mem.length ≤ 2 ^ 20 := (mem_small hs.mem).1
  refine enter mixed MW14 Try.func67 rfl (by kernel_rfl) rfl ?_
  repeat' (first
   | with_reducible refine stp ?_
   | with_reducible refine k_blk_o rfl ?_
   | ((try (conv => arg 1; simp [Cpu.cells])); with_reducible refine evp ?_)
   | ((with_reducible refine apn ?na ?_); (case na => simp [appNames, ints, intss] <;> first | kernel_rfl | (refine ⟨?_, ?_⟩ <;> kernel_rfl)))
   | fail)
  refine cx_k ((Cx.mt.next.box_one (T := T) (i := 0) Cx.mt.off (by simp)).box_add (n := (T, 1, 0)) (by simp [nms]) (by simp)) ?_
  intro h0 x0
  have l0 : T < h0.tick := x0.lt (T, 0, 0) (by simp [nms])
  repeat' (first
   | with_reducible refine stp ?_
   | with_reducible refine k_blk_o rfl ?_
   | ((try (conv => arg 1; simp [x0.b1])); with_reducible refine evp ?_)
   | ((with_reducible refine apn ?na ?_); (case na => simp [appNames, ints, intss] <;> first | kernel_rfl | (refine ⟨?_, ?_⟩ <;> kernel_rfl)))
   | fail)
  refine cx_k (x0.next.box_new x0.off (by simp)) ?_
  intro h1 x1
  have l1 : h0.tick < h1.tick := x1.lt (h0.tick, 1, 0) (by simp [nms])
  repeat' (first
   | with_reducible refine stp ?_
   | with_reducible refine k_blk_o rfl ?_
   | ((try (conv => arg 1; simp [x1.b0, x1.b2, x1.l0, x1.l2, z1, l1])); with_reducible refine evp ?_)
   | ((with_reducible refine apn ?na ?_); (case na => simp [appNames, ints, intss] <;> first | kernel_rfl | (refine ⟨?_, ?_⟩ <;> kernel_rfl)))
   | fail)
  refine cx_k ((x1.next.new_ints x1.off (by simp)).box_set) ?_
  intro h2 x2
  have l2 : h0.tick < h2.tick := x2.lt (h0.tick, 1, 0) (by simp [nms])
  have q2 : h1.tick < h2.tick := x2.lt (h1.tick, 0, 0) (by simp [nms])
  repeat' (first
   | with_reducible refine stp ?_
   | with_reducible refine k_blk_o rfl ?_
   | ((try (conv => arg 1; simp [x2.b0, x2.b2, x2.l0, x2.l2, z2, l2])); with_reducible refine evp ?_)
   | ((with_reducible refine apn ?na ?_); (case na => simp [appNames, ints, intss] <;> first | kernel_rfl | (refine ⟨?_, ?_⟩ <;> kernel_rfl)))
   | fail)
  refine cx_k ((x2.next.new_ints x2.off (by simp)).box_set) ?_
  intro h3 x3
  have l3 : h0.tick < h3.tick := x3.lt (h0.tick, 1, 0) (by simp [nms])
  have q3 : h2.tick < h3.tick := x3.lt (h2.tick, 0, 0) (by simp [nms])
  repeat' (first
   | with_reducible refine stp ?_
   | with_reducible refine k_blk_o rfl ?_
   | ((try (conv => arg 1; simp [x3.b0, x3.l0, l3])); with_reducible refine evp ?_)
   | ((with_reducible refine apn ?na ?_); (case na => simp [appNames, ints, intss] <;> first | kernel_rfl | (refine ⟨?_, ?_⟩ <;> kernel_rfl)))
   | fail)
  refine cx_k ((x3.next.box_one (i := 0) x3.off (by simp)).box_set1) ?_
  intro h4 x4
  have l4 : h0.tick < h4.tick := x4.lt (h0.tick, 1, 0) (by simp [nms])
  have q4 : h3.tick < h4.tick := x4.lt (h3.tick, 0, 0) (by simp [nms])
  repeat' (first
   | with_reducible refine stp ?_
   | with_reducible refine k_blk_o rfl ?_
   | with_reducible refine k_seq_n ?_
   | ((try (conv => arg 1; simp [z1])); with_reducible refine evp ?_)
   | ((with_reducible refine apn ?na ?_); (case na => simp [appNames, ints, intss] <;> first | kernel_rfl | (refine ⟨?_, ?_⟩ <;> kernel_rfl)))
   | fail)
  refine st_loop (fun (i : Nat) σ h => i ≤ c.Mem.length ∧ σ 1 = .ptr (T, 0, 0) 0 0 0 ∧ σ 2 = .ptr (T, 1, 0) 0 0 0 ∧ σ 3 = .ptr (h0.tick, 1, 0) 0 0 0 ∧ σ 4 = .int .i64 i ∧ h4.tick ≤ h.tick ∧ ∃ vs ns, vs.length = i ∧ (∀ n ∈ ns, h4.tick ≤ n.1) ∧
    Cx h [((h3.tick, 0, 0), ⟨i, 1, vs.map fun v => [v]⟩), ((h0.tick, 1, 0), ⟨0, 9, [[.int .i64 c.At, .sl (h1.tick, 0, 0) (if c.Regs = [] then 0 else 1) 0 c.Regs.length, .sl (h2.tick, 0, 0) (if c.Slots = [] then 0 else 1) 0 c.Slots.length, .sl (h3.tick, 0, 0) i 0 i, ints true c.Input, ints true c.Out, .int .i64 c.Code, .bool c.Over, .int .i64 c.Val]]⟩), ((T, 1, 0), ⟨0, 9, [[.int .i64 0, .nilsl, .nilsl, .nilsl, .nilsl, .nilsl, .int .i64 0, .bool false, .int .i64 0]]⟩), ((T, 0, 0), ⟨0, 9, [[.int .i64 c.At, ints true c.Regs, ints true c.Slots, intss true c.Mem, ints true c.Input, ints true c.Out, .int .i64 c.Code, .bool c.Over, .int .i64 c.Val]]⟩)]
      [(.agg vs, (fun b => .agg ((c.Mem.take i).map (ints b))), ns),
       (.sl (h2.tick, 0, 0) (if c.Slots = [] then 0 else 1) 0 c.Slots.length, (fun b => ints b c.Slots), [(h2.tick, 0, 0)]), (.sl (h1.tick, 0, 0) (if c.Regs = [] then 0 else 1) 0 c.Regs.length, (fun b => ints b c.Regs), [(h1.tick, 0, 0)])]) (fun i => c.Mem.length - i) 0 ?init ?step
  case init =>
    refine ⟨Nat.zero_le _, by simp, by simp, by simp, by simp, by simp, [], [], rfl, by simp, ?_⟩
    exact x4.agg_nil.next
  case step =>
    rintro i σ h ⟨hi, s1, s2, s3, s4, ht, vs, ns, hvl, hns, x⟩
    repeat' (first
     | with_reducible refine stp ?_
     | with_reducible refine k_blk_o rfl ?_
     | with_reducible refine k_seq_n ?_
     | ((try (conv => arg 1; simp [s1, s4, x.b3])); with_reducible refine evp ?_)
     | ((with_reducible refine apn ?na ?_); (case na => simp [appNames, ints, intss] <;> first | kernel_rfl | (refine ⟨?_, ?_⟩ <;> kernel_rfl)))
     | fail)
    (try with_reducible refine st_if ?_)
    (try (conv => arg 1; simp [s1]))
    (try with_reducible refine at_mk ?_)
    refine ⟨fun hb => ?_, fun hb => ?_⟩
    · have hlt : i < c.Mem.length := by simpa using hb
      have hx : c.Mem[i]? = some (c.Mem[i]) := by simp
      have hz : (c.Mem[i]).length ≤ 4294967296 := by have := (mem_small hs.mem).2 _ (List.getElem_mem hlt); omega
      have hw : IntKind.i64.wrap (i + 1) = i + 1 := wrap_id (by omega) (by omega)
      have g0 : h0.tick < h.tick := x.lt (h0.tick, 1, 0) (by simp [nms])
      have n0 : ¬ h0.tick = h.tick + 1 := by omega
      have n1 : ¬ T = h.tick + 1 := by omega
      have n2 : ¬ h0.tick = h3.tick := by omega
      have n3 : ¬ T = h3.tick := by omega
      have n4 : ¬ h3.tick = h.tick + 1 := by omega
      repeat' (first
       | with_reducible refine stp ?_
       | with_reducible refine k_blk_o rfl ?_
       | with_reducible refine k_seq_n ?_
       | ((try (conv => arg 1; simp [s1])); with_reducible refine evp ?_)
       | ((with_reducible refine apn ?na ?_); (case na => simp [appNames, ints, intss] <;> first | kernel_rfl | (refine ⟨?_, ?_⟩ <;> kernel_rfl)))
       | fail)
      repeat (with_reducible first | refine stp ?_ | refine k_seq_n ?_)
      refine st_draw 12 (fun n => decide (n = (h3.tick, 0, 0))) (by kernel_rfl) ?_
      simp only [List.take_succ_cons, List.take_zero, List.drop_succ_cons, List.drop_zero, List.take_nil, List.drop_nil]
      repeat' (first
       | with_reducible refine stp ?_
       | with_reducible refine k_blk_o rfl ?_
       | with_reducible refine k_seq_n ?_
       | ((try (conv => arg 1; simp [s1, s3, s4, x.b1, x.b3, n0, n1, n2, n3, hx, hz, intss])); with_reducible refine evp ?_)
       | ((with_reducible refine apn ?na ?_); (case na => simp [appNames, ints, intss] <;> first | kernel_rfl | (refine ⟨?_, ?_⟩ <;> kernel_rfl)))
       | fail)
      have hq : ∀ j, (h.tick + 1, j, 0) ∉ nms _ _ := fun j e => by have := x.lt _ e; simp at this; omega
      (try with_reducible refine fr_a ?_)
      (try (conv => arg 1; simp))
      (try with_reducible refine at_mk ?_)
      (try (conv => arg 1; simp))
      (try with_reducible refine at_mk ?_)
      refine ⟨?names, ?_⟩
      case names =>
        exact app_names_ot n4 (by simp) rfl (by kernel_rfl) rfl
      rw [appendA_snoc (s := 1) (l := vs.map fun v => [v]) (e := [.sl (h.tick + 1, 2, 0) (if c.Mem[i] = [] then 0 else 1) 0 c.Mem[i].length]) (by kernel_rfl) ?hr (by simp [hvl]) ?hk rfl (by omega) ?hm]
      case hr => simp [x.b0, n4]
      case hk => simp
      case hm => simp; omega
      refine ev2_some ?_
      have g2 : h0.tick < h.tick + 1 + 1 := by omega
      repeat' (first
       | with_reducible refine stp ?_
       | with_reducible refine k_blk_o rfl ?_
       | with_reducible refine k_seq_n ?_
       | ((try (conv => arg 1; simp [s1, s3, s4, x.b1, x.b3, n0, n1, n2, n3, g2])); with_reducible refine evp ?_)
       | ((with_reducible refine apn ?na ?_); (case na => simp [appNames, ints, intss] <;> first | kernel_rfl | (refine ⟨?_, ?_⟩ <;> kernel_rfl)))
       | fail)
      repeat' (first
       | with_reducible refine stp ?_
       | with_reducible refine k_blk_o rfl ?_
       | with_reducible refine k_seq_n ?_
       | ((try (conv => arg 1; simp [s4, hw])); with_reducible refine evp ?_)
       | ((with_reducible refine apn ?na ?_); (case na => simp [appNames, ints, intss] <;> first | kernel_rfl | (refine ⟨?_, ?_⟩ <;> kernel_rfl)))
       | fail)
      have c1 := (x.next.next).new_ints (T := h.tick + 1) (i := 2) (r := ⟨0, 1, []⟩) (ver := if c.Mem[i] = [] then 0 else 1) (xs := c.Mem[i]) (fun n hn e => by have := x.lt n hn; omega) (by simp)
      have c2 := c1.agg_snoc (fun b => rfl)
      have c3 := c2.put_junk (n := (h.tick + 1, 9, 0)) (r := ⟨0, 1, [[.sl (h.tick + 1, 2, 0) (if c.Mem[i] = [] then 0 else 1) 0 c.Mem[i].length]]⟩) (nin_agg (hq 9) (by simp))
      have c4 := c3.box_set (r' := ⟨i + 1, 1, vs.map (fun v => [v]) ++ [[.sl (h.tick + 1, 2, 0) (if c.Mem[i] = [] then 0 else 1) 0 c.Mem[i].length]]⟩)
      have c5 := c4.box_set1 (r' := ⟨0, 9, [[.int .i64 c.At, .sl (h1.tick, 0, 0) (if c.Regs = [] then 0 else 1) 0 c.Regs.length, .sl (h2.tick, 0, 0) (if c.Slots = [] then 0 else 1) 0 c.Slots.length, .sl (h3.tick, 0, 0) (i + 1) 0 (i + 1), ints true c.Input, ints true c.Out, .int .i64 c.Code, .bool c.Over, .int .i64 c.Val]]⟩)
      refine k_lp_n (i + 1) (by omega) ⟨by omega, by simp [s1], by simp [s2], by simp [s3], by simp [s4, hw], by simp; omega, vs ++ [.sl (h.tick + 1, 2, 0) (if c.Mem[i] = [] then 0 else 1) 0 c.Mem[i].length], ns ++ [(h.tick + 1, 2, 0)], by simp [hvl], fun n hn => ?_, ?_⟩
      · simp only [List.mem_append, List.mem_singleton] at hn
        rcases hn with hn | hn
        · exact hns n hn
        · subst hn; simp; omega
      · rw [List.map_append, List.map_cons, List.map_nil]
        have e1 : ∀ b, (c.Mem.take (i + 1)).map (ints b) = (c.Mem.take i).map (ints b) ++ [ints b c.Mem[i]] := fun b => by rw [List.take_add_one, hx, Option.toList_some, List.map_append]; rfl
        simp only [e1]
        exact c5.next
    · have hge : i = c.Mem.length := by simp at hb; omega
      subst hge
      have g0 : h0.tick < h.tick := x.lt (h0.tick, 1, 0) (by simp [nms])
      repeat' (first
       | with_reducible refine stp ?_
       | with_reducible refine k_blk_o rfl ?_
       | ((try (conv => arg 1; simp [s1])); with_reducible refine evp ?_)
       | ((with_reducible refine apn ?na ?_); (case na => simp [appNames, ints, intss] <;> first | kernel_rfl | (refine ⟨?_, ?_⟩ <;> kernel_rfl)))
       | fail)
      refine k_seq_n ?_
      refine cx_wpt x.next ?_
      intro h5 x5 t5
      simp only [hp_next_tick] at t5
      have g5 : h0.tick < h5.tick := x5.lt (h0.tick, 1, 0) (by simp [nms])
      have qn5 : ∀ n ∈ ns, n.1 < h5.tick := fun n hn => x5.lt n (by simp [nms, hn])
      have qm5 : h4.tick ≤ h5.tick := by omega
      repeat' (first
       | with_reducible refine stp ?_
       | with_reducible refine k_blk_o rfl ?_
       | ((try (conv => arg 1; simp [s1, s3, x5.b1, x5.b3, x5.l1, x5.l3, z4, g5])); with_reducible refine evp ?_)
       | ((with_reducible refine apn ?na ?_); (case na => simp [appNames, ints, intss] <;> first | kernel_rfl | (refine ⟨?_, ?_⟩ <;> kernel_rfl)))
       | fail)
      refine cx_k ((x5.next.new_ints x5.off (by simp)).box_set1) ?_
      intro h6 x6
      have g6 : h0.tick < h6.tick := x6.lt (h0.tick, 1, 0) (by simp [nms])
      have q6 : h5.tick < h6.tick := x6.lt (h5.tick, 0, 0) (by simp [nms])
      repeat' (first
       | with_reducible refine stp ?_
       | with_reducible refine k_blk_o rfl ?_
       | ((try (conv => arg 1; simp [s1, s3, x6.b1, x6.b3, x6.l1, x6.l3, z5, g6])); with_reducible refine evp ?_)
       | ((with_reducible refine apn ?na ?_); (case na => simp [appNames, ints, intss] <;> first | kernel_rfl | (refine ⟨?_, ?_⟩ <;> kernel_rfl)))
       | fail)
      refine cx_kg (fun h' => ∃ es, h'.rows (h6.tick, 0, 0) = some ⟨if c.Out = [] then 0 else 1, 1, es⟩) ((x6.next.new_ints x6.off (by simp)).box_set1) ⟨c.Out.map fun n => [.int .i64 n], by simp [show ¬ h6.tick = h0.tick by omega]⟩ ?_
      rintro h7 x7 ⟨eo, fo⟩
      have l7 : T < h7.tick := x7.lt (T, 0, 0) (by simp [nms])
      have q7 : h6.tick < h7.tick := x7.lt (h6.tick, 0, 0) (by simp [nms])
      repeat' (first
       | with_reducible refine stp ?_
       | with_reducible refine k_blk_o rfl ?_
       | with_reducible refine k_seq_n ?_
       | ((try (conv => arg 1; simp [s2, s3, x7.b1, x7.b2, l7])); with_reducible refine evp ?_)
       | ((with_reducible refine apn ?na ?_); (case na => simp [appNames, ints, intss] <;> first | kernel_rfl | (refine ⟨?_, ?_⟩ <;> kernel_rfl)))
       | fail)
      have c2 := x7.next.box_set2 (r' := ⟨0, 9, [[.int .i64 c.At, .sl (h1.tick, 0, 0) (if c.Regs = [] then 0 else 1) 0 c.Regs.length, .sl (h2.tick, 0, 0) (if c.Slots = [] then 0 else 1) 0 c.Slots.length, .sl (h3.tick, 0, 0) c.Mem.length 0 c.Mem.length, .sl (h5.tick, 0, 0) (if c.Input = [] then 0 else 1) 0 c.Input.length, .sl (h6.tick, 0, 0) (if c.Out = [] then 0 else 1) 0 c.Out.length, .int .i64 c.Code, .bool c.Over, .int .i64 c.Val]]⟩)
      have om : ∀ b, Own (h7.next.put (T, 1, 0) _).rows b [.sl (h3.tick, 0, 0) c.Mem.length 0 c.Mem.length] [intss b c.Mem] ((h3.tick, 0, 0) :: ns) := fun b => by
        have o1 := c2.o2 b
        have e2 : (c.Mem.take c.Mem.length).map (ints b) = c.Mem.map (ints b) := by rw [List.take_length]
        generalize hu : AV.agg ((c.Mem.take c.Mem.length).map (ints b)) = u at o1
        cases o1 with
        | one h => subst hu; cases h
        | agg o1 =>
          cases hu
          rw [e2] at o1
          exact own_intss_mk (sp := []) (by rw [List.append_nil]; exact c2.b0) (by simp) (fun i e j x he => by simp at he) o1
      have fin : ∀ b, Own (h7.next.put (T, 1, 0) _).rows b _ _ ([(h1.tick, 0, 0)] ++ ([(h2.tick, 0, 0)] ++ (((h3.tick, 0, 0) :: ns) ++ ([(h5.tick, 0, 0)] ++ ([(h6.tick, 0, 0)] ++ []))))) := fun b =>
        .int .i64 c.At (Own.append (own_of (c2.o4 b) rfl) (Own.append (own_of (c2.o3 b) rfl) (Own.append (om b) (Own.append (own_of (c2.o1 b) rfl) (Own.append (own_of (c2.o0 b) rfl) (.int .i64 c.Code (.bool c.Over (.int .i64 c.Val .nil))))))))
      refine ⟨_, fun b => .agg (fin b), ?_, fun n hn => ?_, fun l n ver off len e e' => ?_⟩
      · have nd : ns.Nodup := by
          have := x.nd
          simp only [nms, List.map_cons, List.flatten_cons] at this
          exact (List.nodup_append.1 (List.nodup_append.1 this).2.1).1
        have a1 : ∀ t, t < h4.tick → (t, 0, 0) ∉ ns := fun t ht e => by have := hns _ e; simp at this; omega
        have a3 : ∀ t, h5.tick ≤ t → (t, 0, 0) ∉ ns := fun t ht e => by have := qn5 _ e; simp at this; omega
        have a2 : ∀ (a b c : Nat), (a, b, c) ∈ ns → h4.tick ≤ a ∧ a < h5.tick := fun a b c hm => ⟨hns _ hm, qn5 _ hm⟩
        simp [List.nodup_append, nd]
        and_intros <;> first | omega | exact a1 _ (by omega) | exact a3 _ (by omega) | (intro a b c hm; have := a2 a b c hm; constructor <;> intro <;> omega)
      · simp at hn
        simp only [hp_next_tick, hp_put_tick]
        rcases hn with rfl | rfl | rfl | hn | rfl | rfl
        all_goals first | (simp only; omega) | (have := qn5 n hn; have := hns n hn; omega)
      · cases e
        simp at e'
        obtain ⟨rfl, rfl, rfl, rfl⟩ := e'
        exact ⟨⟨if c.Out = [] then 0 else 1, 1, eo⟩, by simp [fo, show ¬ h6.tick = T by omega], rfl, rfl⟩
end Go.Proofs.Ytfgaoojogididaa.AM

/-
  A stepper's state in memory: its parts, read and written.
-/
set_option linter.unusedVariables false
set_option linter.unusedSimpArgs false
set_option maxRecDepth 4000
namespace Go.Proofs.Ytfgaoojogididaa.AM
open Go.RowKit

def cl1 (xs : List Int) : List (List AV) := xs.map fun x => [.int .i64 x]

section
variable {h h' : Hp} {bs : Bx} {os : Ox} {n : Nm} {r r' : Row} {T : Nat} {v w : AV} {t : Bool → AV} {ns : List Nm}
theorem Cx.box_drop {x : Nm × Row} (c : Cx h (x :: bs) os) : Cx h bs os := by
  refine ⟨fun y hy => c.box y (by simp [hy]), c.own, ?_, fun m hm => c.lt m ?_⟩
  · have := c.nd
    rw [show x = (x.1, x.2) from rfl, nms_box] at this
    exact (List.nodup_cons.1 this).2
  · rw [show x = (x.1, x.2) from rfl, nms_box]
    exact List.mem_cons_of_mem _ hm
theorem own_ints_any {rows : Nm → Option Row} {w : AV} {xs : List Int} {ns : List Nm} (o : Own rows true [w] [ints true xs] ns) (b : Bool) : Own rows b [w] [ints b xs] ns := by
  rcases own_ints_inv o with ⟨rfl, hc, _⟩ | ⟨n, ver, pre, sp, rfl, rfl, hr, h1, h2, h3, h4⟩
  · exact hc b
  · exact own_ints_mk hr h1 h2 h3 h4
theorem own_list_any {rows : Nm → Option Row} : ∀ (xs : List (List Int)) (vs : List AV) (ns : List Nm) (b : Bool), Own rows true vs (xs.map (ints true)) ns → Own rows b vs (xs.map (ints b)) ns
  | [], vs, ns, b, h => by cases h; exact .nil
  | x :: xs, vs, ns, b, h => by
    obtain ⟨w, l, n1, n2, rfl, rfl, o1, o2⟩ := own_cons1 (t := ints true x) (ts := xs.map (ints true)) h
    exact Own.append (own_ints_any o1 b) (own_list_any xs l n2 b o2)
theorem own_intss_any {rows : Nm → Option Row} {w : AV} {xs : List (List Int)} {ns : List Nm} (o : Own rows true [w] [intss true xs] ns) (b : Bool) : Own rows b [w] [intss b xs] ns := by
  rcases own_intss_inv o with ⟨rfl, hc, _⟩ | ⟨n, ver, vs, sp, ns1, rfl, rfl, hr, hl, h1, h2, h3⟩
  · exact hc b
  · exact own_intss_mk hr h1 h2 (own_list_any _ _ _ _ h3)

/-- A stepper's state, by its parts. -/
theorem Cx.cpu_split {l : List AV} {c : Cpu} (x : Cx h bs ((.agg l, (fun b => .agg (c.cells b)), ns) :: os)) : ∃ w1 w2 w3 w4 w5 n1 n2 n3 n4 n5, l = [.int .i64 c.At, w1, w2, w3, w4, w5, .int .i64 c.Code, .bool c.Over, .int .i64 c.Val] ∧
    Cx h bs ((w1, (fun b => ints b c.Regs), n1) :: (w2, (fun b => ints b c.Slots), n2) :: (w3, (fun b => intss b c.Mem), n3) :: (w4, (fun b => ints b c.Input), n4) :: (w5, (fun b => ints b c.Out), n5) :: os) := by
  obtain ⟨w1, w2, w3, w4, w5, n1, n2, n3, n4, n5, e, rfl, o1, o2, o3, o4, o5⟩ := ownV_cpu (x.o0 true)
  cases e
  refine ⟨w1, w2, w3, w4, w5, n1, n2, n3, n4, n5, rfl, x.box, fun y hy b => ?_, ?_, fun m hm => x.lt m ?_⟩
  · simp only [List.mem_cons] at hy
    rcases hy with rfl | rfl | rfl | rfl | rfl | hy
    · exact .one (own_ints_any o1 b)
    · exact .one (own_ints_any o2 b)
    · exact .one (own_intss_any o3 b)
    · exact .one (own_ints_any o4 b)
    · exact .one (own_ints_any o5 b)
    · exact x.own y (by simp [hy]) b
  · have := x.nd
    simpa [nms, List.append_assoc] using this
  · simpa [nms, List.append_assoc] using hm
theorem Cx.cpu_join {c : Cpu} {w1 w2 w3 w4 w5 : AV} {n1 n2 n3 n4 n5 : List Nm} (x : Cx h bs ((w1, (fun b => ints b c.Regs), n1) :: (w2, (fun b => ints b c.Slots), n2) :: (w3, (fun b => intss b c.Mem), n3) :: (w4, (fun b => ints b c.Input), n4) :: (w5, (fun b => ints b c.Out), n5) :: os)) :
    Cx h bs ((.agg [.int .i64 c.At, w1, w2, w3, w4, w5, .int .i64 c.Code, .bool c.Over, .int .i64 c.Val], (fun b => .agg (c.cells b)), n1 ++ (n2 ++ (n3 ++ (n4 ++ (n5 ++ []))))) :: os) := by
  refine ⟨x.box, fun y hy b => ?_, ?_, fun m hm => x.lt m ?_⟩
  · simp only [List.mem_cons] at hy
    rcases hy with rfl | hy
    · exact .agg (.int _ _ (Own.append (own_of (x.o0 b) rfl) (Own.append (own_of (x.o1 b) rfl) (Own.append (own_of (x.o2 b) rfl) (Own.append (own_of (x.o3 b) rfl) (Own.append (own_of (x.o4 b) rfl) (.int _ _ (.bool _ (.int _ _ .nil)))))))))
    · exact x.own y (by simp [hy]) b
  · have := x.nd
    simpa [nms, List.append_assoc] using this
  · simpa [nms, List.append_assoc] using hm

/-- Whole numbers that are there. -/
structure IntsAt (h : Hp) (w : AV) (xs : List Int) (ns : List Nm) (n : Nm) (ver off : Nat) (es : List (List AV)) : Prop where
  val : w = .sl n ver off xs.length
  nms : ns = [n]
  row : h.rows n = some ⟨ver, 1, es⟩
  mid : ∃ pre sp, pre.length = off ∧ es = pre ++ (cl1 xs ++ sp) ∧ (∀ e ∈ pre, e.length = 1) ∧ (∀ e ∈ sp, e.length = 1) ∧ ClRow ⟨ver, 1, pre⟩ ∧ ClRow ⟨ver, 1, sp⟩
theorem IntsAt.get {xs : List Int} {ver off : Nat} {es : List (List AV)} (a : IntsAt h w xs ns n ver off es) {i : Nat} (hi : i < xs.length) : es[off + i]? = some [.int .i64 xs[i]] := by
  obtain ⟨pre, sp, rfl, rfl, _⟩ := a.mid
  rw [mid_get (by simpa [cl1] using hi)]
  simp [cl1, hi]
theorem Cx.ints_at {xs : List Int} (x : Cx h bs ((w, (fun b => ints b xs), ns) :: os)) {i : Nat} (hi : i < xs.length) : ∃ n ver off es, IntsAt h w xs ns n ver off es ∧ n.1 < h.tick := by
  rcases own_ints_inv (own_of (x.o0 true) rfl) with ⟨rfl, _, _⟩ | ⟨n, ver, pre, sp, e1, e2, hr, h1, h2, h3, h4⟩
  · simp at hi
  · exact ⟨n, ver, pre.length, _, ⟨e1, e2, hr, pre, sp, rfl, rfl, h1, h2, h3, h4⟩, x.lts n (by simp [e2])⟩
theorem Cx.ints_put {xs : List Int} {ver off : Nat} {es : List (List AV)} (x : Cx h bs ((w, (fun b => ints b xs), ns) :: os)) {h0 : Hp} (a : IntsAt h0 w xs ns n ver off es) {i : Nat} (hi : i < xs.length) (y : Int) :
    Cx (h.put n ⟨ver, 1, es.set (off + i) [.int .i64 y]⟩) bs ((w, (fun b => ints b (xs.set i y)), ns) :: os) := by
  have hm : n ∈ ns := by rw [a.nms]; simp
  obtain ⟨pre, sp, rfl, rfl, h1, h2, h3, h4⟩ := a.mid
  refine x.mark (fun b => .one ?_) (fun m hm' _ => ?_) (by rw [hp_put_tick]; exact Nat.le_refl _)
  · have e : (pre ++ (cl1 xs ++ sp)).set (pre.length + i) [.int .i64 y] = pre ++ (cl1 (xs.set i y) ++ sp) := by
      rw [mid_set (by simpa [cl1] using hi)]
      simp [cl1, List.map_set]
    have := own_ints_mk (rows := (h.put n ⟨ver, 1, (pre ++ (cl1 xs ++ sp)).set (pre.length + i) [.int .i64 y]⟩).rows) (n := n) (ver := ver) (xs := xs.set i y) (by rw [hp_rows_put, if_pos rfl, e]; rfl) h1 h2 h3 h4 (c := b)
    rw [List.length_set] at this
    rw [a.val, a.nms]
    exact this
  · rw [hp_rows_put, if_neg (fun (e : m = n) => hm' (by rw [e]; exact hm))]
end
end Go.Proofs.Ytfgaoojogididaa.AM

/-
  A stepper's next word: the program's.
-/
set_option linter.unusedVariables false
set_option linter.unusedSimpArgs false
set_option maxRecDepth 4000
namespace Go.Proofs.Ytfgaoojogididaa.AM
open Go.RowKit

private def MW16 : FuncId → Mode := fun f => .tree

def rd (l : List Int) (i : Int) : Int := l.getD i.toNat 0
theorem rd_at {l : List Int} {i : Nat} (h : i < l.length) : rd l (i : Int) = l[i] := by simp [rd, h]

/-- What a word does to a state that runs. -/
def stepC (c : Cpu) (w : Word) : Cpu :=
  if w.Op = 0 then { c with Regs := c.Regs.set w.R.toNat w.N, At := IntKind.i64.wrap (c.At + 1) }
  else if w.Op = 1 then { c with Regs := c.Regs.set w.R.toNat (rd c.Slots w.N), At := IntKind.i64.wrap (c.At + 1) }
  else if w.Op = 2 then { c with Slots := c.Slots.set w.N.toNat (rd c.Regs w.R), At := IntKind.i64.wrap (c.At + 1) }
  else if w.Op = 3 then { c with Regs := c.Regs.set w.R.toNat (alu w.N.toNat (rd c.Regs w.A) (rd c.Regs w.B)), At := IntKind.i64.wrap (c.At + 1) }
  else if w.Op = 4 ∨ w.Op = 5 then
    if inB (rd c.Regs w.A) 0 (IntKind.i64.wrap ((c.Mem.getD w.N.toNat []).length - 1)) = true then
      if w.Op = 4 then { c with Regs := c.Regs.set w.R.toNat (rd (c.Mem.getD w.N.toNat []) (rd c.Regs w.A)), At := IntKind.i64.wrap (c.At + 1) }
      else { c with Mem := c.Mem.set w.N.toNat ((c.Mem.getD w.N.toNat []).set (rd c.Regs w.A).toNat (rd c.Regs w.R)), At := IntKind.i64.wrap (c.At + 1) }
    else { c with Code := 1 }
  else if w.Op = 6 then { c with Regs := c.Regs.set w.R.toNat (c.Input.headD (-1)), Input := c.Input.tail, At := IntKind.i64.wrap (c.At + 1) }
  else if w.Op = 7 then { c with Out := c.Out ++ [rd c.Regs w.R], At := IntKind.i64.wrap (c.At + 1) }
  else if w.Op = 8 then { c with At := w.N }
  else if w.Op = 9 then { c with At := if rd c.Regs w.R = 0 then w.N else IntKind.i64.wrap (c.At + 1) }
  else if w.Op = 10 then { c with Over := true, Val := rd c.Regs w.R }
  else { c with Regs := c.Regs.set w.R.toNat (rd c.Regs w.A), At := IntKind.i64.wrap (c.At + 1) }

def boxOf (l : List AV) : Row := ⟨0, 9, [l]⟩
/-- With more cells behind. -/
def boxX (ext l : List AV) : Row := ⟨0, 9 + ext.length, [l ++ ext]⟩
theorem boxX_nil (l : List AV) : boxX [] l = boxOf l := by simp [boxX, boxOf]

/-- What the output's slice is known to be: of whole numbers. -/
def OutOk (h : Hp) (l : List AV) : Prop := ∀ n ver off len, l[5]? = some (.sl n ver off len) → ∃ r, h.rows n = some r ∧ r.ver = ver ∧ r.esz = 1

/-- What the program's step is to do. -/
def StepOk (m : Image) (c c' : Cpu) : Prop := ∀ (h : Hp) (nb : Nm) (l : List AV) (ns : List Nm) (bs : Bx) (os : Ox), Cx h ((nb, boxOf l) :: bs) ((.agg l, (fun b => .agg (c.cells b)), ns) :: os) → OutOk h l →
  Sound Try.prog 72 [.ptr nb 0 0 0, .agg (m.cells true)] h fun v h' => ∃ l' ns', Cx h' ((nb, boxOf l') :: bs) ((.agg l', (fun b => .agg (c'.cells b)), ns') :: os) ∧ (l'[5]? = l[5]? ∨ OutOk h' l')
/-- The same, with more cells behind the state's. -/
def StepOkX (m : Image) (c c' : Cpu) : Prop := ∀ (ext : List AV) (h : Hp) (nb : Nm) (l : List AV) (ns : List Nm) (bs : Bx) (os : Ox), Cx h ((nb, boxX ext l) :: bs) ((.agg l, (fun b => .agg (c.cells b)), ns) :: os) → OutOk h l →
  Sound Try.prog 72 [.ptr nb 0 0 0, .agg (m.cells true)] h fun v h' => ∃ l' ns', Cx h' ((nb, boxX ext l') :: bs) ((.agg l', (fun b => .agg (c'.cells b)), ns') :: os) ∧ (l'[5]? = l[5]? ∨ OutOk h' l')
theorem StepOkX.ok {m : Image} {c c' : Cpu} (s : StepOkX m c c') : StepOk m c c' := by
  intro h nb l ns bs os x ok
  rw [← boxX_nil l] at x
  refine (s [] h nb l ns bs os x ok).mono ?_
  rintro v h' ⟨l', ns', y, e⟩
  rw [boxX_nil l'] at y
  exact ⟨l', ns', y, e⟩

theorem step_li (m : Image) (c : Cpu) (i r : Nat) (w : Word) (hat : c.At = (i : Int)) (hw : m.Code[i]? = some w) (ho : w.Op = 0) (hr : w.R = (r : Int)) (hrl : r < c.Regs.length) : StepOkX m c (stepC c w) := by
  obtain ⟨Op, R, A, B, N⟩ := w
  obtain ⟨At, Regs, Slots, Mem, Input, Out, Code, Over, Val⟩ := c
  simp only at hat ho hr hrl
  subst hat ho hr
  have hnil : True := trivial
  intro ext h nb l ns bs os x ok
  obtain ⟨w1, w2, w3, w4, w5, n1, n2, n3, n4, n5, rfl, y⟩ := x.cpu_split
  dsimp only at y
  have q1 := own_one (own_of (y.o0 true) rfl)
  have q2 := own_one (own_of (y.o1 true) rfl)
  have q3 := own_one (own_of (y.o2 true) rfl)
  have q4 := own_one (own_of (y.o3 true) rfl)
  have q5 := own_one (own_of (y.o4 true) rfl)
  refine enter mixed MW16 Try.func72 rfl (by kernel_rfl) rfl ?_
  repeat' (first
   | with_reducible refine stp ?_
   | with_reducible refine k_blk_o rfl ?_
   | ((try (conv => arg 1; simp [Image.cells])); with_reducible refine evp ?_)
   | ((with_reducible refine apn ?na ?_); (case na => simp [appNames, ints, intss] <;> first | kernel_rfl | (refine ⟨?_, ?_⟩ <;> kernel_rfl)))
   | fail)
  refine cx_k (y.next.box_one y.off (by simp)) ?_
  intro h1 y1
  have m1 : nb.1 < h1.tick := y1.lt nb (by simp [nms])
  have e1 : ¬ nb.1 = h1.tick := by omega
  repeat' (first
   | with_reducible refine stp ?_
   | with_reducible refine k_blk_o rfl ?_
   | ((try (conv => arg 1; simp [boxX])); with_reducible refine evp ?_)
   | ((with_reducible refine apn ?na ?_); (case na => simp [appNames, ints, intss] <;> first | kernel_rfl | (refine ⟨?_, ?_⟩ <;> kernel_rfl)))
   | fail)
  repeat (with_reducible first | refine stp ?_ | refine k_seq_n ?_)
  refine st_draw 9 (fun _ => false) (by kernel_rfl) ?_
  simp only [List.take_succ_cons, List.take_zero, List.drop_succ_cons, List.drop_zero, List.take_nil, List.drop_nil]
  repeat' (first
   | with_reducible refine stp ?_
   | with_reducible refine k_blk_o rfl ?_
   | ((try (conv => arg 1; simp [boxX, y1.b0, y1.b1, y1.l0, e1, hw, words, Word.cells])); with_reducible refine evp ?_)
   | ((with_reducible refine apn ?na ?_); (case na => simp [appNames, ints, intss] <;> first | kernel_rfl | (refine ⟨?_, ?_⟩ <;> kernel_rfl)))
   | fail)
  refine cx_k (y1.next.box_new y1.off (by simp)) ?_
  intro h2 y2
  have m2 : nb.1 < h2.tick := y2.lt nb (by simp [nms])
  have e2 : ¬ nb.1 = h2.tick := by omega
  repeat' (first
   | with_reducible refine stp ?_
   | with_reducible refine k_blk_o rfl ?_
   | ((try (conv => arg 1; simp [boxX, y2.b2])); with_reducible refine evp ?_)
   | ((with_reducible refine apn ?na ?_); (case na => simp [appNames, ints, intss] <;> first | kernel_rfl | (refine ⟨?_, ?_⟩ <;> kernel_rfl)))
   | fail)
  refine cx_k y2.next ?_
  intro h3 y3
  repeat' (first
   | with_reducible refine stp ?_
   | with_reducible refine k_blk_o rfl ?_
   | ((try (conv => arg 1; simp [boxX, y3.b0])); with_reducible refine evp ?_)
   | ((with_reducible refine apn ?na ?_); (case na => simp [appNames, ints, intss] <;> first | kernel_rfl | (refine ⟨?_, ?_⟩ <;> kernel_rfl)))
   | fail)
  refine cx_k y3.next ?_
  intro h4 y4
  repeat' (first
   | with_reducible refine stp ?_
   | with_reducible refine k_blk_o rfl ?_
   | with_reducible refine k_seq_n ?_
   | ((try (conv => arg 1; simp [hnil])); with_reducible refine evp ?_)
   | ((with_reducible refine apn ?na ?_); (case na => simp [appNames, ints, intss] <;> first | kernel_rfl | (refine ⟨?_, ?_⟩ <;> kernel_rfl)))
   | fail)
  refine cx_wp (by first | exact y4 | exact y4.next | exact y4.next.next) ?_
  intro h5 y5
  have m5 : nb.1 < h5.tick := y5.lt nb (by simp [nms])
  have e5 : ¬ nb.1 = h5.tick := by omega
  obtain ⟨k1, v1, p1, s1, a1, b1⟩ := y5.ints_at hrl
  have ew := a1.val
  subst ew
  have g1 := a1.get hrl
  have c1 : ¬ k1.1 = h5.tick := by omega
  have d1 : k1.1 < h5.tick + 1 := by omega
  repeat (with_reducible first | refine stp ?_ | refine k_seq_n ?_)
  refine st_draw 9 (fun _ => false) (by kernel_rfl) ?_
  simp only [List.take_succ_cons, List.take_zero, List.drop_succ_cons, List.drop_zero, List.take_nil, List.drop_nil]
  repeat' (first
   | with_reducible refine stp ?_
   | with_reducible refine k_blk_o rfl ?_
   | ((try (conv => arg 1; simp [boxX, y5.b0, y5.l0, y5.b2, e5, a1.row, g1, c1, d1, hrl])); with_reducible refine evp ?_)
   | ((with_reducible refine apn ?na ?_); (case na => simp [appNames, ints, intss] <;> first | kernel_rfl | (refine ⟨?_, ?_⟩ <;> kernel_rfl)))
   | fail)
  refine cx_k (y5.next.ints_put a1 hrl N) ?_
  intro h6 y6
  have m6 : nb.1 < h6.tick := y6.lt nb (by simp [nms])
  repeat' (first
   | with_reducible refine stp ?_
   | with_reducible refine k_blk_o rfl ?_
   | with_reducible refine k_seq_n ?_
   | ((try (conv => arg 1; simp [boxX, y6.b2, m6])); with_reducible refine evp ?_)
   | ((with_reducible refine apn ?na ?_); (case na => simp [appNames, ints, intss] <;> first | kernel_rfl | (refine ⟨?_, ?_⟩ <;> kernel_rfl)))
   | fail)
  have fin := (y6.next.box_set2 (r' := boxX ext [.int .i64 (IntKind.i64.wrap (i + 1)), .sl k1 v1 p1 Regs.length, w2, w3, w4, w5, .int .i64 Code, .bool Over, .int .i64 Val])).box_drop.box_drop
  have es : stepC ⟨i, Regs, Slots, Mem, Input, Out, Code, Over, Val⟩ ⟨0, r, A, B, N⟩ = ⟨IntKind.i64.wrap (i + 1), Regs.set r N, Slots, Mem, Input, Out, Code, Over, Val⟩ := by simp [stepC]
  rw [es]
  exact ⟨_, _, fin.cpu_join (c := ⟨IntKind.i64.wrap (i + 1), Regs.set r N, Slots, Mem, Input, Out, Code, Over, Val⟩), .inl rfl⟩
end Go.Proofs.Ytfgaoojogididaa.AM

/-
  A stepper's next word: the program's, word by word.
-/
set_option linter.unusedVariables false
set_option linter.unusedSimpArgs false
set_option maxRecDepth 4000
namespace Go.Proofs.Ytfgaoojogididaa.AM
open Go.RowKit

private def MW17 : FuncId → Mode := fun f => .tree

set_option maxHeartbeats 1000000 in
theorem step_ld (m : Image) (c : Cpu) (i : Nat) (w : Word) (hat : c.At = (i : Int)) (hw : m.Code[i]? = some w) (ho : w.Op = 1) {r n : Nat} (hr : w.R = (r : Int)) (hn : w.N = (n : Int)) (hrl : r < c.Regs.length) (hnl : n < c.Slots.length) : StepOkX m c (stepC c w) := by
  obtain ⟨Op, R, A, B, N⟩ := w
  obtain ⟨At, Regs, Slots, Mem, Input, Out, Code, Over, Val⟩ := c
  simp only at hat ho hr hn hrl hnl
  subst hat ho hr hn
  have hnil : True := trivial
  intro ext h nb l ns bs os x ok
  obtain ⟨w1, w2, w3, w4, w5, n1, n2, n3, n4, n5, rfl, y⟩ := x.cpu_split
  dsimp only at y
  have q1 := own_one (own_of (y.o0 true) rfl)
  have q2 := own_one (own_of (y.o1 true) rfl)
  have q3 := own_one (own_of (y.o2 true) rfl)
  have q4 := own_one (own_of (y.o3 true) rfl)
  have q5 := own_one (own_of (y.o4 true) rfl)
  refine enter mixed MW17 Try.func72 rfl (by kernel_rfl) rfl ?_
  repeat' (first
   | with_reducible refine stp ?_
   | with_reducible refine k_blk_o rfl ?_
   | ((try (conv => arg 1; simp [Image.cells])); with_reducible refine evp ?_)
   | ((with_reducible refine apn ?na ?_); (case na => simp [appNames, ints, intss] <;> first | kernel_rfl | (refine ⟨?_, ?_⟩ <;> kernel_rfl)))
   | fail)
  refine cx_k (y.next.box_one y.off (by simp)) ?_
  intro h1 y1
  have m1 : nb.1 < h1.tick := y1.lt nb (by simp [nms])
  have e1 : ¬ nb.1 = h1.tick := by omega
  repeat' (first
   | with_reducible refine stp ?_
   | with_reducible refine k_blk_o rfl ?_
   | ((try (conv => arg 1; simp [boxX])); with_reducible refine evp ?_)
   | ((with_reducible refine apn ?na ?_); (case na => simp [appNames, ints, intss] <;> first | kernel_rfl | (refine ⟨?_, ?_⟩ <;> kernel_rfl)))
   | fail)
  repeat (with_reducible first | refine stp ?_ | refine k_seq_n ?_)
  refine st_draw 9 (fun _ => false) (by kernel_rfl) ?_
  simp only [List.take_succ_cons, List.take_zero, List.drop_succ_cons, List.drop_zero, List.take_nil, List.drop_nil]
  repeat' (first
   | with_reducible refine stp ?_
   | with_reducible refine k_blk_o rfl ?_
   | ((try (conv => arg 1; simp [boxX, y1.b0, y1.b1, y1.l0, e1, hw, words, Word.cells])); with_reducible refine evp ?_)
   | ((with_reducible refine apn ?na ?_); (case na => simp [appNames, ints, intss] <;> first | kernel_rfl | (refine ⟨?_, ?_⟩ <;> kernel_rfl)))
   | fail)
  refine cx_k (y1.next.box_new y1.off (by simp)) ?_
  intro h2 y2
  have m2 : nb.1 < h2.tick := y2.lt nb (by simp [nms])
  repeat' (first
   | with_reducible refine stp ?_
   | with_reducible refine k_blk_o rfl ?_
   | ((try (conv => arg 1; simp [boxX, y2.b2])); with_reducible refine evp ?_)
   | ((with_reducible refine apn ?na ?_); (case na => simp [appNames, ints, intss] <;> first | kernel_rfl | (refine ⟨?_, ?_⟩ <;> kernel_rfl)))
   | fail)
  refine cx_k y2.next ?_
  intro h3 y3
  repeat' (first
   | with_reducible refine stp ?_
   | with_reducible refine k_blk_o rfl ?_
   | ((try (conv => arg 1; simp [boxX, y3.b0])); with_reducible refine evp ?_)
   | ((with_reducible refine apn ?na ?_); (case na => simp [appNames, ints, intss] <;> first | kernel_rfl | (refine ⟨?_, ?_⟩ <;> kernel_rfl)))
   | fail)
  refine cx_k y3.next ?_
  intro h4 y4
  repeat' (first
   | with_reducible refine stp ?_
   | with_reducible refine k_blk_o rfl ?_
   | with_reducible refine k_seq_n ?_
   | ((try (conv => arg 1; simp [hnil])); with_reducible refine evp ?_)
   | ((with_reducible refine apn ?na ?_); (case na => simp [appNames, ints, intss] <;> first | kernel_rfl | (refine ⟨?_, ?_⟩ <;> kernel_rfl)))
   | fail)
  refine cx_wp (by first | exact y4 | exact y4.next | exact y4.next.next | exact y4.next.next.next | exact y4.next.next.next.next | exact y4.next.next.next.next.next | exact y4.next.next.next.next.next.next | exact y4.next.next.next.next.next.next.next | exact y4.next.next.next.next.next.next.next.next | exact y4.next.next.next.next.next.next.next.next.next | exact y4.next.next.next.next.next.next.next.next.next.next | exact y4.next.next.next.next.next.next.next.next.next.next.next | exact y4.next.next.next.next.next.next.next.next.next.next.next.next | exact y4.next.next.next.next.next.next.next.next.next.next.next.next.next | exact y4.next.next.next.next.next.next.next.next.next.next.next.next.next.next | exact y4.next.next.next.next.next.next.next.next.next.next.next.next.next.next.next) ?_
  intro h5 y5
  have m5 : nb.1 < h5.tick := y5.lt nb (by simp [nms])
  have e5 : ¬ nb.1 = h5.tick := by omega
  obtain ⟨k1, v1, p1, s1, a1, b1⟩ := y5.ints_at hrl
  have ew := a1.val
  subst ew
  have c1 : ¬ k1.1 = h5.tick := by omega
  have d1 : k1.1 < h5.tick + 1 := by omega
  obtain ⟨k2, v2, p2, s2, a2, b2⟩ := y5.rot1.ints_at hnl
  have ew := a2.val
  subst ew
  have c2 : ¬ k2.1 = h5.tick := by omega
  have d2 : k2.1 < h5.tick + 1 := by omega
  have g1 := a1.get hrl
  have g2 := a2.get hnl
  repeat (with_reducible first | refine stp ?_ | refine k_seq_n ?_)
  refine st_draw 15 (fun _ => false) (by kernel_rfl) ?_
  simp only [List.take_succ_cons, List.take_zero, List.drop_succ_cons, List.drop_zero, List.take_nil, List.drop_nil]
  repeat' (first
   | with_reducible refine stp ?_
   | with_reducible refine k_blk_o rfl ?_
   | ((try (conv => arg 1; simp [boxX, y5.b0, y5.l0, y5.b2, e5, a1.row, g1, c1, d1, hrl, a2.row, g2, c2, d2, hnl])); with_reducible refine evp ?_)
   | ((with_reducible refine apn ?na ?_); (case na => simp [appNames, ints, intss] <;> first | kernel_rfl | (refine ⟨?_, ?_⟩ <;> kernel_rfl)))
   | fail)
  refine cx_k (y5.next.ints_put a1 hrl Slots[n]) ?_
  intro h6 y6
  have m6 : nb.1 < h6.tick := y6.lt nb (by simp [nms])
  repeat' (first
   | with_reducible refine stp ?_
   | with_reducible refine k_blk_o rfl ?_
   | with_reducible refine k_seq_n ?_
   | ((try (conv => arg 1; simp [boxX, y6.b2, m6])); with_reducible refine evp ?_)
   | ((with_reducible refine apn ?na ?_); (case na => simp [appNames, ints, intss] <;> first | kernel_rfl | (refine ⟨?_, ?_⟩ <;> kernel_rfl)))
   | fail)
  have fin := (y6.next.box_set2 (r' := boxX ext [.int .i64 (IntKind.i64.wrap (i + 1)), .sl k1 v1 p1 Regs.length, .sl k2 v2 p2 Slots.length, w3, w4, w5, .int .i64 Code, .bool Over, .int .i64 Val])).box_drop.box_drop
  have es : stepC ⟨i, Regs, Slots, Mem, Input, Out, Code, Over, Val⟩ ⟨1, r, A, B, n⟩ = ⟨IntKind.i64.wrap (i + 1), Regs.set r Slots[n], Slots, Mem, Input, Out, Code, Over, Val⟩ := by simp [stepC, rd_at, *]
  rw [es]
  exact ⟨_, _, fin.cpu_join (c := ⟨IntKind.i64.wrap (i + 1), Regs.set r Slots[n], Slots, Mem, Input, Out, Code, Over, Val⟩), .inl rfl⟩

set_option maxHeartbeats 1000000 in
theorem step_sd (m : Image) (c : Cpu) (i : Nat) (w : Word) (hat : c.At = (i : Int)) (hw : m.Code[i]? = some w) (ho : w.Op = 2) {r n : Nat} (hr : w.R = (r : Int)) (hn : w.N = (n : Int)) (hrl : r < c.Regs.length) (hnl : n < c.Slots.length) : StepOkX m c (stepC c w) := by
  obtain ⟨Op, R, A, B, N⟩ := w
  obtain ⟨At, Regs, Slots, Mem, Input, Out, Code, Over, Val⟩ := c
  simp only at hat ho hr hn hrl hnl
  subst hat ho hr hn
  have hnil : True := trivial
  intro ext h nb l ns bs os x ok
  obtain ⟨w1, w2, w3, w4, w5, n1, n2, n3, n4, n5, rfl, y⟩ := x.cpu_split
  dsimp only at y
  have q1 := own_one (own_of (y.o0 true) rfl)
  have q2 := own_one (own_of (y.o1 true) rfl)
  have q3 := own_one (own_of (y.o2 true) rfl)
  have q4 := own_one (own_of (y.o3 true) rfl)
  have q5 := own_one (own_of (y.o4 true) rfl)
  refine enter mixed MW17 Try.func72 rfl (by kernel_rfl) rfl ?_
  repeat' (first
   | with_reducible refine stp ?_
   | with_reducible refine k_blk_o rfl ?_
   | ((try (conv => arg 1; simp [Image.cells])); with_reducible refine evp ?_)
   | ((with_reducible refine apn ?na ?_); (case na => simp [appNames, ints, intss] <;> first | kernel_rfl | (refine ⟨?_, ?_⟩ <;> kernel_rfl)))
   | fail)
  refine cx_k (y.next.box_one y.off (by simp)) ?_
  intro h1 y1
  have m1 : nb.1 < h1.tick := y1.lt nb (by simp [nms])
  have e1 : ¬ nb.1 = h1.tick := by omega
  repeat' (first
   | with_reducible refine stp ?_
   | with_reducible refine k_blk_o rfl ?_
   | ((try (conv => arg 1; simp [boxX])); with_reducible refine evp ?_)
   | ((with_reducible refine apn ?na ?_); (case na => simp [appNames, ints, intss] <;> first | kernel_rfl | (refine ⟨?_, ?_⟩ <;> kernel_rfl)))
   | fail)
  repeat (with_reducible first | refine stp ?_ | refine k_seq_n ?_)
  refine st_draw 9 (fun _ => false) (by kernel_rfl) ?_
  simp only [List.take_succ_cons, List.take_zero, List.drop_succ_cons, List.drop_zero, List.take_nil, List.drop_nil]
  repeat' (first
   | with_reducible refine stp ?_
   | with_reducible refine k_blk_o rfl ?_
   | ((try (conv => arg 1; simp [boxX, y1.b0, y1.b1, y1.l0, e1, hw, words, Word.cells])); with_reducible refine evp ?_)
   | ((with_reducible refine apn ?na ?_); (case na => simp [appNames, ints, intss] <;> first | kernel_rfl | (refine ⟨?_, ?_⟩ <;> kernel_rfl)))
   | fail)
  refine cx_k (y1.next.box_new y1.off (by simp)) ?_
  intro h2 y2
  have m2 : nb.1 < h2.tick := y2.lt nb (by simp [nms])
  repeat' (first
   | with_reducible refine stp ?_
   | with_reducible refine k_blk_o rfl ?_
   | ((try (conv => arg 1; simp [boxX, y2.b2])); with_reducible refine evp ?_)
   | ((with_reducible refine apn ?na ?_); (case na => simp [appNames, ints, intss] <;> first | kernel_rfl | (refine ⟨?_, ?_⟩ <;> kernel_rfl)))
   | fail)
  refine cx_k y2.next ?_
  intro h3 y3
  repeat' (first
   | with_reducible refine stp ?_
   | with_reducible refine k_blk_o rfl ?_
   | ((try (conv => arg 1; simp [boxX, y3.b0])); with_reducible refine evp ?_)
   | ((with_reducible refine apn ?na ?_); (case na => simp [appNames, ints, intss] <;> first | kernel_rfl | (refine ⟨?_, ?_⟩ <;> kernel_rfl)))
   | fail)
  refine cx_k y3.next ?_
  intro h4 y4
  repeat' (first
   | with_reducible refine stp ?_
   | with_reducible refine k_blk_o rfl ?_
   | with_reducible refine k_seq_n ?_
   | ((try (conv => arg 1; simp [hnil])); with_reducible refine evp ?_)
   | ((with_reducible refine apn ?na ?_); (case na => simp [appNames, ints, intss] <;> first | kernel_rfl | (refine ⟨?_, ?_⟩ <;> kernel_rfl)))
   | fail)
  refine cx_wp (by first | exact y4 | exact y4.next | exact y4.next.next | exact y4.next.next.next | exact y4.next.next.next.next | exact y4.next.next.next.next.next | exact y4.next.next.next.next.next.next | exact y4.next.next.next.next.next.next.next | exact y4.next.next.next.next.next.next.next.next | exact y4.next.next.next.next.next.next.next.next.next | exact y4.next.next.next.next.next.next.next.next.next.next | exact y4.next.next.next.next.next.next.next.next.next.next.next | exact y4.next.next.next.next.next.next.next.next.next.next.next.next | exact y4.next.next.next.next.next.next.next.next.next.next.next.next.next | exact y4.next.next.next.next.next.next.next.next.next.next.next.next.next.next | exact y4.next.next.next.next.next.next.next.next.next.next.next.next.next.next.next) ?_
  intro h5 y5
  have m5 : nb.1 < h5.tick := y5.lt nb (by simp [nms])
  have e5 : ¬ nb.1 = h5.tick := by omega
  obtain ⟨k1, v1, p1, s1, a1, b1⟩ := y5.ints_at hrl
  have ew := a1.val
  subst ew
  have c1 : ¬ k1.1 = h5.tick := by omega
  have d1 : k1.1 < h5.tick + 1 := by omega
  obtain ⟨k2, v2, p2, s2, a2, b2⟩ := y5.rot1.ints_at hnl
  have ew := a2.val
  subst ew
  have c2 : ¬ k2.1 = h5.tick := by omega
  have d2 : k2.1 < h5.tick + 1 := by omega
  have g1 := a1.get hrl
  have g2 := a2.get hnl
  repeat (with_reducible first | refine stp ?_ | refine k_seq_n ?_)
  refine st_draw 15 (fun _ => false) (by kernel_rfl) ?_
  simp only [List.take_succ_cons, List.take_zero, List.drop_succ_cons, List.drop_zero, List.take_nil, List.drop_nil]
  repeat' (first
   | with_reducible refine stp ?_
   | with_reducible refine k_blk_o rfl ?_
   | ((try (conv => arg 1; simp [boxX, y5.b0, y5.l0, y5.b2, e5, a1.row, g1, c1, d1, hrl, a2.row, g2, c2, d2, hnl])); with_reducible refine evp ?_)
   | ((with_reducible refine apn ?na ?_); (case na => simp [appNames, ints, intss] <;> first | kernel_rfl | (refine ⟨?_, ?_⟩ <;> kernel_rfl)))
   | fail)
  refine cx_k (y5.next.rot1.ints_put a2 hnl Regs[r]).rot1 ?_
  intro h6 y6
  have m6 : nb.1 < h6.tick := y6.lt nb (by simp [nms])
  repeat' (first
   | with_reducible refine stp ?_
   | with_reducible refine k_blk_o rfl ?_
   | with_reducible refine k_seq_n ?_
   | ((try (conv => arg 1; simp [boxX, y6.b2, m6])); with_reducible refine evp ?_)
   | ((with_reducible refine apn ?na ?_); (case na => simp [appNames, ints, intss] <;> first | kernel_rfl | (refine ⟨?_, ?_⟩ <;> kernel_rfl)))
   | fail)
  have fin := (y6.next.box_set2 (r' := boxX ext [.int .i64 (IntKind.i64.wrap (i + 1)), .sl k1 v1 p1 Regs.length, .sl k2 v2 p2 Slots.length, w3, w4, w5, .int .i64 Code, .bool Over, .int .i64 Val])).box_drop.box_drop
  have es : stepC ⟨i, Regs, Slots, Mem, Input, Out, Code, Over, Val⟩ ⟨2, r, A, B, n⟩ = ⟨IntKind.i64.wrap (i + 1), Regs, Slots.set n Regs[r], Mem, Input, Out, Code, Over, Val⟩ := by simp [stepC, rd_at, *]
  rw [es]
  exact ⟨_, _, fin.cpu_join (c := ⟨IntKind.i64.wrap (i + 1), Regs, Slots.set n Regs[r], Mem, Input, Out, Code, Over, Val⟩), .inl rfl⟩

set_option maxHeartbeats 1000000 in
theorem step_mv (m : Image) (c : Cpu) (i : Nat) (w : Word) (hat : c.At = (i : Int)) (hw : m.Code[i]? = some w) (ho : w.Op = 11) {r a : Nat} (hr : w.R = (r : Int)) (ha : w.A = (a : Int)) (hrl : r < c.Regs.length) (hal : a < c.Regs.length) : StepOkX m c (stepC c w) := by
  obtain ⟨Op, R, A, B, N⟩ := w
  obtain ⟨At, Regs, Slots, Mem, Input, Out, Code, Over, Val⟩ := c
  simp only at hat ho hr ha hrl hal
  subst hat ho hr ha
  have hnil : True := trivial
  intro ext h nb l ns bs os x ok
  obtain ⟨w1, w2, w3, w4, w5, n1, n2, n3, n4, n5, rfl, y⟩ := x.cpu_split
  dsimp only at y
  have q1 := own_one (own_of (y.o0 true) rfl)
  have q2 := own_one (own_of (y.o1 true) rfl)
  have q3 := own_one (own_of (y.o2 true) rfl)
  have q4 := own_one (own_of (y.o3 true) rfl)
  have q5 := own_one (own_of (y.o4 true) rfl)
  refine enter mixed MW17 Try.func72 rfl (by kernel_rfl) rfl ?_
  repeat' (first
   | with_reducible refine stp ?_
   | with_reducible refine k_blk_o rfl ?_
   | ((try (conv => arg 1; simp [Image.cells])); with_reducible refine evp ?_)
   | ((with_reducible refine apn ?na ?_); (case na => simp [appNames, ints, intss] <;> first | kernel_rfl | (refine ⟨?_, ?_⟩ <;> kernel_rfl)))
   | fail)
  refine cx_k (y.next.box_one y.off (by simp)) ?_
  intro h1 y1
  have m1 : nb.1 < h1.tick := y1.lt nb (by simp [nms])
  have e1 : ¬ nb.1 = h1.tick := by omega
  repeat' (first
   | with_reducible refine stp ?_
   | with_reducible refine k_blk_o rfl ?_
   | ((try (conv => arg 1; simp [boxX])); with_reducible refine evp ?_)
   | ((with_reducible refine apn ?na ?_); (case na => simp [appNames, ints, intss] <;> first | kernel_rfl | (refine ⟨?_, ?_⟩ <;> kernel_rfl)))
   | fail)
  repeat (with_reducible first | refine stp ?_ | refine k_seq_n ?_)
  refine st_draw 9 (fun _ => false) (by kernel_rfl) ?_
  simp only [List.take_succ_cons, List.take_zero, List.drop_succ_cons, List.drop_zero, List.take_nil, List.drop_nil]
  repeat' (first
   | with_reducible refine stp ?_
   | with_reducible refine k_blk_o rfl ?_
   | ((try (conv => arg 1; simp [boxX, y1.b0, y1.b1, y1.l0, e1, hw, words, Word.cells])); with_reducible refine evp ?_)
   | ((with_reducible refine apn ?na ?_); (case na => simp [appNames, ints, intss] <;> first | kernel_rfl | (refine ⟨?_, ?_⟩ <;> kernel_rfl)))
   | fail)
  refine cx_k (y1.next.box_new y1.off (by simp)) ?_
  intro h2 y2
  have m2 : nb.1 < h2.tick := y2.lt nb (by simp [nms])
  repeat' (first
   | with_reducible refine stp ?_
   | with_reducible refine k_blk_o rfl ?_
   | ((try (conv => arg 1; simp [boxX, y2.b2])); with_reducible refine evp ?_)
   | ((with_reducible refine apn ?na ?_); (case na => simp [appNames, ints, intss] <;> first | kernel_rfl | (refine ⟨?_, ?_⟩ <;> kernel_rfl)))
   | fail)
  refine cx_k y2.next ?_
  intro h3 y3
  repeat' (first
   | with_reducible refine stp ?_
   | with_reducible refine k_blk_o rfl ?_
   | ((try (conv => arg 1; simp [boxX, y3.b0])); with_reducible refine evp ?_)
   | ((with_reducible refine apn ?na ?_); (case na => simp [appNames, ints, intss] <;> first | kernel_rfl | (refine ⟨?_, ?_⟩ <;> kernel_rfl)))
   | fail)
  refine cx_k y3.next ?_
  intro h4 y4
  repeat' (first
   | with_reducible refine stp ?_
   | with_reducible refine k_blk_o rfl ?_
   | with_reducible refine k_seq_n ?_
   | ((try (conv => arg 1; simp [hnil])); with_reducible refine evp ?_)
   | ((with_reducible refine apn ?na ?_); (case na => simp [appNames, ints, intss] <;> first | kernel_rfl | (refine ⟨?_, ?_⟩ <;> kernel_rfl)))
   | fail)
  refine cx_wp (by first | exact y4 | exact y4.next | exact y4.next.next | exact y4.next.next.next | exact y4.next.next.next.next | exact y4.next.next.next.next.next | exact y4.next.next.next.next.next.next | exact y4.next.next.next.next.next.next.next | exact y4.next.next.next.next.next.next.next.next | exact y4.next.next.next.next.next.next.next.next.next | exact y4.next.next.next.next.next.next.next.next.next.next | exact y4.next.next.next.next.next.next.next.next.next.next.next | exact y4.next.next.next.next.next.next.next.next.next.next.next.next | exact y4.next.next.next.next.next.next.next.next.next.next.next.next.next | exact y4.next.next.next.next.next.next.next.next.next.next.next.next.next.next | exact y4.next.next.next.next.next.next.next.next.next.next.next.next.next.next.next) ?_
  intro h5 y5
  have m5 : nb.1 < h5.tick := y5.lt nb (by simp [nms])
  have e5 : ¬ nb.1 = h5.tick := by omega
  obtain ⟨k1, v1, p1, s1, a1, b1⟩ := y5.ints_at hrl
  have ew := a1.val
  subst ew
  have c1 : ¬ k1.1 = h5.tick := by omega
  have d1 : k1.1 < h5.tick + 1 := by omega
  have g1 := a1.get hrl
  have g2 := a1.get hal
  repeat (with_reducible first | refine stp ?_ | refine k_seq_n ?_)
  refine st_draw 15 (fun _ => false) (by kernel_rfl) ?_
  simp only [List.take_succ_cons, List.take_zero, List.drop_succ_cons, List.drop_zero, List.take_nil, List.drop_nil]
  repeat' (first
   | with_reducible refine stp ?_
   | with_reducible refine k_blk_o rfl ?_
   | ((try (conv => arg 1; simp [boxX, y5.b0, y5.l0, y5.b2, e5, a1.row, g1, g2, c1, d1, hrl, hal])); with_reducible refine evp ?_)
   | ((with_reducible refine apn ?na ?_); (case na => simp [appNames, ints, intss] <;> first | kernel_rfl | (refine ⟨?_, ?_⟩ <;> kernel_rfl)))
   | fail)
  refine cx_k (y5.next.ints_put a1 hrl Regs[a]) ?_
  intro h6 y6
  have m6 : nb.1 < h6.tick := y6.lt nb (by simp [nms])
  repeat' (first
   | with_reducible refine stp ?_
   | with_reducible refine k_blk_o rfl ?_
   | with_reducible refine k_seq_n ?_
   | ((try (conv => arg 1; simp [boxX, y6.b2, m6])); with_reducible refine evp ?_)
   | ((with_reducible refine apn ?na ?_); (case na => simp [appNames, ints, intss] <;> first | kernel_rfl | (refine ⟨?_, ?_⟩ <;> kernel_rfl)))
   | fail)
  have fin := (y6.next.box_set2 (r' := boxX ext [.int .i64 (IntKind.i64.wrap (i + 1)), .sl k1 v1 p1 Regs.length, w2, w3, w4, w5, .int .i64 Code, .bool Over, .int .i64 Val])).box_drop.box_drop
  have es : stepC ⟨i, Regs, Slots, Mem, Input, Out, Code, Over, Val⟩ ⟨11, r, a, B, N⟩ = ⟨IntKind.i64.wrap (i + 1), Regs.set r Regs[a], Slots, Mem, Input, Out, Code, Over, Val⟩ := by simp [stepC, rd_at, *]
  rw [es]
  exact ⟨_, _, fin.cpu_join (c := ⟨IntKind.i64.wrap (i + 1), Regs.set r Regs[a], Slots, Mem, Input, Out, Code, Over, Val⟩), .inl rfl⟩

set_option maxHeartbeats 1000000 in
theorem step_alu (m : Image) (c : Cpu) (i : Nat) (w : Word) (hat : c.At = (i : Int)) (hw : m.Code[i]? = some w) (ho : w.Op = 3) {r a b q : Nat} (hr : w.R = (r : Int)) (ha : w.A = (a : Int)) (hb : w.B = (b : Int)) (hq : w.N = (q : Int)) (hrl : r < c.Regs.length) (hal : a < c.Regs.length) (hbl : b < c.Regs.length) (hql : q < 6) : StepOkX m c (stepC c w) := by
  obtain ⟨Op, R, A, B, N⟩ := w
  obtain ⟨At, Regs, Slots, Mem, Input, Out, Code, Over, Val⟩ := c
  simp only at hat ho hr ha hb hq hrl hal hbl
  subst hat ho hr ha hb hq
  have hnil : True := trivial
  intro ext h nb l ns bs os x ok
  obtain ⟨w1, w2, w3, w4, w5, n1, n2, n3, n4, n5, rfl, y⟩ := x.cpu_split
  dsimp only at y
  have q1 := own_one (own_of (y.o0 true) rfl)
  have q2 := own_one (own_of (y.o1 true) rfl)
  have q3 := own_one (own_of (y.o2 true) rfl)
  have q4 := own_one (own_of (y.o3 true) rfl)
  have q5 := own_one (own_of (y.o4 true) rfl)
  refine enter mixed MW17 Try.func72 rfl (by kernel_rfl) rfl ?_
  repeat' (first
   | with_reducible refine stp ?_
   | with_reducible refine k_blk_o rfl ?_
   | ((try (conv => arg 1; simp [Image.cells])); with_reducible refine evp ?_)
   | ((with_reducible refine apn ?na ?_); (case na => simp [appNames, ints, intss] <;> first | kernel_rfl | (refine ⟨?_, ?_⟩ <;> kernel_rfl)))
   | fail)
  refine cx_k (y.next.box_one y.off (by simp)) ?_
  intro h1 y1
  have m1 : nb.1 < h1.tick := y1.lt nb (by simp [nms])
  have e1 : ¬ nb.1 = h1.tick := by omega
  repeat' (first
   | with_reducible refine stp ?_
   | with_reducible refine k_blk_o rfl ?_
   | ((try (conv => arg 1; simp [boxX])); with_reducible refine evp ?_)
   | ((with_reducible refine apn ?na ?_); (case na => simp [appNames, ints, intss] <;> first | kernel_rfl | (refine ⟨?_, ?_⟩ <;> kernel_rfl)))
   | fail)
  repeat (with_reducible first | refine stp ?_ | refine k_seq_n ?_)
  refine st_draw 9 (fun _ => false) (by kernel_rfl) ?_
  simp only [List.take_succ_cons, List.take_zero, List.drop_succ_cons, List.drop_zero, List.take_nil, List.drop_nil]
  repeat' (first
   | with_reducible refine stp ?_
   | with_reducible refine k_blk_o rfl ?_
   | ((try (conv => arg 1; simp [boxX, y1.b0, y1.b1, y1.l0, e1, hw, words, Word.cells])); with_reducible refine evp ?_)
   | ((with_reducible refine apn ?na ?_); (case na => simp [appNames, ints, intss] <;> first | kernel_rfl | (refine ⟨?_, ?_⟩ <;> kernel_rfl)))
   | fail)
  refine cx_k (y1.next.box_new y1.off (by simp)) ?_
  intro h2 y2
  have m2 : nb.1 < h2.tick := y2.lt nb (by simp [nms])
  repeat' (first
   | with_reducible refine stp ?_
   | with_reducible refine k_blk_o rfl ?_
   | ((try (conv => arg 1; simp [boxX, y2.b2])); with_reducible refine evp ?_)
   | ((with_reducible refine apn ?na ?_); (case na => simp [appNames, ints, intss] <;> first | kernel_rfl | (refine ⟨?_, ?_⟩ <;> kernel_rfl)))
   | fail)
  refine cx_k y2.next ?_
  intro h3 y3
  repeat' (first
   | with_reducible refine stp ?_
   | with_reducible refine k_blk_o rfl ?_
   | ((try (conv => arg 1; simp [boxX, y3.b0])); with_reducible refine evp ?_)
   | ((with_reducible refine apn ?na ?_); (case na => simp [appNames, ints, intss] <;> first | kernel_rfl | (refine ⟨?_, ?_⟩ <;> kernel_rfl)))
   | fail)
  refine cx_k y3.next ?_
  intro h4 y4
  repeat' (first
   | with_reducible refine stp ?_
   | with_reducible refine k_blk_o rfl ?_
   | with_reducible refine k_seq_n ?_
   | ((try (conv => arg 1; simp [hnil])); with_reducible refine evp ?_)
   | ((with_reducible refine apn ?na ?_); (case na => simp [appNames, ints, intss] <;> first | kernel_rfl | (refine ⟨?_, ?_⟩ <;> kernel_rfl)))
   | fail)
  refine cx_wp (by first | exact y4 | exact y4.next | exact y4.next.next | exact y4.next.next.next | exact y4.next.next.next.next | exact y4.next.next.next.next.next | exact y4.next.next.next.next.next.next | exact y4.next.next.next.next.next.next.next | exact y4.next.next.next.next.next.next.next.next | exact y4.next.next.next.next.next.next.next.next.next | exact y4.next.next.next.next.next.next.next.next.next.next | exact y4.next.next.next.next.next.next.next.next.next.next.next | exact y4.next.next.next.next.next.next.next.next.next.next.next.next | exact y4.next.next.next.next.next.next.next.next.next.next.next.next.next | exact y4.next.next.next.next.next.next.next.next.next.next.next.next.next.next | exact y4.next.next.next.next.next.next.next.next.next.next.next.next.next.next.next) ?_
  intro h5 y5
  have m5 : nb.1 < h5.tick := y5.lt nb (by simp [nms])
  have e5 : ¬ nb.1 = h5.tick := by omega
  obtain ⟨k1, v1, p1, s1, a1, b1⟩ := y5.ints_at hrl
  have ew := a1.val
  subst ew
  have c1 : ¬ k1.1 = h5.tick := by omega
  have d1 : k1.1 < h5.tick + 1 := by omega
  have g1 := a1.get hrl
  have g2 := a1.get hal
  have g3 := a1.get hbl
  have hs : ([[AV.str (sgn 0)], [AV.str (sgn 1)], [AV.str (sgn 2)], [AV.str (sgn 3)], [AV.str (sgn 4)], [AV.str (sgn 5)]] : List (List AV))[q]? = some [.str (sgn q)] := by
    match q, hql with
    | 0, _ => rfl
    | 1, _ => rfl
    | 2, _ => rfl
    | 3, _ => rfl
    | 4, _ => rfl
    | 5, _ => rfl
  repeat (with_reducible first | refine stp ?_ | refine k_seq_n ?_)
  refine st_draw 29 (fun _ => false) (by kernel_rfl) ?_
  simp only [List.take_succ_cons, List.take_zero, List.drop_succ_cons, List.drop_zero, List.take_nil, List.drop_nil]
  repeat' (first
   | with_reducible refine stp ?_
   | with_reducible refine k_blk_o rfl ?_
   | ((try (conv => arg 1; simp [boxX, y5.b0, y5.l0, y5.b2, e5, a1.row, g1, g2, g3, c1, d1, hrl, hal, hbl])); with_reducible refine evp ?_)
   | ((with_reducible refine apn ?na ?_); (case na => simp [appNames, ints, intss] <;> first | kernel_rfl | (refine ⟨?_, ?_⟩ <;> kernel_rfl)))
   | fail)
  refine treeW_pure implSigns .nil ?_
  repeat' (first
   | with_reducible refine stp ?_
   | with_reducible refine k_blk_o rfl ?_
   | ((try (conv => arg 1; simp [boxX, y5.b0, y5.l0, y5.b2, e5, a1.row, g1, g2, g3, c1, d1, hrl, hal, hbl, signs, hs])); with_reducible refine evp ?_)
   | ((with_reducible refine apn ?na ?_); (case na => simp [appNames, ints, intss] <;> first | kernel_rfl | (refine ⟨?_, ?_⟩ <;> kernel_rfl)))
   | fail)
  refine treeW_pure (bin q _ _) (.cons (.str _) (.cons (.int _ _) (.cons (.int _ _) .nil))) ?_
  repeat' (first
   | with_reducible refine stp ?_
   | with_reducible refine k_blk_o rfl ?_
   | ((try (conv => arg 1; simp [boxX, y5.b0, y5.l0, y5.b2, e5, a1.row, g1, g2, g3, c1, d1, hrl, hal, hbl])); with_reducible refine evp ?_)
   | ((with_reducible refine apn ?na ?_); (case na => simp [appNames, ints, intss] <;> first | kernel_rfl | (refine ⟨?_, ?_⟩ <;> kernel_rfl)))
   | fail)
  refine cx_k (y5.next.ints_put a1 hrl (alu q Regs[a] Regs[b])) ?_
  intro h6 y6
  have m6 : nb.1 < h6.tick := y6.lt nb (by simp [nms])
  repeat' (first
   | with_reducible refine stp ?_
   | with_reducible refine k_blk_o rfl ?_
   | with_reducible refine k_seq_n ?_
   | ((try (conv => arg 1; simp [boxX, y6.b2, m6])); with_reducible refine evp ?_)
   | ((with_reducible refine apn ?na ?_); (case na => simp [appNames, ints, intss] <;> first | kernel_rfl | (refine ⟨?_, ?_⟩ <;> kernel_rfl)))
   | fail)
  have fin := (y6.next.box_set2 (r' := boxX ext [.int .i64 (IntKind.i64.wrap (i + 1)), .sl k1 v1 p1 Regs.length, w2, w3, w4, w5, .int .i64 Code, .bool Over, .int .i64 Val])).box_drop.box_drop
  have es : stepC ⟨i, Regs, Slots, Mem, Input, Out, Code, Over, Val⟩ ⟨3, r, a, b, q⟩ = ⟨IntKind.i64.wrap (i + 1), Regs.set r (alu q Regs[a] Regs[b]), Slots, Mem, Input, Out, Code, Over, Val⟩ := by simp [stepC, rd_at, *]
  rw [es]
  exact ⟨_, _, fin.cpu_join (c := ⟨IntKind.i64.wrap (i + 1), Regs.set r (alu q Regs[a] Regs[b]), Slots, Mem, Input, Out, Code, Over, Val⟩), .inl rfl⟩

set_option maxHeartbeats 1000000 in
theorem step_jmp (m : Image) (c : Cpu) (i : Nat) (w : Word) (hat : c.At = (i : Int)) (hw : m.Code[i]? = some w) (ho : w.Op = 8)  : StepOkX m c (stepC c w) := by
  obtain ⟨Op, R, A, B, N⟩ := w
  obtain ⟨At, Regs, Slots, Mem, Input, Out, Code, Over, Val⟩ := c
  simp only at hat ho
  subst hat ho
  have hnil : True := trivial
  intro ext h nb l ns bs os x ok
  obtain ⟨w1, w2, w3, w4, w5, n1, n2, n3, n4, n5, rfl, y⟩ := x.cpu_split
  dsimp only at y
  have q1 := own_one (own_of (y.o0 true) rfl)
  have q2 := own_one (own_of (y.o1 true) rfl)
  have q3 := own_one (own_of (y.o2 true) rfl)
  have q4 := own_one (own_of (y.o3 true) rfl)
  have q5 := own_one (own_of (y.o4 true) rfl)
  refine enter mixed MW17 Try.func72 rfl (by kernel_rfl) rfl ?_
  repeat' (first
   | with_reducible refine stp ?_
   | with_reducible refine k_blk_o rfl ?_
   | ((try (conv => arg 1; simp [Image.cells])); with_reducible refine evp ?_)
   | ((with_reducible refine apn ?na ?_); (case na => simp [appNames, ints, intss] <;> first | kernel_rfl | (refine ⟨?_, ?_⟩ <;> kernel_rfl)))
   | fail)
  refine cx_k (y.next.box_one y.off (by simp)) ?_
  intro h1 y1
  have m1 : nb.1 < h1.tick := y1.lt nb (by simp [nms])
  have e1 : ¬ nb.1 = h1.tick := by omega
  repeat' (first
   | with_reducible refine stp ?_
   | with_reducible refine k_blk_o rfl ?_
   | ((try (conv => arg 1; simp [boxX])); with_reducible refine evp ?_)
   | ((with_reducible refine apn ?na ?_); (case na => simp [appNames, ints, intss] <;> first | kernel_rfl | (refine ⟨?_, ?_⟩ <;> kernel_rfl)))
   | fail)
  repeat (with_reducible first | refine stp ?_ | refine k_seq_n ?_)
  refine st_draw 9 (fun _ => false) (by kernel_rfl) ?_
  simp only [List.take_succ_cons, List.take_zero, List.drop_succ_cons, List.drop_zero, List.take_nil, List.drop_nil]
  repeat' (first
   | with_reducible refine stp ?_
   | with_reducible refine k_blk_o rfl ?_
   | ((try (conv => arg 1; simp [boxX, y1.b0, y1.b1, y1.l0, e1, hw, words, Word.cells])); with_reducible refine evp ?_)
   | ((with_reducible refine apn ?na ?_); (case na => simp [appNames, ints, intss] <;> first | kernel_rfl | (refine ⟨?_, ?_⟩ <;> kernel_rfl)))
   | fail)
  refine cx_k (y1.next.box_new y1.off (by simp)) ?_
  intro h2 y2
  have m2 : nb.1 < h2.tick := y2.lt nb (by simp [nms])
  repeat' (first
   | with_reducible refine stp ?_
   | with_reducible refine k_blk_o rfl ?_
   | ((try (conv => arg 1; simp [boxX, y2.b2])); with_reducible refine evp ?_)
   | ((with_reducible refine apn ?na ?_); (case na => simp [appNames, ints, intss] <;> first | kernel_rfl | (refine ⟨?_, ?_⟩ <;> kernel_rfl)))
   | fail)
  refine cx_k y2.next ?_
  intro h3 y3
  repeat' (first
   | with_reducible refine stp ?_
   | with_reducible refine k_blk_o rfl ?_
   | ((try (conv => arg 1; simp [boxX, y3.b0])); with_reducible refine evp ?_)
   | ((with_reducible refine apn ?na ?_); (case na => simp [appNames, ints, intss] <;> first | kernel_rfl | (refine ⟨?_, ?_⟩ <;> kernel_rfl)))
   | fail)
  refine cx_k y3.next ?_
  intro h4 y4
  have m4 : nb.1 < h4.tick := y4.lt nb (by simp [nms])
  have tk9 : nb.1 < h4.tick + 1 + 1 + 1 + 1 + 1 + 1 + 1 + 1 + 1 := by omega
  have tk10 : nb.1 < h4.tick + 1 + 1 + 1 + 1 + 1 + 1 + 1 + 1 + 1 + 1 := by omega
  have tk11 : nb.1 < h4.tick + 1 + 1 + 1 + 1 + 1 + 1 + 1 + 1 + 1 + 1 + 1 := by omega
  have tk12 : nb.1 < h4.tick + 1 + 1 + 1 + 1 + 1 + 1 + 1 + 1 + 1 + 1 + 1 + 1 := by omega
  have tk13 : nb.1 < h4.tick + 1 + 1 + 1 + 1 + 1 + 1 + 1 + 1 + 1 + 1 + 1 + 1 + 1 := by omega
  repeat' (first
   | with_reducible refine stp ?_
   | with_reducible refine k_blk_o rfl ?_
   | with_reducible refine k_seq_n ?_
   | ((try (conv => arg 1; simp [y4.b0, y4.b2, boxX, tk9, tk10, tk11, tk12, tk13])); with_reducible refine evp ?_)
   | ((with_reducible refine apn ?na ?_); (case na => simp [appNames, ints, intss] <;> first | kernel_rfl | (refine ⟨?_, ?_⟩ <;> kernel_rfl)))
   | fail)
  have es : stepC ⟨i, Regs, Slots, Mem, Input, Out, Code, Over, Val⟩ ⟨8, R, A, B, N⟩ = ⟨N, Regs, Slots, Mem, Input, Out, Code, Over, Val⟩ := by simp [stepC, rd_at, *]
  rw [es]
  exact ⟨[.int .i64 (N), w1, w2, w3, w4, w5, .int .i64 Code, .bool Over, .int .i64 Val], _, Cx.cpu_join (c := ⟨N, Regs, Slots, Mem, Input, Out, Code, Over, Val⟩) (Cx.box_drop (Cx.box_drop (Cx.box_set2 (by first | exact y4 | exact y4.next | exact y4.next.next | exact y4.next.next.next | exact y4.next.next.next.next | exact y4.next.next.next.next.next | exact y4.next.next.next.next.next.next | exact y4.next.next.next.next.next.next.next | exact y4.next.next.next.next.next.next.next.next | exact y4.next.next.next.next.next.next.next.next.next | exact y4.next.next.next.next.next.next.next.next.next.next | exact y4.next.next.next.next.next.next.next.next.next.next.next | exact y4.next.next.next.next.next.next.next.next.next.next.next.next | exact y4.next.next.next.next.next.next.next.next.next.next.next.next.next | exact y4.next.next.next.next.next.next.next.next.next.next.next.next.next.next | exact y4.next.next.next.next.next.next.next.next.next.next.next.next.next.next.next)))), .inl rfl⟩

set_option maxHeartbeats 1000000 in
theorem step_jz (m : Image) (c : Cpu) (i : Nat) (w : Word) (hat : c.At = (i : Int)) (hw : m.Code[i]? = some w) (ho : w.Op = 9) {r : Nat} (hr : w.R = (r : Int)) (hrl : r < c.Regs.length) : StepOkX m c (stepC c w) := by
  obtain ⟨Op, R, A, B, N⟩ := w
  obtain ⟨At, Regs, Slots, Mem, Input, Out, Code, Over, Val⟩ := c
  simp only at hat ho hr hrl
  subst hat ho hr
  have hnil : True := trivial
  intro ext h nb l ns bs os x ok
  obtain ⟨w1, w2, w3, w4, w5, n1, n2, n3, n4, n5, rfl, y⟩ := x.cpu_split
  dsimp only at y
  have q1 := own_one (own_of (y.o0 true) rfl)
  have q2 := own_one (own_of (y.o1 true) rfl)
  have q3 := own_one (own_of (y.o2 true) rfl)
  have q4 := own_one (own_of (y.o3 true) rfl)
  have q5 := own_one (own_of (y.o4 true) rfl)
  refine enter mixed MW17 Try.func72 rfl (by kernel_rfl) rfl ?_
  repeat' (first
   | with_reducible refine stp ?_
   | with_reducible refine k_blk_o rfl ?_
   | ((try (conv => arg 1; simp [Image.cells])); with_reducible refine evp ?_)
   | ((with_reducible refine apn ?na ?_); (case na => simp [appNames, ints, intss] <;> first | kernel_rfl | (refine ⟨?_, ?_⟩ <;> kernel_rfl)))
   | fail)
  refine cx_k (y.next.box_one y.off (by simp)) ?_
  intro h1 y1
  have m1 : nb.1 < h1.tick := y1.lt nb (by simp [nms])
  have e1 : ¬ nb.1 = h1.tick := by omega
  repeat' (first
   | with_reducible refine stp ?_
   | with_reducible refine k_blk_o rfl ?_
   | ((try (conv => arg 1; simp [boxX])); with_reducible refine evp ?_)
   | ((with_reducible refine apn ?na ?_); (case na => simp [appNames, ints, intss] <;> first | kernel_rfl | (refine ⟨?_, ?_⟩ <;> kernel_rfl)))
   | fail)
  repeat (with_reducible first | refine stp ?_ | refine k_seq_n ?_)
  refine st_draw 9 (fun _ => false) (by kernel_rfl) ?_
  simp only [List.take_succ_cons, List.take_zero, List.drop_succ_cons, List.drop_zero, List.take_nil, List.drop_nil]
  repeat' (first
   | with_reducible refine stp ?_
   | with_reducible refine k_blk_o rfl ?_
   | ((try (conv => arg 1; simp [boxX, y1.b0, y1.b1, y1.l0, e1, hw, words, Word.cells])); with_reducible refine evp ?_)
   | ((with_reducible refine apn ?na ?_); (case na => simp [appNames, ints, intss] <;> first | kernel_rfl | (refine ⟨?_, ?_⟩ <;> kernel_rfl)))
   | fail)
  refine cx_k (y1.next.box_new y1.off (by simp)) ?_
  intro h2 y2
  have m2 : nb.1 < h2.tick := y2.lt nb (by simp [nms])
  repeat' (first
   | with_reducible refine stp ?_
   | with_reducible refine k_blk_o rfl ?_
   | ((try (conv => arg 1; simp [boxX, y2.b2])); with_reducible refine evp ?_)
   | ((with_reducible refine apn ?na ?_); (case na => simp [appNames, ints, intss] <;> first | kernel_rfl | (refine ⟨?_, ?_⟩ <;> kernel_rfl)))
   | fail)
  refine cx_k y2.next ?_
  intro h3 y3
  repeat' (first
   | with_reducible refine stp ?_
   | with_reducible refine k_blk_o rfl ?_
   | ((try (conv => arg 1; simp [boxX, y3.b0])); with_reducible refine evp ?_)
   | ((with_reducible refine apn ?na ?_); (case na => simp [appNames, ints, intss] <;> first | kernel_rfl | (refine ⟨?_, ?_⟩ <;> kernel_rfl)))
   | fail)
  refine cx_k y3.next ?_
  intro h4 y4
  repeat' (first
   | with_reducible refine stp ?_
   | with_reducible refine k_blk_o rfl ?_
   | with_reducible refine k_seq_n ?_
   | ((try (conv => arg 1; simp [hnil])); with_reducible refine evp ?_)
   | ((with_reducible refine apn ?na ?_); (case na => simp [appNames, ints, intss] <;> first | kernel_rfl | (refine ⟨?_, ?_⟩ <;> kernel_rfl)))
   | fail)
  refine cx_wp (by first | exact y4 | exact y4.next | exact y4.next.next | exact y4.next.next.next | exact y4.next.next.next.next | exact y4.next.next.next.next.next | exact y4.next.next.next.next.next.next | exact y4.next.next.next.next.next.next.next | exact y4.next.next.next.next.next.next.next.next | exact y4.next.next.next.next.next.next.next.next.next | exact y4.next.next.next.next.next.next.next.next.next.next | exact y4.next.next.next.next.next.next.next.next.next.next.next | exact y4.next.next.next.next.next.next.next.next.next.next.next.next | exact y4.next.next.next.next.next.next.next.next.next.next.next.next.next | exact y4.next.next.next.next.next.next.next.next.next.next.next.next.next.next | exact y4.next.next.next.next.next.next.next.next.next.next.next.next.next.next.next) ?_
  intro h5 y5
  have m5 : nb.1 < h5.tick := y5.lt nb (by simp [nms])
  have e5 : ¬ nb.1 = h5.tick := by omega
  obtain ⟨k1, v1, p1, s1, a1, b1⟩ := y5.ints_at hrl
  have ew := a1.val
  subst ew
  have c1 : ¬ k1.1 = h5.tick := by omega
  have d1 : k1.1 < h5.tick + 1 := by omega
  have g1 := a1.get hrl
  repeat (with_reducible first | refine stp ?_ | refine k_seq_n ?_)
  refine st_draw 9 (fun _ => false) (by kernel_rfl) ?_
  simp only [List.take_succ_cons, List.take_zero, List.drop_succ_cons, List.drop_zero, List.take_nil, List.drop_nil]
  repeat' (first
   | with_reducible refine stp ?_
   | with_reducible refine k_blk_o rfl ?_
   | ((try (conv => arg 1; simp [boxX, y5.b0, y5.l0, y5.b2, e5, a1.row, g1, c1, d1, hrl])); with_reducible refine evp ?_)
   | ((with_reducible refine apn ?na ?_); (case na => simp [appNames, ints, intss] <;> first | kernel_rfl | (refine ⟨?_, ?_⟩ <;> kernel_rfl)))
   | fail)
  refine cx_k y5.next ?_
  intro h6 y6
  have m6 : nb.1 < h6.tick := y6.lt nb (by simp [nms])
  have tk1 : nb.1 < h6.tick + 1 := by omega
  have tk2 : nb.1 < h6.tick + 1 + 1 := by omega
  have tk3 : nb.1 < h6.tick + 1 + 1 + 1 := by omega
  by_cases hz : Regs[r] = 0
  · skip
    repeat' (first
     | with_reducible refine stp ?_
     | with_reducible refine k_blk_o rfl ?_
     | with_reducible refine k_seq_n ?_
     | ((try (conv => arg 1; simp [boxX, hz, y6.b0, y6.b2, m6, tk1, tk2, tk3])); with_reducible refine evp ?_)
     | ((with_reducible refine apn ?na ?_); (case na => simp [appNames, ints, intss] <;> first | kernel_rfl | (refine ⟨?_, ?_⟩ <;> kernel_rfl)))
     | fail)
    have es : stepC ⟨i, Regs, Slots, Mem, Input, Out, Code, Over, Val⟩ ⟨9, r, A, B, N⟩ = ⟨N, Regs, Slots, Mem, Input, Out, Code, Over, Val⟩ := by simp [stepC, rd_at, *]
    rw [es]
    exact ⟨[.int .i64 (N), .sl k1 v1 p1 Regs.length, w2, w3, w4, w5, .int .i64 Code, .bool Over, .int .i64 Val], _, Cx.cpu_join (c := ⟨N, Regs, Slots, Mem, Input, Out, Code, Over, Val⟩) (Cx.box_drop (Cx.box_drop (Cx.box_set2 (by first | exact y6 | exact y6.next | exact y6.next.next | exact y6.next.next.next | exact y6.next.next.next.next | exact y6.next.next.next.next.next | exact y6.next.next.next.next.next.next | exact y6.next.next.next.next.next.next.next | exact y6.next.next.next.next.next.next.next.next | exact y6.next.next.next.next.next.next.next.next.next | exact y6.next.next.next.next.next.next.next.next.next.next | exact y6.next.next.next.next.next.next.next.next.next.next.next | exact y6.next.next.next.next.next.next.next.next.next.next.next.next | exact y6.next.next.next.next.next.next.next.next.next.next.next.next.next | exact y6.next.next.next.next.next.next.next.next.next.next.next.next.next.next | exact y6.next.next.next.next.next.next.next.next.next.next.next.next.next.next.next)))), .inl rfl⟩
  · skip
    repeat' (first
     | with_reducible refine stp ?_
     | with_reducible refine k_blk_o rfl ?_
     | with_reducible refine k_seq_n ?_
     | ((try (conv => arg 1; simp [boxX, hz, y6.b0, y6.b2, m6, tk1, tk2, tk3])); with_reducible refine evp ?_)
     | ((with_reducible refine apn ?na ?_); (case na => simp [appNames, ints, intss] <;> first | kernel_rfl | (refine ⟨?_, ?_⟩ <;> kernel_rfl)))
     | fail)
    have es : stepC ⟨i, Regs, Slots, Mem, Input, Out, Code, Over, Val⟩ ⟨9, r, A, B, N⟩ = ⟨IntKind.i64.wrap (i + 1), Regs, Slots, Mem, Input, Out, Code, Over, Val⟩ := by simp [stepC, rd_at, *]
    rw [es]
    exact ⟨[.int .i64 (IntKind.i64.wrap (i + 1)), .sl k1 v1 p1 Regs.length, w2, w3, w4, w5, .int .i64 Code, .bool Over, .int .i64 Val], _, Cx.cpu_join (c := ⟨IntKind.i64.wrap (i + 1), Regs, Slots, Mem, Input, Out, Code, Over, Val⟩) (Cx.box_drop (Cx.box_drop (Cx.box_set2 (by first | exact y6 | exact y6.next | exact y6.next.next | exact y6.next.next.next | exact y6.next.next.next.next | exact y6.next.next.next.next.next | exact y6.next.next.next.next.next.next | exact y6.next.next.next.next.next.next.next | exact y6.next.next.next.next.next.next.next.next | exact y6.next.next.next.next.next.next.next.next.next | exact y6.next.next.next.next.next.next.next.next.next.next | exact y6.next.next.next.next.next.next.next.next.next.next.next | exact y6.next.next.next.next.next.next.next.next.next.next.next.next | exact y6.next.next.next.next.next.next.next.next.next.next.next.next.next | exact y6.next.next.next.next.next.next.next.next.next.next.next.next.next.next | exact y6.next.next.next.next.next.next.next.next.next.next.next.next.next.next.next)))), .inl rfl⟩

set_option maxHeartbeats 1000000 in
theorem step_ret (m : Image) (c : Cpu) (i : Nat) (w : Word) (hat : c.At = (i : Int)) (hw : m.Code[i]? = some w) (ho : w.Op = 10) {r : Nat} (hr : w.R = (r : Int)) (hrl : r < c.Regs.length) : StepOkX m c (stepC c w) := by
  obtain ⟨Op, R, A, B, N⟩ := w
  obtain ⟨At, Regs, Slots, Mem, Input, Out, Code, Over, Val⟩ := c
  simp only at hat ho hr hrl
  subst hat ho hr
  have hnil : True := trivial
  intro ext h nb l ns bs os x ok
  obtain ⟨w1, w2, w3, w4, w5, n1, n2, n3, n4, n5, rfl, y⟩ := x.cpu_split
  dsimp only at y
  have q1 := own_one (own_of (y.o0 true) rfl)
  have q2 := own_one (own_of (y.o1 true) rfl)
  have q3 := own_one (own_of (y.o2 true) rfl)
  have q4 := own_one (own_of (y.o3 true) rfl)
  have q5 := own_one (own_of (y.o4 true) rfl)
  refine enter mixed MW17 Try.func72 rfl (by kernel_rfl) rfl ?_
  repeat' (first
   | with_reducible refine stp ?_
   | with_reducible refine k_blk_o rfl ?_
   | ((try (conv => arg 1; simp [Image.cells])); with_reducible refine evp ?_)
   | ((with_reducible refine apn ?na ?_); (case na => simp [appNames, ints, intss] <;> first | kernel_rfl | (refine ⟨?_, ?_⟩ <;> kernel_rfl)))
   | fail)
  refine cx_k (y.next.box_one y.off (by simp)) ?_
  intro h1 y1
  have m1 : nb.1 < h1.tick := y1.lt nb (by simp [nms])
  have e1 : ¬ nb.1 = h1.tick := by omega
  repeat' (first
   | with_reducible refine stp ?_
   | with_reducible refine k_blk_o rfl ?_
   | ((try (conv => arg 1; simp [boxX])); with_reducible refine evp ?_)
   | ((with_reducible refine apn ?na ?_); (case na => simp [appNames, ints, intss] <;> first | kernel_rfl | (refine ⟨?_, ?_⟩ <;> kernel_rfl)))
   | fail)
  repeat (with_reducible first | refine stp ?_ | refine k_seq_n ?_)
  refine st_draw 9 (fun _ => false) (by kernel_rfl) ?_
  simp only [List.take_succ_cons, List.take_zero, List.drop_succ_cons, List.drop_zero, List.take_nil, List.drop_nil]
  repeat' (first
   | with_reducible refine stp ?_
   | with_reducible refine k_blk_o rfl ?_
   | ((try (conv => arg 1; simp [boxX, y1.b0, y1.b1, y1.l0, e1, hw, words, Word.cells])); with_reducible refine evp ?_)
   | ((with_reducible refine apn ?na ?_); (case na => simp [appNames, ints, intss] <;> first | kernel_rfl | (refine ⟨?_, ?_⟩ <;> kernel_rfl)))
   | fail)
  refine cx_k (y1.next.box_new y1.off (by simp)) ?_
  intro h2 y2
  have m2 : nb.1 < h2.tick := y2.lt nb (by simp [nms])
  repeat' (first
   | with_reducible refine stp ?_
   | with_reducible refine k_blk_o rfl ?_
   | ((try (conv => arg 1; simp [boxX, y2.b2])); with_reducible refine evp ?_)
   | ((with_reducible refine apn ?na ?_); (case na => simp [appNames, ints, intss] <;> first | kernel_rfl | (refine ⟨?_, ?_⟩ <;> kernel_rfl)))
   | fail)
  refine cx_k y2.next ?_
  intro h3 y3
  repeat' (first
   | with_reducible refine stp ?_
   | with_reducible refine k_blk_o rfl ?_
   | ((try (conv => arg 1; simp [boxX, y3.b0])); with_reducible refine evp ?_)
   | ((with_reducible refine apn ?na ?_); (case na => simp [appNames, ints, intss] <;> first | kernel_rfl | (refine ⟨?_, ?_⟩ <;> kernel_rfl)))
   | fail)
  refine cx_k y3.next ?_
  intro h4 y4
  have m4 : nb.1 < h4.tick := y4.lt nb (by simp [nms])
  have tk9 : nb.1 < h4.tick + 1 + 1 + 1 + 1 + 1 + 1 + 1 + 1 + 1 := by omega
  have tk10 : nb.1 < h4.tick + 1 + 1 + 1 + 1 + 1 + 1 + 1 + 1 + 1 + 1 := by omega
  have tk11 : nb.1 < h4.tick + 1 + 1 + 1 + 1 + 1 + 1 + 1 + 1 + 1 + 1 + 1 := by omega
  have tk12 : nb.1 < h4.tick + 1 + 1 + 1 + 1 + 1 + 1 + 1 + 1 + 1 + 1 + 1 + 1 := by omega
  have tk13 : nb.1 < h4.tick + 1 + 1 + 1 + 1 + 1 + 1 + 1 + 1 + 1 + 1 + 1 + 1 + 1 := by omega
  repeat' (first
   | with_reducible refine stp ?_
   | with_reducible refine k_blk_o rfl ?_
   | with_reducible refine k_seq_n ?_
   | ((try (conv => arg 1; simp [y4.b2, boxX, tk9, tk10, tk11, tk12, tk13])); with_reducible refine evp ?_)
   | ((with_reducible refine apn ?na ?_); (case na => simp [appNames, ints, intss] <;> first | kernel_rfl | (refine ⟨?_, ?_⟩ <;> kernel_rfl)))
   | fail)
  refine cx_wp (Cx.box_set2 (r' := boxX ext [.int .i64 (i), w1, w2, w3, w4, w5, .int .i64 Code, .bool true, .int .i64 Val]) (by first | exact y4 | exact y4.next | exact y4.next.next | exact y4.next.next.next | exact y4.next.next.next.next | exact y4.next.next.next.next.next | exact y4.next.next.next.next.next.next | exact y4.next.next.next.next.next.next.next | exact y4.next.next.next.next.next.next.next.next | exact y4.next.next.next.next.next.next.next.next.next | exact y4.next.next.next.next.next.next.next.next.next.next | exact y4.next.next.next.next.next.next.next.next.next.next.next | exact y4.next.next.next.next.next.next.next.next.next.next.next.next | exact y4.next.next.next.next.next.next.next.next.next.next.next.next.next | exact y4.next.next.next.next.next.next.next.next.next.next.next.next.next.next | exact y4.next.next.next.next.next.next.next.next.next.next.next.next.next.next.next)) ?_
  intro h5 y5
  have m5 : nb.1 < h5.tick := y5.lt nb (by simp [nms])
  have e5 : ¬ nb.1 = h5.tick := by omega
  obtain ⟨k1, v1, p1, s1, a1, b1⟩ := y5.ints_at hrl
  have ew := a1.val
  subst ew
  have c1 : ¬ k1.1 = h5.tick := by omega
  have d1 : k1.1 < h5.tick + 1 := by omega
  have g1 := a1.get hrl
  repeat (with_reducible first | refine stp ?_ | refine k_seq_n ?_)
  refine st_draw 11 (fun _ => false) (by kernel_rfl) ?_
  simp only [List.take_succ_cons, List.take_zero, List.drop_succ_cons, List.drop_zero, List.take_nil, List.drop_nil]
  repeat' (first
   | with_reducible refine stp ?_
   | with_reducible refine k_blk_o rfl ?_
   | with_reducible refine k_seq_n ?_
   | ((try (conv => arg 1; simp [boxX, y5.b0, y5.l0, y5.b2, e5, m5, a1.row, g1, c1, d1, hrl])); with_reducible refine evp ?_)
   | ((with_reducible refine apn ?na ?_); (case na => simp [appNames, ints, intss] <;> first | kernel_rfl | (refine ⟨?_, ?_⟩ <;> kernel_rfl)))
   | fail)
  have es : stepC ⟨i, Regs, Slots, Mem, Input, Out, Code, Over, Val⟩ ⟨10, r, A, B, N⟩ = ⟨i, Regs, Slots, Mem, Input, Out, Code, true, Regs[r]⟩ := by simp [stepC, rd_at, *]
  rw [es]
  exact ⟨[.int .i64 (i), .sl k1 v1 p1 Regs.length, w2, w3, w4, w5, .int .i64 Code, .bool true, .int .i64 Regs[r]], _, Cx.cpu_join (c := ⟨i, Regs, Slots, Mem, Input, Out, Code, true, Regs[r]⟩) (Cx.box_drop (Cx.box_drop (Cx.box_set2 (by first | exact y5 | exact y5.next | exact y5.next.next | exact y5.next.next.next | exact y5.next.next.next.next | exact y5.next.next.next.next.next | exact y5.next.next.next.next.next.next | exact y5.next.next.next.next.next.next.next | exact y5.next.next.next.next.next.next.next.next | exact y5.next.next.next.next.next.next.next.next.next | exact y5.next.next.next.next.next.next.next.next.next.next | exact y5.next.next.next.next.next.next.next.next.next.next.next | exact y5.next.next.next.next.next.next.next.next.next.next.next.next | exact y5.next.next.next.next.next.next.next.next.next.next.next.next.next | exact y5.next.next.next.next.next.next.next.next.next.next.next.next.next.next | exact y5.next.next.next.next.next.next.next.next.next.next.next.next.next.next.next)))), .inl rfl⟩
end Go.Proofs.Ytfgaoojogididaa.AM

/-
  One number more behind a slice of whole numbers; the first one taken off; numbers in slices of slices.
-/
set_option linter.unusedVariables false
set_option linter.unusedSimpArgs false
set_option maxRecDepth 4000
namespace Go.Proofs.Ytfgaoojogididaa.AM
open Go.RowKit

theorem appendA_ints {P : Program} {t : TypeId} {m n k : Nm} {v vk : Nat} {h : Hp} {pre sp : List (List AV)} {xs : List Int} {y : Int} (h0 : ((telem P t).bind fun e => (tsz P e).bind fun s => (tby P e).bind fun bb => (tzero P e).bind fun z => some (s, decide (0 < s ∧ bb ≤ 32768 ∧ z.length = s))) = some (1, true))
    (hr : h.rows m = some ⟨v, 1, pre ++ (cl1 xs ++ sp)⟩) (hk : h.rows k = some ⟨vk, 1, [[.int .i64 y]]⟩) (hl : xs.length + 1 ≤ 4294967296) (hm : m.1 < h.tick) (hsp : ∀ e ∈ sp, e.length = 1) (hpr : ∀ e ∈ pre, e.length = 1) (c1 : ClRow ⟨v, 1, pre⟩) (c2 : ClRow ⟨v, 1, sp⟩) :
    ∃ w' r', appendA P t (.sl m v pre.length xs.length) (.sl k vk 0 1) h n = some (w', h.put m r') ∧ r'.esz = 1 ∧ (∃ off len, w' = .sl m r'.ver off len) ∧ ∀ rows : Nm → Option Row, rows m = some r' → ∀ b, Own rows b [w'] [ints b (xs ++ [y])] [m] := by
  simp only [Option.bind_eq_some_iff] at h0
  obtain ⟨e', he', s', hs, bb, hb, z, hz, hd⟩ := h0
  simp only [Option.some.injEq, Prod.mk.injEq, decide_eq_true_eq] at hd
  obtain ⟨e1, hd1, hd2, hd3⟩ := hd
  rw [e1] at hs hd1 hd3
  have hsrc : srcElems h.rows (.sl k vk 0 1) = some [[.int .i64 y]] := by simp [srcElems, hk]
  have hll : (cl1 xs).length = xs.length := by simp [cl1]
  cases sp with
  | nil =>
    refine ⟨.sl m (v + 1) 0 (xs.length + 1), ⟨v + 1, 1, cl1 xs ++ [[.int .i64 y]]⟩, ?_, rfl, ⟨0, _, rfl⟩, fun rows hrow b => ?_⟩
    · unfold appendA
      rw [he', hsrc]
      simp only [hs, hb, hz]
      have hnot : ¬ pre.length + (xs.length + 1) ≤ pre.length + xs.length := by omega
      have htk : List.take xs.length (cl1 xs) = cl1 xs := by rw [← hll, List.take_length]
      simp [hd1, hd2, hd3, hr, hl, hm, hll, hnot, htk]
    · have := own_ints_mk (rows := rows) (n := m) (ver := v + 1) (xs := xs ++ [y]) (pre := []) (sp := []) (by rw [hrow]; simp [cl1]) (by simp) (by simp) (fun i e j x he => by simp at he) (fun i e j x he => by simp at he) (c := b)
      simpa using this
  | cons e sp =>
    refine ⟨.sl m v pre.length (xs.length + 1), ⟨v, 1, pre ++ (cl1 xs ++ ([.int .i64 y] :: sp))⟩, ?_, rfl, ⟨_, _, rfl⟩, fun rows hrow b => ?_⟩
    · unfold appendA
      rw [he', hsrc]
      simp only [hs, hb, hz]
      have hyes : pre.length + (xs.length + 1) ≤ pre.length + (xs.length + (sp.length + 1)) := by omega
      have hles : pre.length + xs.length ≤ pre.length + (xs.length + (sp.length + 1)) := by omega
      have ht : List.take (pre.length + xs.length) (pre ++ (cl1 xs ++ e :: sp)) = pre ++ cl1 xs := by
        rw [← hll, ← List.append_assoc, ← List.length_append, List.take_left]
      have hdr : List.drop (pre.length + (xs.length + 1)) (pre ++ (cl1 xs ++ e :: sp)) = sp := by
        rw [show pre ++ (cl1 xs ++ e :: sp) = (pre ++ (cl1 xs ++ [e])) ++ sp by simp, show pre.length + (xs.length + 1) = (pre ++ (cl1 xs ++ [e])).length by simp [hll], List.drop_left]
      simp [hd1, hd2, hd3, hr, hl, hm, hll, hyes, hles, ht, hdr]
    · have := own_ints_mk (rows := rows) (n := m) (ver := v) (xs := xs ++ [y]) (pre := pre) (sp := sp) (by rw [hrow]; simp [cl1]) hpr (fun e he => hsp e (by simp [he])) c1 (fun i e j x he => c2 (i + 1) e j x (by simpa using he)) (c := b)
      simpa using this

theorem append_own {P : Program} {t : TypeId} {n0 k : Nm} {vk : Nat} {h : Hp} {w : AV} {xs : List Int} {ns : List Nm} {y : Int} (h0 : ((telem P t).bind fun e => (tsz P e).bind fun s => (tby P e).bind fun bb => (tzero P e).bind fun z => some (s, decide (0 < s ∧ bb ≤ 32768 ∧ z.length = s))) = some (1, true))
    (o : Own h.rows true [w] [ints true xs] ns) (ok : ∀ n ver off len, w = .sl n ver off len → ∃ r, h.rows n = some r ∧ r.ver = ver ∧ r.esz = 1) (hk : h.rows k = some ⟨vk, 1, [[.int .i64 y]]⟩) (hl : xs.length + 1 ≤ 4294967296) (hns : ∀ n ∈ ns, n.1 < h.tick) :
    ∃ w' n' r', appendA P t w (.sl k vk 0 1) h n0 = some (w', h.put n' r') ∧ (w = .nilsl ∧ n' = n0 ∧ ns = [] ∨ ns = [n'] ∧ ∃ v o l, w = .sl n' v o l) ∧ r'.esz = 1 ∧ (∃ off len, w' = .sl n' r'.ver off len) ∧ ∀ rows : Nm → Option Row, rows n' = some r' → ∀ b, Own rows b [w'] [ints b (xs ++ [y])] [n'] := by
  rcases own_ints_inv o with ⟨rfl, _, hx⟩ | ⟨n, ver, pre, sp, rfl, rfl, hr, h1, h2, h3, h4⟩
  · rcases hx with ⟨rfl, rfl⟩ | ⟨n, ver, off, rfl, rfl⟩
    · simp only [Option.bind_eq_some_iff] at h0
      obtain ⟨e', he', s', hs, bb, hb, z, hz, hd⟩ := h0
      simp only [Option.some.injEq, Prod.mk.injEq, decide_eq_true_eq] at hd
      obtain ⟨e1, hd1, hd2, hd3⟩ := hd
      rw [e1] at hs hd1 hd3
      have hsrc : srcElems h.rows (.sl k vk 0 1) = some [[.int .i64 y]] := by simp [srcElems, hk]
      refine ⟨.sl n0 0 0 1, n0, ⟨0, 1, [[.int .i64 y]]⟩, ?_, .inl ⟨rfl, rfl, rfl⟩, rfl, ⟨_, _, rfl⟩, fun rows hrow b => ?_⟩
      · unfold appendA
        rw [he', hsrc]
        simp [hs, hb, hz, hd2, hd3]
      · exact own_ints (xs := [y]) (ys := [y]) hrow rfl rfl
    · obtain ⟨r, hr, hv, hz⟩ := ok n ver off 0 rfl
      have hn : n.1 < h.tick := hns n (by simp)
      have key : ∃ pre sp : List (List AV), pre.length = off ∧ r = ⟨ver, 1, pre ++ (cl1 [] ++ sp)⟩ ∧ (∀ e ∈ pre, e.length = 1) ∧ (∀ e ∈ sp, e.length = 1) ∧ ClRow ⟨ver, 1, pre⟩ ∧ ClRow ⟨ver, 1, sp⟩ := by
        obtain ⟨rv, re, rl⟩ := r
        simp only at hv hz
        subst hv hz
        generalize ht : ints true [] = tt at o
        generalize hnn : [n] = nn at o
        generalize hww : AV.sl n rv off 0 = ww at o
        cases o with
        | nilsl => cases hww
        | int => cases hww
        | bool => cases hww
        | str => cases hww
        | sl n' ver len s r' ts' g1 g2 g3 g4 g5 g6 g7 g8 g9 g10 =>
          cases hww
          rw [hr] at g1
          cases g1
          simp only at g3
          subst g3
          exact ⟨[], rl, rfl, by simp [cl1], by simp, g6, fun i e j x he => by simp at he, g4⟩
        | slo n' ver pre sp zs g1 g2 g3 g4 g5 g6 =>
          have hzs : zs = [] := by
            cases zs with
            | nil => rfl
            | cons z zs => simp [ints] at ht
          subst hzs
          cases hww
          rw [hr] at g1
          cases g1
          exact ⟨pre, sp, rfl, by simp [cl1], g4, g5, g2, g3⟩
      obtain ⟨pre, sp, rfl, rfl, h1, h2, h3, h4⟩ := key
      obtain ⟨w', r', q1, q2, q3, q4⟩ := appendA_ints (n := n0) (xs := []) (y := y) h0 hr hk (by simp) hn h2 h1 h3 h4
      exact ⟨w', n, r', q1, .inr ⟨rfl, _, _, _, rfl⟩, q2, q3, q4⟩
  · obtain ⟨w', r', q1, q2, q3, q4⟩ := appendA_ints (n := n0) (y := y) h0 hr hk hl (hns n (by simp)) h2 h1 h3 h4
    exact ⟨w', n, r', q1, .inr ⟨rfl, _, _, _, rfl⟩, q2, q3, q4⟩

section
variable {h h' : Hp} {bs : Bx} {os : Ox} {n' : Nm} {v v' : AV} {t t' : Bool → AV} {ns : List Nm}
/-- A value of its own, another one in its place. -/
theorem Cx.replace (x : Cx h bs ((v, t, ns) :: os)) (o : ∀ b, OwnV h'.rows b v' (t' b) [n']) (hn : ns = [n'] ∨ (n' ∉ nms bs ((v, t, ns) :: os) ∧ n'.1 < h'.tick)) (p : ∀ n, n ≠ n' → n ∈ nms bs ((v, t, ns) :: os) → h'.rows n = h.rows n) (q : h.tick ≤ h'.tick) : Cx h' bs ((v', t', [n']) :: os) := by
  have hsub : ∀ n, n ∈ nms bs os → n ∈ nms bs ((v, t, ns) :: os) := fun n hn => by
    simp only [nms, List.map_cons, List.flatten_cons, List.mem_append] at hn ⊢
    rcases hn with hn | hn
    · exact .inl hn
    · exact .inr (.inr hn)
  have hno : n' ∉ nms bs os := by
    rcases hn with rfl | ⟨h1, _⟩
    · have nd := x.nd
      simp only [nms, List.map_cons, List.flatten_cons, List.singleton_append] at nd
      rw [List.nodup_append] at nd
      obtain ⟨n1, n2, n3⟩ := nd
      intro e
      simp only [nms, List.mem_append] at e
      rcases e with e | e
      · exact n3 n' e n' (by simp) rfl
      · exact (List.nodup_cons.1 n2).1 e
    · exact fun e => h1 (hsub _ e)
  have hlt : n'.1 < h'.tick := by
    rcases hn with rfl | ⟨_, h2⟩
    · have := x.lts n' (by simp); omega
    · exact h2
  have hp : ∀ n ∈ nms bs os, h'.rows n = h.rows n := fun n hn => p n (fun e => hno (e ▸ hn)) (hsub n hn)
  exact x.drop.add_own o (by simp) (fun m hm => by simp at hm; subst hm; exact ⟨hno, hlt⟩) hp q
end
section
variable {P : Program} {M : FuncId → Mode} {C : CS} {σ : Nat → AV} {h : Hp} {all : Array Oper} {T i : Nat} {l : List Oper} {N : (Nat → AV) → Hp → Prop} {W : Nm → Bool} {rows0 : Nm → Option Row}
theorem gen_ap {A : Prop} {t : TypeId} {s x : AV} {n : Nm} {H : Hp} {Kv : AV → Hp → Prop} (F : Hp → Prop) (f : F H) (k : ∀ h', F h' → A ∧ Ev2 (appendA P t s x h' n) Kv) : A ∧ Ev2 (appendA P t s x H n) Kv := k H f
theorem gen_fr (F : Hp → Prop) (f : F h) (k : ∀ h', F h' → frontW P M C all T W rows0 l i σ h' N) : frontW P M C all T W rows0 l i σ h N := k h f
end

section
variable {h h' : Hp} {bs : Bx} {os : Ox} {n : Nm} {v : AV} {t : Bool → AV} {ns : List Nm}
theorem Cx.bx_own (x : Cx h bs os) (hb : n ∈ bs.map (·.1)) (he : ns ∈ os.map (·.2.2)) : n ∉ ns := fun hn => by
  have nd := x.nd
  simp only [nms] at nd
  rw [List.nodup_append] at nd
  exact nd.2.2 n hb n (List.mem_flatten.2 ⟨_, he, hn⟩) rfl
theorem Cx.own_own {ns' : List Nm} (x : Cx h bs ((v, t, ns) :: os)) (he : ns' ∈ os.map (·.2.2)) (hn : n ∈ ns) : n ∉ ns' := fun hn' => by
  have nd := x.nd
  simp only [nms, List.map_cons, List.flatten_cons] at nd
  rw [List.nodup_append] at nd
  exact (List.nodup_append.1 nd.2.1).2.2 n hn n (List.mem_flatten.2 ⟨_, he, hn'⟩) rfl
theorem own_sl_mem {rows : Nm → Option Row} {c : Bool} {ver off len : Nat} {tr : AV} (o : Own rows c [.sl n ver off len] [tr] ns) : n ∈ ns := by
  generalize hw : AV.sl n ver off len = w at o
  cases o with
  | int => cases hw
  | bool => cases hw
  | str => cases hw
  | nilsl => cases hw
  | sl => cases hw; simp
  | slo => cases hw; simp
variable {P : Program} {M : FuncId → Mode} {C : CS} {D : Array Oper → (Nat → AV) → Hp → ((Nat → AV) → Hp → Prop) → Prop} {σ : Nat → AV} {K : Ex → (Nat → AV) → Hp → Prop} {code : Code}
theorem cx_kf (F : Hp → Prop) {b : Code} (c : Cx h bs os) (f : F h) (k : ∀ h', Cx h' bs os → F h' → wpC P M C D b σ h' K) : KSeq P M C D b K .normal σ h := k h c f
theorem cx_wpf (F : Hp → Prop) (c : Cx h bs os) (f : F h) (k : ∀ h', Cx h' bs os → F h' → wpC P M C D code σ h' K) : wpC P M C D code σ h K := k h c f
end
theorem app_names_nt {B : Array Nat} {T i : Nat} {W : Nm → Bool} {k : Nm} {v' o' l' : Nat} (h3 : k.1 = T) (h4 : befB B i k.2.1 = true) (h5 : k.2.2 = 0) : appNames B T i W .nilsl (.sl k v' o' l') := by
  unfold appNames
  exact ⟨trivial, by simp only; rw [if_pos h3]; exact ⟨h4, h5⟩⟩
end Go.Proofs.Ytfgaoojogididaa.AM

/-
  A stepper's next word: the program's, word by word.
-/
set_option linter.unusedVariables false
set_option linter.unusedSimpArgs false
set_option maxRecDepth 4000
namespace Go.Proofs.Ytfgaoojogididaa.AM
open Go.RowKit

private def MW19 : FuncId → Mode := fun f => .tree

set_option maxHeartbeats 1000000 in
theorem step_out (m : Image) (c : Cpu) (i : Nat) (w : Word) (hat : c.At = (i : Int)) (hw : m.Code[i]? = some w) (ho : w.Op = 7) {r : Nat} (hr : w.R = (r : Int)) (hrl : r < c.Regs.length) (hol : c.Out.length + 1 ≤ 4294967296) : StepOkX m c (stepC c w) := by
  obtain ⟨Op, R, A, B, N⟩ := w
  obtain ⟨At, Regs, Slots, Mem, Input, Out, Code, Over, Val⟩ := c
  simp only at hat ho hr hrl hol
  subst hat ho hr
  have hnil : True := trivial
  intro ext h nb l ns bs os x ok
  obtain ⟨w1, w2, w3, w4, w5, n1, n2, n3, n4, n5, rfl, y⟩ := x.cpu_split
  dsimp only at y
  have q1 := own_one (own_of (y.o0 true) rfl)
  have q2 := own_one (own_of (y.o1 true) rfl)
  have q3 := own_one (own_of (y.o2 true) rfl)
  have q4 := own_one (own_of (y.o3 true) rfl)
  have q5 := own_one (own_of (y.o4 true) rfl)
  refine enter mixed MW19 Try.func72 rfl (by kernel_rfl) rfl ?_
  repeat' (first
   | with_reducible refine stp ?_
   | with_reducible refine k_blk_o rfl ?_
   | ((try (conv => arg 1; simp [Image.cells])); with_reducible refine evp ?_)
   | ((with_reducible refine apn ?na ?_); (case na => simp [appNames, ints, intss] <;> first | kernel_rfl | (refine ⟨?_, ?_⟩ <;> kernel_rfl)))
   | fail)
  refine cx_kf (fun h' => ∀ n ∈ n5, h'.rows n = h.rows n) (y.next.box_one y.off (by simp)) (fun n hn => by have hl := y.lt n (by simp [nms, hn]); have e0 : n ≠ (h.tick, 0, 0) := (fun e => (by rw [e] at hl; simp at hl)); simp [e0]) ?_
  intro h1 y1 f1
  have m1 : nb.1 < h1.tick := y1.lt nb (by simp [nms])
  have e1 : ¬ nb.1 = h1.tick := by omega
  repeat' (first
   | with_reducible refine stp ?_
   | with_reducible refine k_blk_o rfl ?_
   | ((try (conv => arg 1; simp [boxX])); with_reducible refine evp ?_)
   | ((with_reducible refine apn ?na ?_); (case na => simp [appNames, ints, intss] <;> first | kernel_rfl | (refine ⟨?_, ?_⟩ <;> kernel_rfl)))
   | fail)
  repeat (with_reducible first | refine stp ?_ | refine k_seq_n ?_)
  refine st_draw 9 (fun _ => false) (by kernel_rfl) ?_
  simp only [List.take_succ_cons, List.take_zero, List.drop_succ_cons, List.drop_zero, List.take_nil, List.drop_nil]
  repeat' (first
   | with_reducible refine stp ?_
   | with_reducible refine k_blk_o rfl ?_
   | ((try (conv => arg 1; simp [boxX, y1.b0, y1.b1, y1.l0, e1, hw, words, Word.cells])); with_reducible refine evp ?_)
   | ((with_reducible refine apn ?na ?_); (case na => simp [appNames, ints, intss] <;> first | kernel_rfl | (refine ⟨?_, ?_⟩ <;> kernel_rfl)))
   | fail)
  refine cx_kf (fun h' => ∀ n ∈ n5, h'.rows n = h.rows n) (y1.next.box_new y1.off (by simp)) (fun n hn => by have hl := y1.lt n (by simp [nms, hn]); have e0 : n ≠ (h1.tick, 8, 0) := (fun e => (by rw [e] at hl; simp at hl)); simp [e0, f1 n hn]) ?_
  intro h2 y2 f2
  have m2 : nb.1 < h2.tick := y2.lt nb (by simp [nms])
  repeat' (first
   | with_reducible refine stp ?_
   | with_reducible refine k_blk_o rfl ?_
   | ((try (conv => arg 1; simp [boxX, y2.b2])); with_reducible refine evp ?_)
   | ((with_reducible refine apn ?na ?_); (case na => simp [appNames, ints, intss] <;> first | kernel_rfl | (refine ⟨?_, ?_⟩ <;> kernel_rfl)))
   | fail)
  refine cx_kf (fun h' => ∀ n ∈ n5, h'.rows n = h.rows n) y2.next (fun n hn => by have hl := y2.lt n (by simp [nms, hn]);  simp [f2 n hn]) ?_
  intro h3 y3 f3
  repeat' (first
   | with_reducible refine stp ?_
   | with_reducible refine k_blk_o rfl ?_
   | ((try (conv => arg 1; simp [boxX, y3.b0])); with_reducible refine evp ?_)
   | ((with_reducible refine apn ?na ?_); (case na => simp [appNames, ints, intss] <;> first | kernel_rfl | (refine ⟨?_, ?_⟩ <;> kernel_rfl)))
   | fail)
  refine cx_kf (fun h' => ∀ n ∈ n5, h'.rows n = h.rows n) y3.next (fun n hn => by have hl := y3.lt n (by simp [nms, hn]);  simp [f3 n hn]) ?_
  intro h4 y4 f4
  repeat' (first
   | with_reducible refine stp ?_
   | with_reducible refine k_blk_o rfl ?_
   | with_reducible refine k_seq_n ?_
   | ((try (conv => arg 1; simp [hnil])); with_reducible refine evp ?_)
   | ((with_reducible refine apn ?na ?_); (case na => simp [appNames, ints, intss] <;> first | kernel_rfl | (refine ⟨?_, ?_⟩ <;> kernel_rfl)))
   | fail)
  refine cx_wpf (fun h' => ∀ n ∈ n5, h'.rows n = h.rows n) (by first | exact y4 | exact y4.next | exact y4.next.next | exact y4.next.next.next | exact y4.next.next.next.next | exact y4.next.next.next.next.next | exact y4.next.next.next.next.next.next | exact y4.next.next.next.next.next.next.next | exact y4.next.next.next.next.next.next.next.next | exact y4.next.next.next.next.next.next.next.next.next | exact y4.next.next.next.next.next.next.next.next.next.next | exact y4.next.next.next.next.next.next.next.next.next.next.next | exact y4.next.next.next.next.next.next.next.next.next.next.next.next | exact y4.next.next.next.next.next.next.next.next.next.next.next.next.next | exact y4.next.next.next.next.next.next.next.next.next.next.next.next.next.next | exact y4.next.next.next.next.next.next.next.next.next.next.next.next.next.next.next) (fun n hn => by simp [f4 n hn]) ?_
  intro h5 y5 f5
  have m5 : nb.1 < h5.tick := y5.lt nb (by simp [nms])
  have e5 : ¬ nb.1 = h5.tick := by omega
  obtain ⟨k1, v1, p1, s1, a1, b1⟩ := y5.ints_at hrl
  have ew := a1.val
  subst ew
  have c1 : ¬ k1.1 = h5.tick := by omega
  have d1 : k1.1 < h5.tick + 1 := by omega
  have g1 := a1.get hrl
  have o5 := own_of (y5.o4 true) rfl
  have ok5 : ∀ n ver off len, w5 = .sl n ver off len → ∃ r, h5.rows n = some r ∧ r.ver = ver ∧ r.esz = 1 := fun n ver off len e => by
    obtain ⟨r, q1, q2, q3⟩ := ok n ver off len (by rw [e]; rfl)
    refine ⟨r, ?_, q2, q3⟩
    rw [f5 n (by rw [e] at o5; exact own_sl_mem o5)]
    exact q1
  have u1 : nb ∉ n5 := y5.bx_own (by simp) (by simp)
  have u2 : (h1.tick, 8, 0) ∉ n5 := y5.bx_own (by simp) (by simp)
  have u3 : k1 ∉ n5 := y5.own_own (by simp) (by rw [a1.nms]; simp)
  have u4 : ∀ n ∈ n5, n.1 < h5.tick := fun n hn => y5.lt n (by simp [nms, hn])
  have u5 : ∀ j, (h5.tick, j, 0) ∉ n5 := fun j e => by have := u4 _ e; simp at this
  repeat (with_reducible first | refine stp ?_ | refine k_seq_n ?_)
  refine st_draw 17 (fun n => decide (n ∈ n5)) (by kernel_rfl) ?_
  simp only [List.take_succ_cons, List.take_zero, List.drop_succ_cons, List.drop_zero, List.take_nil, List.drop_nil]
  repeat' (first
   | with_reducible refine stp ?_
   | with_reducible refine k_blk_o rfl ?_
   | ((try (conv => arg 1; simp [boxX, y5.b0, y5.l0, y5.b2, e5, u1, u2, u3, a1.row, g1, c1, d1, hrl, q5.1])); with_reducible refine evp ?_)
   | ((with_reducible refine apn ?na ?_); (case na => simp [appNames, ints, intss] <;> first | kernel_rfl | (refine ⟨?_, ?_⟩ <;> kernel_rfl)))
   | fail)
  refine gen_ap (fun h' => (∀ n, n.1 < h5.tick → h'.rows n = h5.rows n) ∧ h'.rows (h5.tick, 13, 0) = some ⟨0, 1, [[.int .i64 Regs[r]]]⟩ ∧ h'.tick = h5.tick + 1) ⟨fun n hn => ?_, by simp, by simp⟩ ?_
  · have : n ≠ (h5.tick, 13, 0) := fun e => by rw [e] at hn; simp at hn
    simp [this]
  rintro hc ⟨z1, z2, z3⟩
  obtain ⟨w', n', r', t1, t2, t3, ⟨off', len', rfl⟩, t5⟩ := append_own (P := Try.prog) (t := 22) (n0 := (h5.tick, 14, 0)) (k := (h5.tick, 13, 0)) (h := hc) (xs := Out) (by kernel_rfl) (o5.congr fun n hn => z1 n (u4 n hn)) (fun n ver off len e => by
    obtain ⟨r, g1, g2, g3⟩ := ok5 n ver off len e
    exact ⟨r, by rw [z1 n (u4 n (by rw [e] at o5; exact own_sl_mem o5))]; exact g1, g2, g3⟩) z2 hol (fun n hn => by have := u4 n hn; omega)
  refine ⟨?names, ?_⟩
  case names =>
    rcases t2 with ⟨rfl, _, _⟩ | ⟨e, v, o, l, rfl⟩
    · exact app_names_nt rfl (by kernel_rfl) rfl
    · exact app_names_ot (fun e' => by have := u4 n' (by rw [e]; simp); omega) (by simp [e]) rfl (by kernel_rfl) rfl
  have hnn : ¬ nb = n' := fun e => by
    rcases t2 with ⟨_, e2, _⟩ | ⟨e2, _⟩
    · rw [e, e2] at m5; simp at m5
    · exact u1 (by rw [e, e2]; simp)
  have hnb : hc.rows nb = some (boxX ext [.int .i64 i, .sl k1 v1 p1 Regs.length, w2, w3, w4, w5, .int .i64 Code, .bool Over, .int .i64 Val]) := by rw [z1 nb m5]; exact y5.b2
  have hnt : nb.1 < hc.tick := by omega
  rw [t1]
  refine ev2_some ?_
  repeat' (first
   | with_reducible refine stp ?_
   | with_reducible refine k_blk_o rfl ?_
   | ((try (conv => arg 1; simp [boxX, hnn, hnb, hnt])); with_reducible refine evp ?_)
   | ((with_reducible refine apn ?na ?_); (case na => simp [appNames, ints, intss] <;> first | kernel_rfl | (refine ⟨?_, ?_⟩ <;> kernel_rfl)))
   | fail)
  have base : Cx (hc.put n' r') _ _ := y5.rot4.replace (h' := hc.put n' r') (t' := fun b => ints b (Out ++ [Regs[r]])) (fun b => .one (t5 _ (by simp) b)) (by
      rcases t2 with ⟨_, e2, _⟩ | ⟨e2, _⟩
      · right
        subst e2
        exact ⟨fun e => by have := y5.rot4.lt _ e; simp at this, by simp; omega⟩
      · exact .inl e2) (fun n hn hm => by rw [hp_rows_put, if_neg hn]; exact z1 n (y5.rot4.lt n hm)) (by simp; omega)
  refine cx_kf (fun h' => OutOk h' [.int .i64 i, .sl k1 v1 p1 Regs.length, w2, w3, w4, .sl n' r'.ver off' len', .int .i64 Code, .bool Over, .int .i64 Val]) (base.rot4.rot4.rot4.rot4.box_set2 (r' := boxX ext [.int .i64 i, .sl k1 v1 p1 Regs.length, w2, w3, w4, .sl n' r'.ver off' len', .int .i64 Code, .bool Over, .int .i64 Val])) (fun n ver off len e => ?_) ?_
  · simp at e
    obtain ⟨rfl, rfl, rfl, rfl⟩ := e
    exact ⟨r', by simp [Ne.symm hnn], rfl, t3⟩
  intro h6 y6 f6
  have m6 : nb.1 < h6.tick := y6.lt nb (by simp [nms])
  repeat' (first
   | with_reducible refine stp ?_
   | with_reducible refine k_blk_o rfl ?_
   | with_reducible refine k_seq_n ?_
   | ((try (conv => arg 1; simp [boxX, y6.b2, m6])); with_reducible refine evp ?_)
   | ((with_reducible refine apn ?na ?_); (case na => simp [appNames, ints, intss] <;> first | kernel_rfl | (refine ⟨?_, ?_⟩ <;> kernel_rfl)))
   | fail)
  have fin := (y6.next.box_set2 (r' := boxX ext [.int .i64 (IntKind.i64.wrap (i + 1)), .sl k1 v1 p1 Regs.length, w2, w3, w4, .sl n' r'.ver off' len', .int .i64 Code, .bool Over, .int .i64 Val])).box_drop.box_drop
  have es : stepC ⟨i, Regs, Slots, Mem, Input, Out, Code, Over, Val⟩ ⟨7, r, A, B, N⟩ = ⟨IntKind.i64.wrap (i + 1), Regs, Slots, Mem, Input, Out ++ [Regs[r]], Code, Over, Val⟩ := by simp [stepC, rd_at, *]
  rw [es]
  refine ⟨_, _, fin.cpu_join (c := ⟨IntKind.i64.wrap (i + 1), Regs, Slots, Mem, Input, Out ++ [Regs[r]], Code, Over, Val⟩), .inr fun n ver off len e => ?_⟩
  obtain ⟨r2, g1, g2, g3⟩ := f6 n ver off len e
  simp at e
  obtain ⟨rfl, rfl, rfl, rfl⟩ := e
  exact ⟨r2, by simpa [Ne.symm hnn] using g1, g2, g3⟩
end Go.Proofs.Ytfgaoojogididaa.AM

/-
  A stepper's next word: the program's, word by word.
-/
set_option linter.unusedVariables false
set_option linter.unusedSimpArgs false
set_option maxRecDepth 4000
namespace Go.Proofs.Ytfgaoojogididaa.AM
open Go.RowKit

private def MW20 : FuncId → Mode := fun f => .tree

theorem IntsAt.tail {h : Hp} {w : AV} {x : Int} {xs : List Int} {ns : List Nm} {n : Nm} {ver off : Nat} {es : List (List AV)} {bs : Bx} {os : Ox} (a : IntsAt h w (x :: xs) ns n ver off es) {h0 : Hp} (c : Cx h0 bs ((w, (fun b => ints b (x :: xs)), ns) :: os)) (hr : h0.rows n = some ⟨ver, 1, es⟩) : Cx h0 bs ((.sl n ver (off + 1) xs.length, (fun b => ints b xs), [n]) :: os) := by
  obtain ⟨pre, sp, rfl, rfl, h1, h2, h3, h4⟩ := a.mid
  refine c.replace (h' := h0) (fun b => .one ?_) (.inl a.nms) (fun _ _ _ => rfl) (Nat.le_refl _)
  have := own_ints_mk (rows := h0.rows) (n := n) (ver := ver) (xs := xs) (pre := pre ++ [[.int .i64 x]]) (sp := sp) (by rw [hr]; simp [cl1]) (fun e he => by simp at he; rcases he with he | rfl; exact h1 e he; rfl) h2 (fun i e j y he hy => by
    simp only at he
    by_cases hi : i < pre.length
    · rw [List.getElem?_append_left hi] at he
      exact h3 i e j y he hy
    · rw [List.getElem?_append_right (by omega)] at he
      have : i - pre.length = 0 := by
        have := lt_get he
        simp at this
        omega
      rw [this] at he
      simp at he
      subst he
      match j, hy with
      | 0, hy => simp at hy; subst hy; exact .int .i64 x) h4 (c := b)
  simpa using this
theorem IntsAt.len {h : Hp} {w : AV} {xs : List Int} {ns : List Nm} {n : Nm} {ver off : Nat} {es : List (List AV)} (a : IntsAt h w xs ns n ver off es) : off + xs.length ≤ es.length := by
  obtain ⟨pre, sp, rfl, rfl, _⟩ := a.mid
  simp [cl1]

set_option maxHeartbeats 1000000 in
theorem step_in0 (m : Image) (c : Cpu) (i : Nat) (w : Word) (hat : c.At = (i : Int)) (hw : m.Code[i]? = some w) (ho : w.Op = 6) {r : Nat} (hr : w.R = (r : Int)) (hrl : r < c.Regs.length) (hi0 : c.Input = []) : StepOkX m c (stepC c w) := by
  obtain ⟨Op, R, A, B, N⟩ := w
  obtain ⟨At, Regs, Slots, Mem, Input, Out, Code, Over, Val⟩ := c
  simp only at hat ho hr hrl hi0
  subst hat ho hr hi0
  have hnil : True := trivial
  intro ext h nb l ns bs os x ok
  obtain ⟨w1, w2, w3, w4, w5, n1, n2, n3, n4, n5, rfl, y⟩ := x.cpu_split
  dsimp only at y
  have q1 := own_one (own_of (y.o0 true) rfl)
  have q2 := own_one (own_of (y.o1 true) rfl)
  have q3 := own_one (own_of (y.o2 true) rfl)
  have q4 := own_one (own_of (y.o3 true) rfl)
  have q5 := own_one (own_of (y.o4 true) rfl)
  refine enter mixed MW20 Try.func72 rfl (by kernel_rfl) rfl ?_
  repeat' (first
   | with_reducible refine stp ?_
   | with_reducible refine k_blk_o rfl ?_
   | ((try (conv => arg 1; simp [Image.cells])); with_reducible refine evp ?_)
   | ((with_reducible refine apn ?na ?_); (case na => simp [appNames, ints, intss] <;> first | kernel_rfl | (refine ⟨?_, ?_⟩ <;> kernel_rfl)))
   | fail)
  refine cx_k (y.next.box_one y.off (by simp)) ?_
  intro h1 y1
  have m1 : nb.1 < h1.tick := y1.lt nb (by simp [nms])
  have e1 : ¬ nb.1 = h1.tick := by omega
  repeat' (first
   | with_reducible refine stp ?_
   | with_reducible refine k_blk_o rfl ?_
   | ((try (conv => arg 1; simp [boxX])); with_reducible refine evp ?_)
   | ((with_reducible refine apn ?na ?_); (case na => simp [appNames, ints, intss] <;> first | kernel_rfl | (refine ⟨?_, ?_⟩ <;> kernel_rfl)))
   | fail)
  repeat (with_reducible first | refine stp ?_ | refine k_seq_n ?_)
  refine st_draw 9 (fun _ => false) (by kernel_rfl) ?_
  simp only [List.take_succ_cons, List.take_zero, List.drop_succ_cons, List.drop_zero, List.take_nil, List.drop_nil]
  repeat' (first
   | with_reducible refine stp ?_
   | with_reducible refine k_blk_o rfl ?_
   | ((try (conv => arg 1; simp [boxX, y1.b0, y1.b1, y1.l0, e1, hw, words, Word.cells])); with_reducible refine evp ?_)
   | ((with_reducible refine apn ?na ?_); (case na => simp [appNames, ints, intss] <;> first | kernel_rfl | (refine ⟨?_, ?_⟩ <;> kernel_rfl)))
   | fail)
  refine cx_k (y1.next.box_new y1.off (by simp)) ?_
  intro h2 y2
  have m2 : nb.1 < h2.tick := y2.lt nb (by simp [nms])
  repeat' (first
   | with_reducible refine stp ?_
   | with_reducible refine k_blk_o rfl ?_
   | ((try (conv => arg 1; simp [boxX, y2.b2])); with_reducible refine evp ?_)
   | ((with_reducible refine apn ?na ?_); (case na => simp [appNames, ints, intss] <;> first | kernel_rfl | (refine ⟨?_, ?_⟩ <;> kernel_rfl)))
   | fail)
  refine cx_k y2.next ?_
  intro h3 y3
  repeat' (first
   | with_reducible refine stp ?_
   | with_reducible refine k_blk_o rfl ?_
   | ((try (conv => arg 1; simp [boxX, y3.b0])); with_reducible refine evp ?_)
   | ((with_reducible refine apn ?na ?_); (case na => simp [appNames, ints, intss] <;> first | kernel_rfl | (refine ⟨?_, ?_⟩ <;> kernel_rfl)))
   | fail)
  refine cx_k y3.next ?_
  intro h4 y4
  repeat' (first
   | with_reducible refine stp ?_
   | with_reducible refine k_blk_o rfl ?_
   | with_reducible refine k_seq_n ?_
   | ((try (conv => arg 1; simp [hnil])); with_reducible refine evp ?_)
   | ((with_reducible refine apn ?na ?_); (case na => simp [appNames, ints, intss] <;> first | kernel_rfl | (refine ⟨?_, ?_⟩ <;> kernel_rfl)))
   | fail)
  refine cx_wp (by first | exact y4 | exact y4.next | exact y4.next.next | exact y4.next.next.next | exact y4.next.next.next.next | exact y4.next.next.next.next.next | exact y4.next.next.next.next.next.next | exact y4.next.next.next.next.next.next.next | exact y4.next.next.next.next.next.next.next.next | exact y4.next.next.next.next.next.next.next.next.next | exact y4.next.next.next.next.next.next.next.next.next.next | exact y4.next.next.next.next.next.next.next.next.next.next.next | exact y4.next.next.next.next.next.next.next.next.next.next.next.next | exact y4.next.next.next.next.next.next.next.next.next.next.next.next.next | exact y4.next.next.next.next.next.next.next.next.next.next.next.next.next.next | exact y4.next.next.next.next.next.next.next.next.next.next.next.next.next.next.next) ?_
  intro h5 y5
  have m5 : nb.1 < h5.tick := y5.lt nb (by simp [nms])
  have e5 : ¬ nb.1 = h5.tick := by omega
  obtain ⟨k1, v1, p1, s1, a1, b1⟩ := y5.ints_at hrl
  have ew := a1.val
  subst ew
  have c1 : ¬ k1.1 = h5.tick := by omega
  have d1 : k1.1 < h5.tick + 1 := by omega
  have g1 := a1.get hrl
  repeat (with_reducible first | refine stp ?_ | refine k_seq_n ?_)
  refine st_draw 7 (fun _ => false) (by kernel_rfl) ?_
  simp only [List.take_succ_cons, List.take_zero, List.drop_succ_cons, List.drop_zero, List.take_nil, List.drop_nil]
  repeat' (first
   | with_reducible refine stp ?_
   | with_reducible refine k_blk_o rfl ?_
   | ((try (conv => arg 1; simp [boxX, y5.b0, y5.l0, y5.b2, e5, a1.row, g1, c1, d1, hrl])); with_reducible refine evp ?_)
   | ((with_reducible refine apn ?na ?_); (case na => simp [appNames, ints, intss] <;> first | kernel_rfl | (refine ⟨?_, ?_⟩ <;> kernel_rfl)))
   | fail)
  refine cx_k (y5.next.ints_put a1 hrl (-1)) ?_
  intro h6 y6
  have m6 : nb.1 < h6.tick := y6.lt nb (by simp [nms])
  have m7 : nb.1 < h6.tick + 1 + 1 := by omega
  have hw4 : w4 = .nilsl ∨ ∃ n ver off, w4 = .sl n ver off 0 := by
    rcases own_ints_inv (own_of (y6.o3 true) rfl) with ⟨_, _, hx⟩ | ⟨n, ver, pre, sp, e, _⟩
    · rcases hx with ⟨rfl, _⟩ | ⟨n, ver, off, rfl, _⟩
      · exact .inl rfl
      · exact .inr ⟨_, _, _, rfl⟩
    · exact .inr ⟨n, ver, pre.length, by simpa using e⟩
  rcases hw4 with rfl | ⟨n, ver, off, rfl⟩
  all_goals
    repeat' (first
     | with_reducible refine stp ?_
     | with_reducible refine k_blk_o rfl ?_
     | with_reducible refine k_seq_n ?_
     | ((try (conv => arg 1; simp [boxX, y6.b0, y6.b2, m6, m7])); with_reducible refine evp ?_)
     | ((with_reducible refine apn ?na ?_); (case na => simp [appNames, ints, intss] <;> first | kernel_rfl | (refine ⟨?_, ?_⟩ <;> kernel_rfl)))
     | fail)
    have es : stepC ⟨i, Regs, Slots, Mem, [], Out, Code, Over, Val⟩ ⟨6, r, A, B, N⟩ = ⟨IntKind.i64.wrap (i + 1), Regs.set r (-1), Slots, Mem, [], Out, Code, Over, Val⟩ := by simp [stepC, rd_at, *]
    rw [es]
    exact ⟨_, _, Cx.cpu_join (c := ⟨IntKind.i64.wrap (i + 1), Regs.set r (-1), Slots, Mem, [], Out, Code, Over, Val⟩) (Cx.box_drop (Cx.box_drop (Cx.box_set2 (by first | exact y6.next | exact y6.next.next | exact y6.next.next.next)))), .inl rfl⟩

set_option maxHeartbeats 1000000 in
theorem step_in1 (m : Image) (c : Cpu) (i : Nat) (w : Word) (hat : c.At = (i : Int)) (hw : m.Code[i]? = some w) (ho : w.Op = 6) {r : Nat} {z : Int} {zs : List Int} (hr : w.R = (r : Int)) (hrl : r < c.Regs.length) (hi0 : c.Input = z :: zs) : StepOkX m c (stepC c w) := by
  obtain ⟨Op, R, A, B, N⟩ := w
  obtain ⟨At, Regs, Slots, Mem, Input, Out, Code, Over, Val⟩ := c
  simp only at hat ho hr hrl hi0
  subst hat ho hr hi0
  have hnil : True := trivial
  intro ext h nb l ns bs os x ok
  obtain ⟨w1, w2, w3, w4, w5, n1, n2, n3, n4, n5, rfl, y⟩ := x.cpu_split
  dsimp only at y
  have q1 := own_one (own_of (y.o0 true) rfl)
  have q2 := own_one (own_of (y.o1 true) rfl)
  have q3 := own_one (own_of (y.o2 true) rfl)
  have q4 := own_one (own_of (y.o3 true) rfl)
  have q5 := own_one (own_of (y.o4 true) rfl)
  refine enter mixed MW20 Try.func72 rfl (by kernel_rfl) rfl ?_
  repeat' (first
   | with_reducible refine stp ?_
   | with_reducible refine k_blk_o rfl ?_
   | ((try (conv => arg 1; simp [Image.cells])); with_reducible refine evp ?_)
   | ((with_reducible refine apn ?na ?_); (case na => simp [appNames, ints, intss] <;> first | kernel_rfl | (refine ⟨?_, ?_⟩ <;> kernel_rfl)))
   | fail)
  refine cx_k (y.next.box_one y.off (by simp)) ?_
  intro h1 y1
  have m1 : nb.1 < h1.tick := y1.lt nb (by simp [nms])
  have e1 : ¬ nb.1 = h1.tick := by omega
  repeat' (first
   | with_reducible refine stp ?_
   | with_reducible refine k_blk_o rfl ?_
   | ((try (conv => arg 1; simp [boxX])); with_reducible refine evp ?_)
   | ((with_reducible refine apn ?na ?_); (case na => simp [appNames, ints, intss] <;> first | kernel_rfl | (refine ⟨?_, ?_⟩ <;> kernel_rfl)))
   | fail)
  repeat (with_reducible first | refine stp ?_ | refine k_seq_n ?_)
  refine st_draw 9 (fun _ => false) (by kernel_rfl) ?_
  simp only [List.take_succ_cons, List.take_zero, List.drop_succ_cons, List.drop_zero, List.take_nil, List.drop_nil]
  repeat' (first
   | with_reducible refine stp ?_
   | with_reducible refine k_blk_o rfl ?_
   | ((try (conv => arg 1; simp [boxX, y1.b0, y1.b1, y1.l0, e1, hw, words, Word.cells])); with_reducible refine evp ?_)
   | ((with_reducible refine apn ?na ?_); (case na => simp [appNames, ints, intss] <;> first | kernel_rfl | (refine ⟨?_, ?_⟩ <;> kernel_rfl)))
   | fail)
  refine cx_k (y1.next.box_new y1.off (by simp)) ?_
  intro h2 y2
  have m2 : nb.1 < h2.tick := y2.lt nb (by simp [nms])
  repeat' (first
   | with_reducible refine stp ?_
   | with_reducible refine k_blk_o rfl ?_
   | ((try (conv => arg 1; simp [boxX, y2.b2])); with_reducible refine evp ?_)
   | ((with_reducible refine apn ?na ?_); (case na => simp [appNames, ints, intss] <;> first | kernel_rfl | (refine ⟨?_, ?_⟩ <;> kernel_rfl)))
   | fail)
  refine cx_k y2.next ?_
  intro h3 y3
  repeat' (first
   | with_reducible refine stp ?_
   | with_reducible refine k_blk_o rfl ?_
   | ((try (conv => arg 1; simp [boxX, y3.b0])); with_reducible refine evp ?_)
   | ((with_reducible refine apn ?na ?_); (case na => simp [appNames, ints, intss] <;> first | kernel_rfl | (refine ⟨?_, ?_⟩ <;> kernel_rfl)))
   | fail)
  refine cx_k y3.next ?_
  intro h4 y4
  repeat' (first
   | with_reducible refine stp ?_
   | with_reducible refine k_blk_o rfl ?_
   | with_reducible refine k_seq_n ?_
   | ((try (conv => arg 1; simp [hnil])); with_reducible refine evp ?_)
   | ((with_reducible refine apn ?na ?_); (case na => simp [appNames, ints, intss] <;> first | kernel_rfl | (refine ⟨?_, ?_⟩ <;> kernel_rfl)))
   | fail)
  refine cx_wp (by first | exact y4 | exact y4.next | exact y4.next.next | exact y4.next.next.next | exact y4.next.next.next.next | exact y4.next.next.next.next.next | exact y4.next.next.next.next.next.next | exact y4.next.next.next.next.next.next.next | exact y4.next.next.next.next.next.next.next.next | exact y4.next.next.next.next.next.next.next.next.next | exact y4.next.next.next.next.next.next.next.next.next.next | exact y4.next.next.next.next.next.next.next.next.next.next.next | exact y4.next.next.next.next.next.next.next.next.next.next.next.next | exact y4.next.next.next.next.next.next.next.next.next.next.next.next.next | exact y4.next.next.next.next.next.next.next.next.next.next.next.next.next.next | exact y4.next.next.next.next.next.next.next.next.next.next.next.next.next.next.next) ?_
  intro h5 y5
  have m5 : nb.1 < h5.tick := y5.lt nb (by simp [nms])
  have e5 : ¬ nb.1 = h5.tick := by omega
  obtain ⟨k1, v1, p1, s1, a1, b1⟩ := y5.ints_at hrl
  have ew := a1.val
  subst ew
  have c1 : ¬ k1.1 = h5.tick := by omega
  have d1 : k1.1 < h5.tick + 1 := by omega
  have g1 := a1.get hrl
  repeat (with_reducible first | refine stp ?_ | refine k_seq_n ?_)
  refine st_draw 7 (fun _ => false) (by kernel_rfl) ?_
  simp only [List.take_succ_cons, List.take_zero, List.drop_succ_cons, List.drop_zero, List.take_nil, List.drop_nil]
  repeat' (first
   | with_reducible refine stp ?_
   | with_reducible refine k_blk_o rfl ?_
   | ((try (conv => arg 1; simp [boxX, y5.b0, y5.l0, y5.b2, e5, a1.row, g1, c1, d1, hrl])); with_reducible refine evp ?_)
   | ((with_reducible refine apn ?na ?_); (case na => simp [appNames, ints, intss] <;> first | kernel_rfl | (refine ⟨?_, ?_⟩ <;> kernel_rfl)))
   | fail)
  refine cx_k (y5.next.ints_put a1 hrl (-1)) ?_
  intro h6 y6
  have hrl6 : r < (Regs.set r (-1)).length := by simpa using hrl
  obtain ⟨k4, v4, p4, s4, a4, b4⟩ := (y6.rot3).ints_at (i := 0) (by simp)
  have ew := a4.val
  subst ew
  repeat' (first
   | with_reducible refine stp ?_
   | with_reducible refine k_blk_o rfl ?_
   | ((try (conv => arg 1; simp [boxX, y6.b2])); with_reducible refine evp ?_)
   | ((with_reducible refine apn ?na ?_); (case na => simp [appNames, ints, intss] <;> first | kernel_rfl | (refine ⟨?_, ?_⟩ <;> kernel_rfl)))
   | fail)
  refine cx_k y6.next ?_
  intro h7 y7
  have m7 : nb.1 < h7.tick := y7.lt nb (by simp [nms])
  have e7 : ¬ nb.1 = h7.tick := by omega
  obtain ⟨k1', v1', p1', s1', a1', b1'⟩ := y7.ints_at hrl6
  have ew := a1'.val
  simp at ew
  obtain ⟨rfl, rfl, rfl⟩ := ew
  obtain ⟨k4', v4', p4', s4', a4', b4'⟩ := (y7.rot3).ints_at (i := 0) (by simp)
  have ew := a4'.val
  simp at ew
  obtain ⟨rfl, rfl, rfl⟩ := ew
  have g1' := a1'.get hrl6
  have g4' := a4'.get (i := 0) (by simp)
  have c7 : ¬ k1.1 = h7.tick := by omega
  have c8 : ¬ k4.1 = h7.tick := by omega
  have d7 : k1.1 < h7.tick + 1 := by omega
  simp at g4'
  repeat' (first
   | with_reducible refine stp ?_
   | with_reducible refine k_blk_o rfl ?_
   | with_reducible refine k_seq_n ?_
   | ((try (conv => arg 1; simp [boxX])); with_reducible refine evp ?_)
   | ((with_reducible refine apn ?na ?_); (case na => simp [appNames, ints, intss] <;> first | kernel_rfl | (refine ⟨?_, ?_⟩ <;> kernel_rfl)))
   | fail)
  repeat (with_reducible first | refine stp ?_ | refine k_seq_n ?_)
  refine st_draw 13 (fun _ => false) (by kernel_rfl) ?_
  simp only [List.take_succ_cons, List.take_zero, List.drop_succ_cons, List.drop_zero, List.take_nil, List.drop_nil]
  repeat' (first
   | with_reducible refine stp ?_
   | with_reducible refine k_blk_o rfl ?_
   | ((try (conv => arg 1; simp [boxX, y7.b0, y7.l0, y7.b2, e7, a1'.row, g1', c7, c8, d7, hrl, a4'.row, g4'])); with_reducible refine evp ?_)
   | ((with_reducible refine apn ?na ?_); (case na => simp [appNames, ints, intss] <;> first | kernel_rfl | (refine ⟨?_, ?_⟩ <;> kernel_rfl)))
   | fail)
  refine cx_k (y7.next.ints_put a1' hrl6 z) ?_
  intro h8 y8
  have m8 : nb.1 < h8.tick := y8.lt nb (by simp [nms])
  obtain ⟨k4'', v4'', p4'', s4'', a4'', b4''⟩ := (y8.rot3).ints_at (i := 0) (by simp)
  have ew := a4''.val
  simp at ew
  obtain ⟨rfl, rfl, rfl⟩ := ew
  have hl8 := a4''.len
  simp at hl8
  repeat' (first
   | with_reducible refine stp ?_
   | with_reducible refine k_blk_o rfl ?_
   | ((try (conv => arg 1; simp [boxX, y8.b2, m8, a4''.row, hl8, sliceA, bnd])); with_reducible refine evp ?_)
   | ((with_reducible refine apn ?na ?_); (case na => simp [appNames, ints, intss] <;> first | kernel_rfl | (refine ⟨?_, ?_⟩ <;> kernel_rfl)))
   | fail)
  refine cx_k ((a4''.tail y8.next.rot3 (by simp [a4''.row])).rot3.rot3.rot3.box_set2) ?_
  intro h9 y9
  simp only [List.set_set] at y9
  have m9 : nb.1 < h9.tick := y9.lt nb (by simp [nms])
  repeat' (first
   | with_reducible refine stp ?_
   | with_reducible refine k_blk_o rfl ?_
   | with_reducible refine k_seq_n ?_
   | ((try (conv => arg 1; simp [boxX, y9.b2, m9])); with_reducible refine evp ?_)
   | ((with_reducible refine apn ?na ?_); (case na => simp [appNames, ints, intss] <;> first | kernel_rfl | (refine ⟨?_, ?_⟩ <;> kernel_rfl)))
   | fail)
  have es : stepC ⟨i, Regs, Slots, Mem, z :: zs, Out, Code, Over, Val⟩ ⟨6, r, A, B, N⟩ = ⟨IntKind.i64.wrap (i + 1), Regs.set r z, Slots, Mem, zs, Out, Code, Over, Val⟩ := by simp [stepC, rd_at, *]
  rw [es]
  exact ⟨_, _, Cx.cpu_join (c := ⟨IntKind.i64.wrap (i + 1), Regs.set r z, Slots, Mem, zs, Out, Code, Over, Val⟩) (Cx.box_drop (Cx.box_drop (Cx.box_set2 y9.next))), .inl rfl⟩
end Go.Proofs.Ytfgaoojogididaa.AM

/-
  Slices of slices of whole numbers that are there.
-/
set_option linter.unusedVariables false
set_option linter.unusedSimpArgs false
set_option maxRecDepth 4000
namespace Go.Proofs.Ytfgaoojogididaa.AM
open Go.RowKit

section
variable {h h' : Hp} {bs : Bx} {os : Ox} {n : Nm} {w : AV} {ns : List Nm}
theorem lenA_own {P : Program} {t : TypeId} {rows : Nm → Option Row} {xs : List Int} (o : Own rows true [w] [ints true xs] ns) (ht : (telem P t).isSome = true) : lenA P t w = some (.int .i64 xs.length) := by
  rcases own_ints_inv o with ⟨rfl, _, hx⟩ | ⟨n, ver, pre, sp, rfl, _⟩
  · rcases hx with ⟨rfl, _⟩ | ⟨n, ver, off, rfl, _⟩
    · exact lenA_nilsl ht
    · exact lenA_sl _ _ _ _ ht
  · exact lenA_sl _ _ _ _ ht
theorem ints_at_own {xs : List Int} (o : Own h.rows true [w] [ints true xs] ns) {i : Nat} (hi : i < xs.length) : ∃ n ver off es, IntsAt h w xs ns n ver off es := by
  rcases own_ints_inv o with ⟨rfl, _, _⟩ | ⟨n, ver, pre, sp, e1, e2, hr, h1, h2, h3, h4⟩
  · simp at hi
  · exact ⟨n, ver, pre.length, _, ⟨e1, e2, hr, pre, sp, rfl, rfl, h1, h2, h3, h4⟩⟩
theorem IntsAt.put_own {xs : List Int} {ver off : Nat} {es : List (List AV)} (a : IntsAt h w xs ns n ver off es) {i : Nat} (hi : i < xs.length) (y : Int) {rows : Nm → Option Row} (hr : rows n = some ⟨ver, 1, es.set (off + i) [.int .i64 y]⟩) (b : Bool) : Own rows b [w] [ints b (xs.set i y)] ns := by
  obtain ⟨pre, sp, rfl, rfl, h1, h2, h3, h4⟩ := a.mid
  have e : (pre ++ (cl1 xs ++ sp)).set (pre.length + i) [.int .i64 y] = pre ++ (cl1 (xs.set i y) ++ sp) := by
    rw [mid_set (by simpa [cl1] using hi)]
    simp [cl1, List.map_set]
  have := own_ints_mk (rows := rows) (n := n) (ver := ver) (xs := xs.set i y) (by rw [hr, e]; rfl) h1 h2 h3 h4 (c := b)
  rw [List.length_set] at this
  rw [a.val, a.nms]
  exact this
theorem Cx.mem_at {xs : List (List Int)} (x : Cx h bs ((w, (fun b => intss b xs), ns) :: os)) {q : Nat} (hq : q < xs.length) :
    ∃ n ver es v nq, w = .sl n ver 0 xs.length ∧ h.rows n = some ⟨ver, 1, es⟩ ∧ es[q]? = some [v] ∧ n.1 < h.tick ∧ Own h.rows true [v] [ints true xs[q]] nq ∧ (∀ m ∈ nq, m.1 < h.tick) ∧ n ∉ nq ∧ (∀ m ∈ nq, m ∈ ns) ∧ n ∈ ns ∧
      ∀ (h' : Hp) (ys : List Int), (∀ m, m ∉ nq → h'.rows m = h.rows m) → h.tick ≤ h'.tick → Own h'.rows true [v] [ints true ys] nq → Cx h' bs ((w, (fun b => intss b (xs.set q ys)), ns) :: os) := by
  rcases own_intss_inv (own_of (x.o0 true) rfl) with ⟨rfl, _, _⟩ | ⟨n, ver, vs, sp, ns1, rfl, rfl, hr, hvl, hsp, hcl, hov⟩
  · simp at hq
  have nd := x.nodup
  have lt := x.lts
  have hvi : vs = vs.take q ++ (vs[q]'(by omega) :: vs.drop (q + 1)) := by
    rw [← List.drop_eq_getElem_cons (by omega), List.take_append_drop]
  have hxi : xs.map (ints true) = (xs.take q).map (ints true) ++ (ints true xs[q] :: (xs.drop (q + 1)).map (ints true)) := by
    conv => lhs; rw [← List.take_append_drop q xs, List.drop_eq_getElem_cons hq]
    simp only [List.map_append, List.map_cons]
  have hov' := hov
  rw [hvi, hxi] at hov'
  obtain ⟨m1, m23, e1, o1, o23⟩ := Own.split hov' (by simp; omega)
  obtain ⟨nq, m2, e2, oq, o2⟩ := Own.split (as1 := [vs[q]'(by omega)]) (ts1 := [ints true xs[q]]) o23 rfl
  subst e1 e2
  have hn := List.nodup_cons.1 nd
  refine ⟨n, ver, vs.map (fun v => [v]) ++ sp, vs[q]'(by omega), nq, rfl, hr, ?_, lt n (by simp), oq, fun m hm => lt m (by simp [hm]), fun e => hn.1 (by simp [e]), fun m hm => by simp [hm], by simp, fun h' ys p t o' => ?_⟩
  · rw [List.getElem?_append_left (by simp; omega)]
    simp
  have nd2 := List.nodup_append.1 hn.2
  have nd3 := List.nodup_append.1 nd2.2.1
  refine x.mark (t' := fun b => intss b (xs.set q ys)) (fun b => .one ?_) (fun m hm _ => p m (fun e => hm (by simp [e]))) t
  have hl : Own h'.rows true vs ((xs.set q ys).map (ints true)) (m1 ++ (nq ++ m2)) := by
    have e3 : (xs.set q ys).map (ints true) = (xs.take q).map (ints true) ++ (ints true ys :: (xs.drop (q + 1)).map (ints true)) := by
      rw [List.set_eq_take_append_cons_drop, if_pos hq]
      simp
    rw [e3, hvi]
    exact Own.append (o1.congr fun m hm => p m (fun e => nd2.2.2 m hm m (by simp [e]) rfl)) (Own.append o' (o2.congr fun m hm => p m (fun e => nd3.2.2 m e m hm rfl)))
  have := own_intss_mk (rows := h'.rows) (n := n) (ver := ver) (xs := xs.set q ys) (vs := vs) (sp := sp) (c := b) (by rw [p n (fun e => hn.1 (by simp [e]))]; exact hr) hsp hcl (own_list_any _ _ _ b hl)
  rw [List.length_set] at this
  exact this
end
end Go.Proofs.Ytfgaoojogididaa.AM

/-
  A stepper's next word: the program's, word by word.
-/
set_option linter.unusedVariables false
set_option linter.unusedSimpArgs false
set_option maxRecDepth 4000
namespace Go.Proofs.Ytfgaoojogididaa.AM
open Go.RowKit

private def MW22 : FuncId → Mode := fun f => .tree

set_option maxHeartbeats 1000000 in
theorem step_trap4 (m : Image) (c : Cpu) (i : Nat) (w : Word) (hat : c.At = (i : Int)) (hw : m.Code[i]? = some w) (ho : w.Op = 4) {r a q : Nat} (hr : w.R = (r : Int)) (ha : w.A = (a : Int)) (hq : w.N = (q : Int)) (hrl : r < c.Regs.length) (hal : a < c.Regs.length) (hql : q < c.Mem.length) (hb : inB (rd c.Regs (a : Int)) 0 (IntKind.i64.wrap ((c.Mem.getD q []).length - 1)) = false) : StepOkX m c (stepC c w) := by
  obtain ⟨Op, R, A, B, N⟩ := w
  obtain ⟨At, Regs, Slots, Mem, Input, Out, Code, Over, Val⟩ := c
  simp only at hat ho hr ha hq hrl hal hql hb
  subst hat ho hr ha hq
  have hnil : True := trivial
  intro ext h nb l ns bs os x ok
  obtain ⟨w1, w2, w3, w4, w5, n1, n2, n3, n4, n5, rfl, y⟩ := x.cpu_split
  dsimp only at y
  have q1 := own_one (own_of (y.o0 true) rfl)
  have q2 := own_one (own_of (y.o1 true) rfl)
  have q3 := own_one (own_of (y.o2 true) rfl)
  have q4 := own_one (own_of (y.o3 true) rfl)
  have q5 := own_one (own_of (y.o4 true) rfl)
  refine enter mixed MW22 Try.func72 rfl (by kernel_rfl) rfl ?_
  repeat' (first
   | with_reducible refine stp ?_
   | with_reducible refine k_blk_o rfl ?_
   | ((try (conv => arg 1; simp [Image.cells])); with_reducible refine evp ?_)
   | ((with_reducible refine apn ?na ?_); (case na => simp [appNames, ints, intss] <;> first | kernel_rfl | (refine ⟨?_, ?_⟩ <;> kernel_rfl)))
   | fail)
  refine cx_k (y.next.box_one y.off (by simp)) ?_
  intro h1 y1
  have m1 : nb.1 < h1.tick := y1.lt nb (by simp [nms])
  have e1 : ¬ nb.1 = h1.tick := by omega
  repeat' (first
   | with_reducible refine stp ?_
   | with_reducible refine k_blk_o rfl ?_
   | ((try (conv => arg 1; simp [boxX])); with_reducible refine evp ?_)
   | ((with_reducible refine apn ?na ?_); (case na => simp [appNames, ints, intss] <;> first | kernel_rfl | (refine ⟨?_, ?_⟩ <;> kernel_rfl)))
   | fail)
  repeat (with_reducible first | refine stp ?_ | refine k_seq_n ?_)
  refine st_draw 9 (fun _ => false) (by kernel_rfl) ?_
  simp only [List.take_succ_cons, List.take_zero, List.drop_succ_cons, List.drop_zero, List.take_nil, List.drop_nil]
  repeat' (first
   | with_reducible refine stp ?_
   | with_reducible refine k_blk_o rfl ?_
   | ((try (conv => arg 1; simp [boxX, y1.b0, y1.b1, y1.l0, e1, hw, words, Word.cells])); with_reducible refine evp ?_)
   | ((with_reducible refine apn ?na ?_); (case na => simp [appNames, ints, intss] <;> first | kernel_rfl | (refine ⟨?_, ?_⟩ <;> kernel_rfl)))
   | fail)
  refine cx_k (y1.next.box_new y1.off (by simp)) ?_
  intro h2 y2
  have m2 : nb.1 < h2.tick := y2.lt nb (by simp [nms])
  repeat' (first
   | with_reducible refine stp ?_
   | with_reducible refine k_blk_o rfl ?_
   | ((try (conv => arg 1; simp [boxX, y2.b2])); with_reducible refine evp ?_)
   | ((with_reducible refine apn ?na ?_); (case na => simp [appNames, ints, intss] <;> first | kernel_rfl | (refine ⟨?_, ?_⟩ <;> kernel_rfl)))
   | fail)
  refine cx_k y2.next ?_
  intro h3 y3
  repeat' (first
   | with_reducible refine stp ?_
   | with_reducible refine k_blk_o rfl ?_
   | ((try (conv => arg 1; simp [boxX, y3.b0])); with_reducible refine evp ?_)
   | ((with_reducible refine apn ?na ?_); (case na => simp [appNames, ints, intss] <;> first | kernel_rfl | (refine ⟨?_, ?_⟩ <;> kernel_rfl)))
   | fail)
  refine cx_k y3.next ?_
  intro h4 y4
  repeat' (first
   | with_reducible refine stp ?_
   | with_reducible refine k_blk_o rfl ?_
   | with_reducible refine k_seq_n ?_
   | ((try (conv => arg 1; simp [hnil])); with_reducible refine evp ?_)
   | ((with_reducible refine apn ?na ?_); (case na => simp [appNames, ints, intss] <;> first | kernel_rfl | (refine ⟨?_, ?_⟩ <;> kernel_rfl)))
   | fail)
  refine cx_wp (by first | exact y4 | exact y4.next | exact y4.next.next | exact y4.next.next.next | exact y4.next.next.next.next | exact y4.next.next.next.next.next | exact y4.next.next.next.next.next.next | exact y4.next.next.next.next.next.next.next | exact y4.next.next.next.next.next.next.next.next | exact y4.next.next.next.next.next.next.next.next.next | exact y4.next.next.next.next.next.next.next.next.next.next | exact y4.next.next.next.next.next.next.next.next.next.next.next | exact y4.next.next.next.next.next.next.next.next.next.next.next.next | exact y4.next.next.next.next.next.next.next.next.next.next.next.next.next | exact y4.next.next.next.next.next.next.next.next.next.next.next.next.next.next | exact y4.next.next.next.next.next.next.next.next.next.next.next.next.next.next.next) ?_
  intro h5 y5
  have m5 : nb.1 < h5.tick := y5.lt nb (by simp [nms])
  have e5 : ¬ nb.1 = h5.tick := by omega
  obtain ⟨k1, v1, p1, s1, a1, b1⟩ := y5.ints_at hrl
  have ew := a1.val
  subst ew
  have c1 : ¬ k1.1 = h5.tick := by omega
  have d1 : k1.1 < h5.tick + 1 := by omega
  have g2 := a1.get hal
  repeat (with_reducible first | refine stp ?_ | refine k_seq_n ?_)
  refine st_draw 9 (fun _ => false) (by kernel_rfl) ?_
  simp only [List.take_succ_cons, List.take_zero, List.drop_succ_cons, List.drop_zero, List.take_nil, List.drop_nil]
  repeat' (first
   | with_reducible refine stp ?_
   | with_reducible refine k_blk_o rfl ?_
   | ((try (conv => arg 1; simp [boxX, y5.b0, y5.l0, y5.b2, e5, a1.row, g2, c1, d1, hal])); with_reducible refine evp ?_)
   | ((with_reducible refine apn ?na ?_); (case na => simp [appNames, ints, intss] <;> first | kernel_rfl | (refine ⟨?_, ?_⟩ <;> kernel_rfl)))
   | fail)
  refine cx_k y5.next ?_
  intro h6 y6
  have m6 : nb.1 < h6.tick := y6.lt nb (by simp [nms])
  have e6 : ¬ nb.1 = h6.tick := by omega
  obtain ⟨k3, v3, s3, u, nq, rfl, r3, g3, l3, ou, lu, _, _, _, _⟩ := (y6.rot2).mem_at hql
  have qu := own_one ou
  have c3 : ¬ k3.1 = h6.tick := by omega
  have lenu := lenA_own (P := Try.prog) (t := 22) ou (by kernel_rfl)
  repeat' (first
   | with_reducible refine stp ?_
   | with_reducible refine k_blk_o rfl ?_
   | with_reducible refine k_seq_n ?_
   | ((try (conv => arg 1; simp [boxX])); with_reducible refine evp ?_)
   | ((with_reducible refine apn ?na ?_); (case na => simp [appNames, ints, intss] <;> first | kernel_rfl | (refine ⟨?_, ?_⟩ <;> kernel_rfl)))
   | fail)
  repeat (with_reducible first | refine stp ?_ | refine k_seq_n ?_)
  refine st_draw 13 (fun _ => false) (by kernel_rfl) ?_
  simp only [List.take_succ_cons, List.take_zero, List.drop_succ_cons, List.drop_zero, List.take_nil, List.drop_nil]
  repeat' (first
   | with_reducible refine stp ?_
   | with_reducible refine k_blk_o rfl ?_
   | ((try (conv => arg 1; simp [boxX, y6.b0, y6.l0, y6.b2, e6, r3, g3, c3, hql, qu.1, lenu])); with_reducible refine evp ?_)
   | ((with_reducible refine apn ?na ?_); (case na => simp [appNames, ints, intss] <;> first | kernel_rfl | (refine ⟨?_, ?_⟩ <;> kernel_rfl)))
   | fail)
  refine treeW_pure (in_ _ _ _) (.cons (.int _ _) (.cons (.int _ _) (.cons (.int _ _) .nil))) ?_
  repeat' (first
   | with_reducible refine stp ?_
   | with_reducible refine k_blk_o rfl ?_
   | ((try (conv => arg 1; simp [hnil])); with_reducible refine evp ?_)
   | ((with_reducible refine apn ?na ?_); (case na => simp [appNames, ints, intss] <;> first | kernel_rfl | (refine ⟨?_, ?_⟩ <;> kernel_rfl)))
   | fail)
  refine cx_k y6.next ?_
  intro h7 y7
  have m7 : nb.1 < h7.tick := y7.lt nb (by simp [nms])
  have ha2 : rd Regs (a : Int) = Regs[a] := rd_at hal
  have hq2 : Mem.getD q [] = Mem[q] := by simp [hql]
  have hq3 : Mem[q]?.getD [] = Mem[q] := by simp [hql]
  rw [ha2, hq2] at hb
  have tk1 : nb.1 < h7.tick + 1 := by omega
  have tk2 : nb.1 < h7.tick + 1 + 1 := by omega
  repeat' (first
   | with_reducible refine stp ?_
   | with_reducible refine k_blk_o rfl ?_
   | with_reducible refine k_seq_n ?_
   | ((try (conv => arg 1; simp [boxX, hb, y7.b2, tk1, tk2])); with_reducible refine evp ?_)
   | ((with_reducible refine apn ?na ?_); (case na => simp [appNames, ints, intss] <;> first | kernel_rfl | (refine ⟨?_, ?_⟩ <;> kernel_rfl)))
   | fail)
  have es : stepC ⟨i, Regs, Slots, Mem, Input, Out, Code, Over, Val⟩ ⟨4, r, a, B, q⟩ = ⟨i, Regs, Slots, Mem, Input, Out, 1, Over, Val⟩ := by simp [stepC, ha2, hq3, hb]
  rw [es]
  exact ⟨[.int .i64 i, .sl k1 v1 p1 Regs.length, w2, .sl k3 v3 0 Mem.length, w4, w5, .int .i64 1, .bool Over, .int .i64 Val], _, Cx.cpu_join (c := ⟨i, Regs, Slots, Mem, Input, Out, 1, Over, Val⟩) (Cx.box_drop (Cx.box_drop (Cx.box_set2 (by first | exact y7 | exact y7.next | exact y7.next.next)))), .inl rfl⟩

set_option maxHeartbeats 1000000 in
theorem step_trap5 (m : Image) (c : Cpu) (i : Nat) (w : Word) (hat : c.At = (i : Int)) (hw : m.Code[i]? = some w) (ho : w.Op = 5) {r a q : Nat} (hr : w.R = (r : Int)) (ha : w.A = (a : Int)) (hq : w.N = (q : Int)) (hrl : r < c.Regs.length) (hal : a < c.Regs.length) (hql : q < c.Mem.length) (hb : inB (rd c.Regs (a : Int)) 0 (IntKind.i64.wrap ((c.Mem.getD q []).length - 1)) = false) : StepOkX m c (stepC c w) := by
  obtain ⟨Op, R, A, B, N⟩ := w
  obtain ⟨At, Regs, Slots, Mem, Input, Out, Code, Over, Val⟩ := c
  simp only at hat ho hr ha hq hrl hal hql hb
  subst hat ho hr ha hq
  have hnil : True := trivial
  intro ext h nb l ns bs os x ok
  obtain ⟨w1, w2, w3, w4, w5, n1, n2, n3, n4, n5, rfl, y⟩ := x.cpu_split
  dsimp only at y
  have q1 := own_one (own_of (y.o0 true) rfl)
  have q2 := own_one (own_of (y.o1 true) rfl)
  have q3 := own_one (own_of (y.o2 true) rfl)
  have q4 := own_one (own_of (y.o3 true) rfl)
  have q5 := own_one (own_of (y.o4 true) rfl)
  refine enter mixed MW22 Try.func72 rfl (by kernel_rfl) rfl ?_
  repeat' (first
   | with_reducible refine stp ?_
   | with_reducible refine k_blk_o rfl ?_
   | ((try (conv => arg 1; simp [Image.cells])); with_reducible refine evp ?_)
   | ((with_reducible refine apn ?na ?_); (case na => simp [appNames, ints, intss] <;> first | kernel_rfl | (refine ⟨?_, ?_⟩ <;> kernel_rfl)))
   | fail)
  refine cx_k (y.next.box_one y.off (by simp)) ?_
  intro h1 y1
  have m1 : nb.1 < h1.tick := y1.lt nb (by simp [nms])
  have e1 : ¬ nb.1 = h1.tick := by omega
  repeat' (first
   | with_reducible refine stp ?_
   | with_reducible refine k_blk_o rfl ?_
   | ((try (conv => arg 1; simp [boxX])); with_reducible refine evp ?_)
   | ((with_reducible refine apn ?na ?_); (case na => simp [appNames, ints, intss] <;> first | kernel_rfl | (refine ⟨?_, ?_⟩ <;> kernel_rfl)))
   | fail)
  repeat (with_reducible first | refine stp ?_ | refine k_seq_n ?_)
  refine st_draw 9 (fun _ => false) (by kernel_rfl) ?_
  simp only [List.take_succ_cons, List.take_zero, List.drop_succ_cons, List.drop_zero, List.take_nil, List.drop_nil]
  repeat' (first
   | with_reducible refine stp ?_
   | with_reducible refine k_blk_o rfl ?_
   | ((try (conv => arg 1; simp [boxX, y1.b0, y1.b1, y1.l0, e1, hw, words, Word.cells])); with_reducible refine evp ?_)
   | ((with_reducible refine apn ?na ?_); (case na => simp [appNames, ints, intss] <;> first | kernel_rfl | (refine ⟨?_, ?_⟩ <;> kernel_rfl)))
   | fail)
  refine cx_k (y1.next.box_new y1.off (by simp)) ?_
  intro h2 y2
  have m2 : nb.1 < h2.tick := y2.lt nb (by simp [nms])
  repeat' (first
   | with_reducible refine stp ?_
   | with_reducible refine k_blk_o rfl ?_
   | ((try (conv => arg 1; simp [boxX, y2.b2])); with_reducible refine evp ?_)
   | ((with_reducible refine apn ?na ?_); (case na => simp [appNames, ints, intss] <;> first | kernel_rfl | (refine ⟨?_, ?_⟩ <;> kernel_rfl)))
   | fail)
  refine cx_k y2.next ?_
  intro h3 y3
  repeat' (first
   | with_reducible refine stp ?_
   | with_reducible refine k_blk_o rfl ?_
   | ((try (conv => arg 1; simp [boxX, y3.b0])); with_reducible refine evp ?_)
   | ((with_reducible refine apn ?na ?_); (case na => simp [appNames, ints, intss] <;> first | kernel_rfl | (refine ⟨?_, ?_⟩ <;> kernel_rfl)))
   | fail)
  refine cx_k y3.next ?_
  intro h4 y4
  repeat' (first
   | with_reducible refine stp ?_
   | with_reducible refine k_blk_o rfl ?_
   | with_reducible refine k_seq_n ?_
   | ((try (conv => arg 1; simp [hnil])); with_reducible refine evp ?_)
   | ((with_reducible refine apn ?na ?_); (case na => simp [appNames, ints, intss] <;> first | kernel_rfl | (refine ⟨?_, ?_⟩ <;> kernel_rfl)))
   | fail)
  refine cx_wp (by first | exact y4 | exact y4.next | exact y4.next.next | exact y4.next.next.next | exact y4.next.next.next.next | exact y4.next.next.next.next.next | exact y4.next.next.next.next.next.next | exact y4.next.next.next.next.next.next.next | exact y4.next.next.next.next.next.next.next.next | exact y4.next.next.next.next.next.next.next.next.next | exact y4.next.next.next.next.next.next.next.next.next.next | exact y4.next.next.next.next.next.next.next.next.next.next.next | exact y4.next.next.next.next.next.next.next.next.next.next.next.next | exact y4.next.next.next.next.next.next.next.next.next.next.next.next.next | exact y4.next.next.next.next.next.next.next.next.next.next.next.next.next.next | exact y4.next.next.next.next.next.next.next.next.next.next.next.next.next.next.next) ?_
  intro h5 y5
  have m5 : nb.1 < h5.tick := y5.lt nb (by simp [nms])
  have e5 : ¬ nb.1 = h5.tick := by omega
  obtain ⟨k1, v1, p1, s1, a1, b1⟩ := y5.ints_at hrl
  have ew := a1.val
  subst ew
  have c1 : ¬ k1.1 = h5.tick := by omega
  have d1 : k1.1 < h5.tick + 1 := by omega
  have g2 := a1.get hal
  repeat (with_reducible first | refine stp ?_ | refine k_seq_n ?_)
  refine st_draw 9 (fun _ => false) (by kernel_rfl) ?_
  simp only [List.take_succ_cons, List.take_zero, List.drop_succ_cons, List.drop_zero, List.take_nil, List.drop_nil]
  repeat' (first
   | with_reducible refine stp ?_
   | with_reducible refine k_blk_o rfl ?_
   | ((try (conv => arg 1; simp [boxX, y5.b0, y5.l0, y5.b2, e5, a1.row, g2, c1, d1, hal])); with_reducible refine evp ?_)
   | ((with_reducible refine apn ?na ?_); (case na => simp [appNames, ints, intss] <;> first | kernel_rfl | (refine ⟨?_, ?_⟩ <;> kernel_rfl)))
   | fail)
  refine cx_k y5.next ?_
  intro h6 y6
  have m6 : nb.1 < h6.tick := y6.lt nb (by simp [nms])
  have e6 : ¬ nb.1 = h6.tick := by omega
  obtain ⟨k3, v3, s3, u, nq, rfl, r3, g3, l3, ou, lu, _, _, _, _⟩ := (y6.rot2).mem_at hql
  have qu := own_one ou
  have c3 : ¬ k3.1 = h6.tick := by omega
  have lenu := lenA_own (P := Try.prog) (t := 22) ou (by kernel_rfl)
  repeat' (first
   | with_reducible refine stp ?_
   | with_reducible refine k_blk_o rfl ?_
   | with_reducible refine k_seq_n ?_
   | ((try (conv => arg 1; simp [boxX])); with_reducible refine evp ?_)
   | ((with_reducible refine apn ?na ?_); (case na => simp [appNames, ints, intss] <;> first | kernel_rfl | (refine ⟨?_, ?_⟩ <;> kernel_rfl)))
   | fail)
  repeat (with_reducible first | refine stp ?_ | refine k_seq_n ?_)
  refine st_draw 13 (fun _ => false) (by kernel_rfl) ?_
  simp only [List.take_succ_cons, List.take_zero, List.drop_succ_cons, List.drop_zero, List.take_nil, List.drop_nil]
  repeat' (first
   | with_reducible refine stp ?_
   | with_reducible refine k_blk_o rfl ?_
   | ((try (conv => arg 1; simp [boxX, y6.b0, y6.l0, y6.b2, e6, r3, g3, c3, hql, qu.1, lenu])); with_reducible refine evp ?_)
   | ((with_reducible refine apn ?na ?_); (case na => simp [appNames, ints, intss] <;> first | kernel_rfl | (refine ⟨?_, ?_⟩ <;> kernel_rfl)))
   | fail)
  refine treeW_pure (in_ _ _ _) (.cons (.int _ _) (.cons (.int _ _) (.cons (.int _ _) .nil))) ?_
  repeat' (first
   | with_reducible refine stp ?_
   | with_reducible refine k_blk_o rfl ?_
   | ((try (conv => arg 1; simp [hnil])); with_reducible refine evp ?_)
   | ((with_reducible refine apn ?na ?_); (case na => simp [appNames, ints, intss] <;> first | kernel_rfl | (refine ⟨?_, ?_⟩ <;> kernel_rfl)))
   | fail)
  refine cx_k y6.next ?_
  intro h7 y7
  have m7 : nb.1 < h7.tick := y7.lt nb (by simp [nms])
  have ha2 : rd Regs (a : Int) = Regs[a] := rd_at hal
  have hq2 : Mem.getD q [] = Mem[q] := by simp [hql]
  have hq3 : Mem[q]?.getD [] = Mem[q] := by simp [hql]
  rw [ha2, hq2] at hb
  have tk1 : nb.1 < h7.tick + 1 := by omega
  have tk2 : nb.1 < h7.tick + 1 + 1 := by omega
  repeat' (first
   | with_reducible refine stp ?_
   | with_reducible refine k_blk_o rfl ?_
   | with_reducible refine k_seq_n ?_
   | ((try (conv => arg 1; simp [boxX, hb, y7.b2, tk1, tk2])); with_reducible refine evp ?_)
   | ((with_reducible refine apn ?na ?_); (case na => simp [appNames, ints, intss] <;> first | kernel_rfl | (refine ⟨?_, ?_⟩ <;> kernel_rfl)))
   | fail)
  have es : stepC ⟨i, Regs, Slots, Mem, Input, Out, Code, Over, Val⟩ ⟨5, r, a, B, q⟩ = ⟨i, Regs, Slots, Mem, Input, Out, 1, Over, Val⟩ := by simp [stepC, ha2, hq3, hb]
  rw [es]
  exact ⟨[.int .i64 i, .sl k1 v1 p1 Regs.length, w2, .sl k3 v3 0 Mem.length, w4, w5, .int .i64 1, .bool Over, .int .i64 Val], _, Cx.cpu_join (c := ⟨i, Regs, Slots, Mem, Input, Out, 1, Over, Val⟩) (Cx.box_drop (Cx.box_drop (Cx.box_set2 (by first | exact y7 | exact y7.next | exact y7.next.next)))), .inl rfl⟩

set_option maxHeartbeats 1000000 in
theorem step_lx (m : Image) (c : Cpu) (i : Nat) (w : Word) (hat : c.At = (i : Int)) (hw : m.Code[i]? = some w) (ho : w.Op = 4) {r a q : Nat} (hr : w.R = (r : Int)) (ha : w.A = (a : Int)) (hq : w.N = (q : Int)) (hrl : r < c.Regs.length) (hal : a < c.Regs.length) (hql : q < c.Mem.length) {j : Nat} (hj : rd c.Regs (a : Int) = (j : Int)) (hjl : j < (c.Mem.getD q []).length) (hm : (c.Mem.getD q []).length ≤ 2 ^ 62) : StepOkX m c (stepC c w) := by
  obtain ⟨Op, R, A, B, N⟩ := w
  obtain ⟨At, Regs, Slots, Mem, Input, Out, Code, Over, Val⟩ := c
  simp only at hat ho hr ha hq hrl hal hql hj hjl hm
  subst hat ho hr ha hq
  have hnil : True := trivial
  intro ext h nb l ns bs os x ok
  obtain ⟨w1, w2, w3, w4, w5, n1, n2, n3, n4, n5, rfl, y⟩ := x.cpu_split
  dsimp only at y
  have q1 := own_one (own_of (y.o0 true) rfl)
  have q2 := own_one (own_of (y.o1 true) rfl)
  have q3 := own_one (own_of (y.o2 true) rfl)
  have q4 := own_one (own_of (y.o3 true) rfl)
  have q5 := own_one (own_of (y.o4 true) rfl)
  refine enter mixed MW22 Try.func72 rfl (by kernel_rfl) rfl ?_
  repeat' (first
   | with_reducible refine stp ?_
   | with_reducible refine k_blk_o rfl ?_
   | ((try (conv => arg 1; simp [Image.cells])); with_reducible refine evp ?_)
   | ((with_reducible refine apn ?na ?_); (case na => simp [appNames, ints, intss] <;> first | kernel_rfl | (refine ⟨?_, ?_⟩ <;> kernel_rfl)))
   | fail)
  refine cx_k (y.next.box_one y.off (by simp)) ?_
  intro h1 y1
  have m1 : nb.1 < h1.tick := y1.lt nb (by simp [nms])
  have e1 : ¬ nb.1 = h1.tick := by omega
  repeat' (first
   | with_reducible refine stp ?_
   | with_reducible refine k_blk_o rfl ?_
   | ((try (conv => arg 1; simp [boxX])); with_reducible refine evp ?_)
   | ((with_reducible refine apn ?na ?_); (case na => simp [appNames, ints, intss] <;> first | kernel_rfl | (refine ⟨?_, ?_⟩ <;> kernel_rfl)))
   | fail)
  repeat (with_reducible first | refine stp ?_ | refine k_seq_n ?_)
  refine st_draw 9 (fun _ => false) (by kernel_rfl) ?_
  simp only [List.take_succ_cons, List.take_zero, List.drop_succ_cons, List.drop_zero, List.take_nil, List.drop_nil]
  repeat' (first
   | with_reducible refine stp ?_
   | with_reducible refine k_blk_o rfl ?_
   | ((try (conv => arg 1; simp [boxX, y1.b0, y1.b1, y1.l0, e1, hw, words, Word.cells])); with_reducible refine evp ?_)
   | ((with_reducible refine apn ?na ?_); (case na => simp [appNames, ints, intss] <;> first | kernel_rfl | (refine ⟨?_, ?_⟩ <;> kernel_rfl)))
   | fail)
  refine cx_k (y1.next.box_new y1.off (by simp)) ?_
  intro h2 y2
  have m2 : nb.1 < h2.tick := y2.lt nb (by simp [nms])
  repeat' (first
   | with_reducible refine stp ?_
   | with_reducible refine k_blk_o rfl ?_
   | ((try (conv => arg 1; simp [boxX, y2.b2])); with_reducible refine evp ?_)
   | ((with_reducible refine apn ?na ?_); (case na => simp [appNames, ints, intss] <;> first | kernel_rfl | (refine ⟨?_, ?_⟩ <;> kernel_rfl)))
   | fail)
  refine cx_k y2.next ?_
  intro h3 y3
  repeat' (first
   | with_reducible refine stp ?_
   | with_reducible refine k_blk_o rfl ?_
   | ((try (conv => arg 1; simp [boxX, y3.b0])); with_reducible refine evp ?_)
   | ((with_reducible refine apn ?na ?_); (case na => simp [appNames, ints, intss] <;> first | kernel_rfl | (refine ⟨?_, ?_⟩ <;> kernel_rfl)))
   | fail)
  refine cx_k y3.next ?_
  intro h4 y4
  repeat' (first
   | with_reducible refine stp ?_
   | with_reducible refine k_blk_o rfl ?_
   | with_reducible refine k_seq_n ?_
   | ((try (conv => arg 1; simp [hnil])); with_reducible refine evp ?_)
   | ((with_reducible refine apn ?na ?_); (case na => simp [appNames, ints, intss] <;> first | kernel_rfl | (refine ⟨?_, ?_⟩ <;> kernel_rfl)))
   | fail)
  refine cx_wp (by first | exact y4 | exact y4.next | exact y4.next.next | exact y4.next.next.next | exact y4.next.next.next.next | exact y4.next.next.next.next.next | exact y4.next.next.next.next.next.next | exact y4.next.next.next.next.next.next.next | exact y4.next.next.next.next.next.next.next.next | exact y4.next.next.next.next.next.next.next.next.next | exact y4.next.next.next.next.next.next.next.next.next.next | exact y4.next.next.next.next.next.next.next.next.next.next.next | exact y4.next.next.next.next.next.next.next.next.next.next.next.next | exact y4.next.next.next.next.next.next.next.next.next.next.next.next.next | exact y4.next.next.next.next.next.next.next.next.next.next.next.next.next.next | exact y4.next.next.next.next.next.next.next.next.next.next.next.next.next.next.next) ?_
  intro h5 y5
  have m5 : nb.1 < h5.tick := y5.lt nb (by simp [nms])
  have e5 : ¬ nb.1 = h5.tick := by omega
  obtain ⟨k1, v1, p1, s1, a1, b1⟩ := y5.ints_at hrl
  have ew := a1.val
  subst ew
  have c1 : ¬ k1.1 = h5.tick := by omega
  have d1 : k1.1 < h5.tick + 1 := by omega
  have g2 := a1.get hal
  repeat (with_reducible first | refine stp ?_ | refine k_seq_n ?_)
  refine st_draw 9 (fun _ => false) (by kernel_rfl) ?_
  simp only [List.take_succ_cons, List.take_zero, List.drop_succ_cons, List.drop_zero, List.take_nil, List.drop_nil]
  repeat' (first
   | with_reducible refine stp ?_
   | with_reducible refine k_blk_o rfl ?_
   | ((try (conv => arg 1; simp [boxX, y5.b0, y5.l0, y5.b2, e5, a1.row, g2, c1, d1, hal])); with_reducible refine evp ?_)
   | ((with_reducible refine apn ?na ?_); (case na => simp [appNames, ints, intss] <;> first | kernel_rfl | (refine ⟨?_, ?_⟩ <;> kernel_rfl)))
   | fail)
  refine cx_k y5.next ?_
  intro h6 y6
  have m6 : nb.1 < h6.tick := y6.lt nb (by simp [nms])
  have e6 : ¬ nb.1 = h6.tick := by omega
  obtain ⟨k3, v3, s3, u, nq, rfl, r3, g3, l3, ou, lu, _, _, _, _⟩ := (y6.rot2).mem_at hql
  have qu := own_one ou
  have c3 : ¬ k3.1 = h6.tick := by omega
  have lenu := lenA_own (P := Try.prog) (t := 22) ou (by kernel_rfl)
  repeat' (first
   | with_reducible refine stp ?_
   | with_reducible refine k_blk_o rfl ?_
   | with_reducible refine k_seq_n ?_
   | ((try (conv => arg 1; simp [boxX])); with_reducible refine evp ?_)
   | ((with_reducible refine apn ?na ?_); (case na => simp [appNames, ints, intss] <;> first | kernel_rfl | (refine ⟨?_, ?_⟩ <;> kernel_rfl)))
   | fail)
  repeat (with_reducible first | refine stp ?_ | refine k_seq_n ?_)
  refine st_draw 13 (fun _ => false) (by kernel_rfl) ?_
  simp only [List.take_succ_cons, List.take_zero, List.drop_succ_cons, List.drop_zero, List.take_nil, List.drop_nil]
  repeat' (first
   | with_reducible refine stp ?_
   | with_reducible refine k_blk_o rfl ?_
   | ((try (conv => arg 1; simp [boxX, y6.b0, y6.l0, y6.b2, e6, r3, g3, c3, hql, qu.1, lenu])); with_reducible refine evp ?_)
   | ((with_reducible refine apn ?na ?_); (case na => simp [appNames, ints, intss] <;> first | kernel_rfl | (refine ⟨?_, ?_⟩ <;> kernel_rfl)))
   | fail)
  refine treeW_pure (in_ _ _ _) (.cons (.int _ _) (.cons (.int _ _) (.cons (.int _ _) .nil))) ?_
  repeat' (first
   | with_reducible refine stp ?_
   | with_reducible refine k_blk_o rfl ?_
   | ((try (conv => arg 1; simp [hnil])); with_reducible refine evp ?_)
   | ((with_reducible refine apn ?na ?_); (case na => simp [appNames, ints, intss] <;> first | kernel_rfl | (refine ⟨?_, ?_⟩ <;> kernel_rfl)))
   | fail)
  refine cx_k y6.next ?_
  intro h7 y7
  have m7 : nb.1 < h7.tick := y7.lt nb (by simp [nms])
  have ha2 : rd Regs (a : Int) = Regs[a] := rd_at hal
  have hq2 : Mem.getD q [] = Mem[q] := by simp [hql]
  have hq3 : Mem[q]?.getD [] = Mem[q] := by simp [hql]
  rw [ha2] at hj
  rw [hq2] at hjl hm
  have hw62 : IntKind.i64.wrap ((Mem[q].length : Int) - 1) = (Mem[q].length : Int) - 1 := wrap_id (by omega) (by omega)
  have hin : inB (Regs[a]) 0 (IntKind.i64.wrap ((Mem[q].length : Int) - 1)) = true := by rw [hj, hw62]; simp [inB]; omega
  repeat' (first
   | with_reducible refine stp ?_
   | with_reducible refine k_blk_o rfl ?_
   | ((try (conv => arg 1; simp [hin])); with_reducible refine evp ?_)
   | ((with_reducible refine apn ?na ?_); (case na => simp [appNames, ints, intss] <;> first | kernel_rfl | (refine ⟨?_, ?_⟩ <;> kernel_rfl)))
   | fail)
  refine k_seq_n ?_
  repeat' (first
   | with_reducible refine stp ?_
   | with_reducible refine k_blk_o rfl ?_
   | ((try (conv => arg 1; simp [y7.b0])); with_reducible refine evp ?_)
   | ((with_reducible refine apn ?na ?_); (case na => simp [appNames, ints, intss] <;> first | kernel_rfl | (refine ⟨?_, ?_⟩ <;> kernel_rfl)))
   | fail)
  refine cx_k y7.next ?_
  intro h8 y8
  have m8 : nb.1 < h8.tick := y8.lt nb (by simp [nms])
  have e8 : ¬ nb.1 = h8.tick := by omega
  obtain ⟨k1', v1', p1', s1', a1', b1'⟩ := y8.ints_at hrl
  have ew := a1'.val
  simp at ew
  obtain ⟨rfl, rfl, rfl⟩ := ew
  obtain ⟨k3', v3', s3', u', nq', e3', r3', g3', l3', ou', lu', nu', su', sk', put'⟩ := (y8.rot2).mem_at hql
  simp at e3'
  obtain ⟨rfl, rfl⟩ := e3'
  obtain ⟨k4, v4, p4, s4, a4⟩ := ints_at_own ou' hjl
  have ew := a4.val
  subst ew
  have g1' := a1'.get hrl
  have g4 := a4.get hjl
  have hk4 : k4 ∈ nq' := by rw [a4.nms]; simp
  have c1' : ¬ k1.1 = h8.tick := by omega
  have d1' : k1.1 < h8.tick + 1 := by omega
  have c3' : ¬ k3.1 = h8.tick := by omega
  have l4 := lu' k4 hk4
  have c4 : ¬ k4.1 = h8.tick := by omega
  have d4 : k4.1 < h8.tick + 1 := by omega
  repeat' (first
   | with_reducible refine stp ?_
   | with_reducible refine k_blk_o rfl ?_
   | with_reducible refine k_seq_n ?_
   | ((try (conv => arg 1; simp [boxX])); with_reducible refine evp ?_)
   | ((with_reducible refine apn ?na ?_); (case na => simp [appNames, ints, intss] <;> first | kernel_rfl | (refine ⟨?_, ?_⟩ <;> kernel_rfl)))
   | fail)
  repeat (with_reducible first | refine stp ?_ | refine k_seq_n ?_)
  refine st_draw 18 (fun _ => false) (by kernel_rfl) ?_
  simp only [List.take_succ_cons, List.take_zero, List.drop_succ_cons, List.drop_zero, List.take_nil, List.drop_nil]
  repeat' (first
   | with_reducible refine stp ?_
   | with_reducible refine k_blk_o rfl ?_
   | ((try (conv => arg 1; simp [boxX, y8.b0, y8.l0, y8.b2, e8, a1'.row, g1', c1', d1', hrl, r3', g3', c3', hql, a4.row, g4, c4, hjl, hj])); with_reducible refine evp ?_)
   | ((with_reducible refine apn ?na ?_); (case na => simp [appNames, ints, intss] <;> first | kernel_rfl | (refine ⟨?_, ?_⟩ <;> kernel_rfl)))
   | fail)
  refine cx_k (y8.next.ints_put a1' hrl (Mem[q][j])) ?_
  intro h9 y9
  have m9 : nb.1 < h9.tick := y9.lt nb (by simp [nms])
  repeat' (first
   | with_reducible refine stp ?_
   | with_reducible refine k_blk_o rfl ?_
   | with_reducible refine k_seq_n ?_
   | ((try (conv => arg 1; simp [boxX, y9.b2, m9])); with_reducible refine evp ?_)
   | ((with_reducible refine apn ?na ?_); (case na => simp [appNames, ints, intss] <;> first | kernel_rfl | (refine ⟨?_, ?_⟩ <;> kernel_rfl)))
   | fail)
  have es : stepC ⟨i, Regs, Slots, Mem, Input, Out, Code, Over, Val⟩ ⟨4, r, a, B, q⟩ = ⟨IntKind.i64.wrap (i + 1), Regs.set r (Mem[q][j]), Slots, Mem, Input, Out, Code, Over, Val⟩ := by
    have hin' := hin
    rw [hj] at hin'
    simp [stepC, ha2, hq3, hj, hin', rd_at hjl]
  rw [es]
  exact ⟨_, _, Cx.cpu_join (c := ⟨IntKind.i64.wrap (i + 1), Regs.set r (Mem[q][j]), Slots, Mem, Input, Out, Code, Over, Val⟩) (Cx.box_drop (Cx.box_drop (Cx.box_set2 y9.next))), .inl rfl⟩

set_option maxHeartbeats 1000000 in
theorem step_sx (m : Image) (c : Cpu) (i : Nat) (w : Word) (hat : c.At = (i : Int)) (hw : m.Code[i]? = some w) (ho : w.Op = 5) {r a q : Nat} (hr : w.R = (r : Int)) (ha : w.A = (a : Int)) (hq : w.N = (q : Int)) (hrl : r < c.Regs.length) (hal : a < c.Regs.length) (hql : q < c.Mem.length) {j : Nat} (hj : rd c.Regs (a : Int) = (j : Int)) (hjl : j < (c.Mem.getD q []).length) (hm : (c.Mem.getD q []).length ≤ 2 ^ 62) : StepOkX m c (stepC c w) := by
  obtain ⟨Op, R, A, B, N⟩ := w
  obtain ⟨At, Regs, Slots, Mem, Input, Out, Code, Over, Val⟩ := c
  simp only at hat ho hr ha hq hrl hal hql hj hjl hm
  subst hat ho hr ha hq
  have hnil : True := trivial
  intro ext h nb l ns bs os x ok
  obtain ⟨w1, w2, w3, w4, w5, n1, n2, n3, n4, n5, rfl, y⟩ := x.cpu_split
  dsimp only at y
  have q1 := own_one (own_of (y.o0 true) rfl)
  have q2 := own_one (own_of (y.o1 true) rfl)
  have q3 := own_one (own_of (y.o2 true) rfl)
  have q4 := own_one (own_of (y.o3 true) rfl)
  have q5 := own_one (own_of (y.o4 true) rfl)
  refine enter mixed MW22 Try.func72 rfl (by kernel_rfl) rfl ?_
  repeat' (first
   | with_reducible refine stp ?_
   | with_reducible refine k_blk_o rfl ?_
   | ((try (conv => arg 1; simp [Image.cells])); with_reducible refine evp ?_)
   | ((with_reducible refine apn ?na ?_); (case na => simp [appNames, ints, intss] <;> first | kernel_rfl | (refine ⟨?_, ?_⟩ <;> kernel_rfl)))
   | fail)
  refine cx_k (y.next.box_one y.off (by simp)) ?_
  intro h1 y1
  have m1 : nb.1 < h1.tick := y1.lt nb (by simp [nms])
  have e1 : ¬ nb.1 = h1.tick := by omega
  repeat' (first
   | with_reducible refine stp ?_
   | with_reducible refine k_blk_o rfl ?_
   | ((try (conv => arg 1; simp [boxX])); with_reducible refine evp ?_)
   | ((with_reducible refine apn ?na ?_); (case na => simp [appNames, ints, intss] <;> first | kernel_rfl | (refine ⟨?_, ?_⟩ <;> kernel_rfl)))
   | fail)
  repeat (with_reducible first | refine stp ?_ | refine k_seq_n ?_)
  refine st_draw 9 (fun _ => false) (by kernel_rfl) ?_
  simp only [List.take_succ_cons, List.take_zero, List.drop_succ_cons, List.drop_zero, List.take_nil, List.drop_nil]
  repeat' (first
   | with_reducible refine stp ?_
   | with_reducible refine k_blk_o rfl ?_
   | ((try (conv => arg 1; simp [boxX, y1.b0, y1.b1, y1.l0, e1, hw, words, Word.cells])); with_reducible refine evp ?_)
   | ((with_reducible refine apn ?na ?_); (case na => simp [appNames, ints, intss] <;> first | kernel_rfl | (refine ⟨?_, ?_⟩ <;> kernel_rfl)))
   | fail)
  refine cx_k (y1.next.box_new y1.off (by simp)) ?_
  intro h2 y2
  have m2 : nb.1 < h2.tick := y2.lt nb (by simp [nms])
  repeat' (first
   | with_reducible refine stp ?_
   | with_reducible refine k_blk_o rfl ?_
   | ((try (conv => arg 1; simp [boxX, y2.b2])); with_reducible refine evp ?_)
   | ((with_reducible refine apn ?na ?_); (case na => simp [appNames, ints, intss] <;> first | kernel_rfl | (refine ⟨?_, ?_⟩ <;> kernel_rfl)))
   | fail)
  refine cx_k y2.next ?_
  intro h3 y3
  repeat' (first
   | with_reducible refine stp ?_
   | with_reducible refine k_blk_o rfl ?_
   | ((try (conv => arg 1; simp [boxX, y3.b0])); with_reducible refine evp ?_)
   | ((with_reducible refine apn ?na ?_); (case na => simp [appNames, ints, intss] <;> first | kernel_rfl | (refine ⟨?_, ?_⟩ <;> kernel_rfl)))
   | fail)
  refine cx_k y3.next ?_
  intro h4 y4
  repeat' (first
   | with_reducible refine stp ?_
   | with_reducible refine k_blk_o rfl ?_
   | with_reducible refine k_seq_n ?_
   | ((try (conv => arg 1; simp [hnil])); with_reducible refine evp ?_)
   | ((with_reducible refine apn ?na ?_); (case na => simp [appNames, ints, intss] <;> first | kernel_rfl | (refine ⟨?_, ?_⟩ <;> kernel_rfl)))
   | fail)
  refine cx_wp (by first | exact y4 | exact y4.next | exact y4.next.next | exact y4.next.next.next | exact y4.next.next.next.next | exact y4.next.next.next.next.next | exact y4.next.next.next.next.next.next | exact y4.next.next.next.next.next.next.next | exact y4.next.next.next.next.next.next.next.next | exact y4.next.next.next.next.next.next.next.next.next | exact y4.next.next.next.next.next.next.next.next.next.next | exact y4.next.next.next.next.next.next.next.next.next.next.next | exact y4.next.next.next.next.next.next.next.next.next.next.next.next | exact y4.next.next.next.next.next.next.next.next.next.next.next.next.next | exact y4.next.next.next.next.next.next.next.next.next.next.next.next.next.next | exact y4.next.next.next.next.next.next.next.next.next.next.next.next.next.next.next) ?_
  intro h5 y5
  have m5 : nb.1 < h5.tick := y5.lt nb (by simp [nms])
  have e5 : ¬ nb.1 = h5.tick := by omega
  obtain ⟨k1, v1, p1, s1, a1, b1⟩ := y5.ints_at hrl
  have ew := a1.val
  subst ew
  have c1 : ¬ k1.1 = h5.tick := by omega
  have d1 : k1.1 < h5.tick + 1 := by omega
  have g2 := a1.get hal
  repeat (with_reducible first | refine stp ?_ | refine k_seq_n ?_)
  refine st_draw 9 (fun _ => false) (by kernel_rfl) ?_
  simp only [List.take_succ_cons, List.take_zero, List.drop_succ_cons, List.drop_zero, List.take_nil, List.drop_nil]
  repeat' (first
   | with_reducible refine stp ?_
   | with_reducible refine k_blk_o rfl ?_
   | ((try (conv => arg 1; simp [boxX, y5.b0, y5.l0, y5.b2, e5, a1.row, g2, c1, d1, hal])); with_reducible refine evp ?_)
   | ((with_reducible refine apn ?na ?_); (case na => simp [appNames, ints, intss] <;> first | kernel_rfl | (refine ⟨?_, ?_⟩ <;> kernel_rfl)))
   | fail)
  refine cx_k y5.next ?_
  intro h6 y6
  have m6 : nb.1 < h6.tick := y6.lt nb (by simp [nms])
  have e6 : ¬ nb.1 = h6.tick := by omega
  obtain ⟨k3, v3, s3, u, nq, rfl, r3, g3, l3, ou, lu, _, _, _, _⟩ := (y6.rot2).mem_at hql
  have qu := own_one ou
  have c3 : ¬ k3.1 = h6.tick := by omega
  have lenu := lenA_own (P := Try.prog) (t := 22) ou (by kernel_rfl)
  repeat' (first
   | with_reducible refine stp ?_
   | with_reducible refine k_blk_o rfl ?_
   | with_reducible refine k_seq_n ?_
   | ((try (conv => arg 1; simp [boxX])); with_reducible refine evp ?_)
   | ((with_reducible refine apn ?na ?_); (case na => simp [appNames, ints, intss] <;> first | kernel_rfl | (refine ⟨?_, ?_⟩ <;> kernel_rfl)))
   | fail)
  repeat (with_reducible first | refine stp ?_ | refine k_seq_n ?_)
  refine st_draw 13 (fun _ => false) (by kernel_rfl) ?_
  simp only [List.take_succ_cons, List.take_zero, List.drop_succ_cons, List.drop_zero, List.take_nil, List.drop_nil]
  repeat' (first
   | with_reducible refine stp ?_
   | with_reducible refine k_blk_o rfl ?_
   | ((try (conv => arg 1; simp [boxX, y6.b0, y6.l0, y6.b2, e6, r3, g3, c3, hql, qu.1, lenu])); with_reducible refine evp ?_)
   | ((with_reducible refine apn ?na ?_); (case na => simp [appNames, ints, intss] <;> first | kernel_rfl | (refine ⟨?_, ?_⟩ <;> kernel_rfl)))
   | fail)
  refine treeW_pure (in_ _ _ _) (.cons (.int _ _) (.cons (.int _ _) (.cons (.int _ _) .nil))) ?_
  repeat' (first
   | with_reducible refine stp ?_
   | with_reducible refine k_blk_o rfl ?_
   | ((try (conv => arg 1; simp [hnil])); with_reducible refine evp ?_)
   | ((with_reducible refine apn ?na ?_); (case na => simp [appNames, ints, intss] <;> first | kernel_rfl | (refine ⟨?_, ?_⟩ <;> kernel_rfl)))
   | fail)
  refine cx_k y6.next ?_
  intro h7 y7
  have m7 : nb.1 < h7.tick := y7.lt nb (by simp [nms])
  have ha2 : rd Regs (a : Int) = Regs[a] := rd_at hal
  have hq2 : Mem.getD q [] = Mem[q] := by simp [hql]
  have hq3 : Mem[q]?.getD [] = Mem[q] := by simp [hql]
  rw [ha2] at hj
  rw [hq2] at hjl hm
  have hw62 : IntKind.i64.wrap ((Mem[q].length : Int) - 1) = (Mem[q].length : Int) - 1 := wrap_id (by omega) (by omega)
  have hin : inB (Regs[a]) 0 (IntKind.i64.wrap ((Mem[q].length : Int) - 1)) = true := by rw [hj, hw62]; simp [inB]; omega
  repeat' (first
   | with_reducible refine stp ?_
   | with_reducible refine k_blk_o rfl ?_
   | ((try (conv => arg 1; simp [hin])); with_reducible refine evp ?_)
   | ((with_reducible refine apn ?na ?_); (case na => simp [appNames, ints, intss] <;> first | kernel_rfl | (refine ⟨?_, ?_⟩ <;> kernel_rfl)))
   | fail)
  refine k_seq_n ?_
  repeat' (first
   | with_reducible refine stp ?_
   | with_reducible refine k_blk_o rfl ?_
   | ((try (conv => arg 1; simp [y7.b0])); with_reducible refine evp ?_)
   | ((with_reducible refine apn ?na ?_); (case na => simp [appNames, ints, intss] <;> first | kernel_rfl | (refine ⟨?_, ?_⟩ <;> kernel_rfl)))
   | fail)
  refine cx_k y7.next ?_
  intro h8 y8
  have m8 : nb.1 < h8.tick := y8.lt nb (by simp [nms])
  have e8 : ¬ nb.1 = h8.tick := by omega
  obtain ⟨k1', v1', p1', s1', a1', b1'⟩ := y8.ints_at hrl
  have ew := a1'.val
  simp at ew
  obtain ⟨rfl, rfl, rfl⟩ := ew
  obtain ⟨k3', v3', s3', u', nq', e3', r3', g3', l3', ou', lu', nu', su', sk', put'⟩ := (y8.rot2).mem_at hql
  simp at e3'
  obtain ⟨rfl, rfl⟩ := e3'
  obtain ⟨k4, v4, p4, s4, a4⟩ := ints_at_own ou' hjl
  have ew := a4.val
  subst ew
  have g1' := a1'.get hrl
  have g4 := a4.get hjl
  have hk4 : k4 ∈ nq' := by rw [a4.nms]; simp
  have c1' : ¬ k1.1 = h8.tick := by omega
  have d1' : k1.1 < h8.tick + 1 := by omega
  have c3' : ¬ k3.1 = h8.tick := by omega
  have l4 := lu' k4 hk4
  have c4 : ¬ k4.1 = h8.tick := by omega
  have d4 : k4.1 < h8.tick + 1 := by omega
  repeat' (first
   | with_reducible refine stp ?_
   | with_reducible refine k_blk_o rfl ?_
   | with_reducible refine k_seq_n ?_
   | ((try (conv => arg 1; simp [boxX])); with_reducible refine evp ?_)
   | ((with_reducible refine apn ?na ?_); (case na => simp [appNames, ints, intss] <;> first | kernel_rfl | (refine ⟨?_, ?_⟩ <;> kernel_rfl)))
   | fail)
  repeat (with_reducible first | refine stp ?_ | refine k_seq_n ?_)
  refine st_draw 18 (fun _ => false) (by kernel_rfl) ?_
  simp only [List.take_succ_cons, List.take_zero, List.drop_succ_cons, List.drop_zero, List.take_nil, List.drop_nil]
  repeat' (first
   | with_reducible refine stp ?_
   | with_reducible refine k_blk_o rfl ?_
   | ((try (conv => arg 1; simp [boxX, y8.b0, y8.l0, y8.b2, e8, a1'.row, g1', c1', hrl, r3', g3', c3', hql, a4.row, g4, c4, d4, hjl, hj])); with_reducible refine evp ?_)
   | ((with_reducible refine apn ?na ?_); (case na => simp [appNames, ints, intss] <;> first | kernel_rfl | (refine ⟨?_, ?_⟩ <;> kernel_rfl)))
   | fail)
  have fr := put' (h8.next.put k4 ⟨v4, 1, s4.set (p4 + j) [.int .i64 Regs[r]]⟩) (Mem[q].set j Regs[r]) (fun m hm => by
    have hne : m ≠ k4 := fun e => hm (by rw [e]; exact hk4)
    simp [hne]) (by simp) (a4.put_own hjl Regs[r] (by simp) true)
  refine cx_k fr.rot2.rot2 ?_
  intro h9 y9
  have m9 : nb.1 < h9.tick := y9.lt nb (by simp [nms])
  repeat' (first
   | with_reducible refine stp ?_
   | with_reducible refine k_blk_o rfl ?_
   | with_reducible refine k_seq_n ?_
   | ((try (conv => arg 1; simp [boxX, y9.b2, m9])); with_reducible refine evp ?_)
   | ((with_reducible refine apn ?na ?_); (case na => simp [appNames, ints, intss] <;> first | kernel_rfl | (refine ⟨?_, ?_⟩ <;> kernel_rfl)))
   | fail)
  have es : stepC ⟨i, Regs, Slots, Mem, Input, Out, Code, Over, Val⟩ ⟨5, r, a, B, q⟩ = ⟨IntKind.i64.wrap (i + 1), Regs, Slots, Mem.set q (Mem[q].set j Regs[r]), Input, Out, Code, Over, Val⟩ := by
    have hin' := hin
    rw [hj] at hin'
    simp [stepC, ha2, hq3, hj, hin', rd_at hrl]
  rw [es]
  have e3 : AV.sl k3 v3 0 Mem.length = .sl k3 v3 0 (Mem.set q (Mem[q].set j Regs[r])).length := by rw [List.length_set]
  exact ⟨_, _, Cx.cpu_join (c := ⟨IntKind.i64.wrap (i + 1), Regs, Slots, Mem.set q (Mem[q].set j Regs[r]), Input, Out, Code, Over, Val⟩) (Cx.box_drop (Cx.box_drop (Cx.box_set2 y9.next))), .inl rfl⟩
end Go.Proofs.Ytfgaoojogididaa.AM

/-
  A stepper that runs: any word of a right image; what a word keeps.
-/
set_option linter.unusedVariables false
set_option linter.unusedSimpArgs false
set_option maxRecDepth 4000
namespace Go.Proofs.Ytfgaoojogididaa.AM
open Go.RowKit

/-- A stepper that runs. -/
structure Runs (m : Image) (c : Cpu) : Prop where
  img : imageOk m = true
  at_ : ∃ i : Nat, c.At = (i : Int) ∧ i < m.Code.length
  regs : c.Regs.length = 16
  slots : (c.Slots.length : Int) = m.Slots
  mem : lens c.Mem = m.Sizes
  code : c.Code = 0
  over : c.Over = false

theorem inB_nat {x k : Int} (h : inB x 0 k = true) : ∃ n : Nat, x = (n : Int) ∧ (n : Int) ≤ k := by
  simp only [inB, Bool.and_eq_true, decide_eq_true_eq] at h
  exact ⟨x.toNat, by omega, by omega⟩

theorem imageOk_code {m : Image} (h : imageOk m = true) : 1 ≤ m.Code.length ∧ m.Code.length ≤ 6000 ∧ (∀ w ∈ m.Code, wordOk m w = true) ∧ lastOk m = true ∧ 0 ≤ m.Slots ∧ m.Slots ≤ 1000 ∧ 1 ≤ m.Sizes.length ∧ m.Sizes.length ≤ 4 ∧ (∀ n ∈ m.Sizes, 1 ≤ n ∧ n ≤ 16) ∧ 0 ≤ m.Params ∧ m.Params ≤ m.Slots := by
  simp only [imageOk, inB, Bool.and_eq_true, decide_eq_true_eq, List.all_eq_true] at h
  obtain ⟨⟨⟨⟨⟨⟨h1, h2⟩, h3⟩, h4⟩, h5⟩, h7⟩, h8⟩ := h
  exact ⟨by omega, by omega, h8, h7, by omega, by omega, by omega, by omega, h2, by omega, by omega⟩

/-- The cases of a word. -/
theorem word_cases {m : Image} {w : Word} (h : wordOk m w = true) {K : Prop}
    (k0 : ∀ r : Nat, w.Op = 0 → w.R = (r : Int) → r < 16 → K)
    (k1 : ∀ r n : Nat, w.Op = 1 → w.R = (r : Int) → r < 16 → w.N = (n : Int) → (n : Int) ≤ IntKind.i64.wrap (m.Slots - 1) → K)
    (k2 : ∀ r n : Nat, w.Op = 2 → w.R = (r : Int) → r < 16 → w.N = (n : Int) → (n : Int) ≤ IntKind.i64.wrap (m.Slots - 1) → K)
    (k3 : ∀ r a b n : Nat, w.Op = 3 → w.R = (r : Int) → r < 16 → w.A = (a : Int) → a < 16 → w.B = (b : Int) → b < 16 → w.N = (n : Int) → n < 6 → K)
    (k4 : ∀ r a n : Nat, w.Op = 4 → w.R = (r : Int) → r < 16 → w.A = (a : Int) → a < 16 → w.N = (n : Int) → (n : Int) ≤ IntKind.i64.wrap (m.Sizes.length - 1) → K)
    (k5 : ∀ r a n : Nat, w.Op = 5 → w.R = (r : Int) → r < 16 → w.A = (a : Int) → a < 16 → w.N = (n : Int) → (n : Int) ≤ IntKind.i64.wrap (m.Sizes.length - 1) → K)
    (k6 : ∀ r : Nat, w.Op = 6 → w.R = (r : Int) → r < 16 → K)
    (k7 : ∀ r : Nat, w.Op = 7 → w.R = (r : Int) → r < 16 → K)
    (k8 : ∀ n : Nat, w.Op = 8 → w.N = (n : Int) → (n : Int) ≤ IntKind.i64.wrap (m.Code.length - 1) → K)
    (k9 : ∀ r n : Nat, w.Op = 9 → w.R = (r : Int) → r < 16 → w.N = (n : Int) → (n : Int) ≤ IntKind.i64.wrap (m.Code.length - 1) → K)
    (k10 : ∀ r : Nat, w.Op = 10 → w.R = (r : Int) → r < 16 → K)
    (k11 : ∀ r a : Nat, w.Op = 11 → w.R = (r : Int) → r < 16 → w.A = (a : Int) → a < 16 → K) : K := by
  unfold wordOk at h
  have key : ∀ {x : Int}, inB x 0 15 = true → ∃ n : Nat, x = (n : Int) ∧ n < 16 := fun hx => by
    obtain ⟨n, h1, h2⟩ := inB_nat hx
    exact ⟨n, h1, by omega⟩
  split at h
  · rename_i ho
    simp only [Bool.and_eq_true] at h
    obtain ⟨r, hr, hr2⟩ := key h.1
    exact k0 r ho hr hr2
  split at h
  · rename_i ho
    simp only [Bool.and_eq_true] at h
    obtain ⟨r, hr, hr2⟩ := key h.1.1
    obtain ⟨n, hn, hn2⟩ := inB_nat h.2
    rcases ho with ho | ho
    · exact k1 r n ho hr hr2 hn hn2
    · exact k2 r n ho hr hr2 hn hn2
  split at h
  · rename_i ho
    simp only [Bool.and_eq_true] at h
    obtain ⟨r, hr, hr2⟩ := key h.1.1.1
    obtain ⟨a, ha, ha2⟩ := key h.1.1.2
    obtain ⟨b, hb, hb2⟩ := key h.1.2
    obtain ⟨n, hn, hn2⟩ := inB_nat h.2
    exact k3 r a b n ho hr hr2 ha ha2 hb hb2 hn (by omega)
  split at h
  · rename_i ho
    simp only [Bool.and_eq_true] at h
    obtain ⟨r, hr, hr2⟩ := key h.1.1.1
    obtain ⟨a, ha, ha2⟩ := key h.1.1.2
    obtain ⟨n, hn, hn2⟩ := inB_nat h.2
    rcases ho with ho | ho
    · exact k4 r a n ho hr hr2 ha ha2 hn hn2
    · exact k5 r a n ho hr hr2 ha ha2 hn hn2
  split at h
  · rename_i ho
    simp only [Bool.and_eq_true] at h
    obtain ⟨r, hr, hr2⟩ := key h.1.1.1
    obtain ⟨a, ha, ha2⟩ := key h.1.1.2
    exact k11 r a ho hr hr2 ha ha2
  split at h
  · rename_i ho
    simp only [Bool.and_eq_true] at h
    obtain ⟨r, hr, hr2⟩ := key h.1.1
    rcases ho with ho | ho | ho
    · exact k6 r ho hr hr2
    · exact k7 r ho hr hr2
    · exact k10 r ho hr hr2
  split at h
  · rename_i ho
    simp only [Bool.and_eq_true] at h
    obtain ⟨n, hn, hn2⟩ := inB_nat h.2
    exact k8 n ho hn hn2
  split at h
  · rename_i ho
    simp only [Bool.and_eq_true] at h
    obtain ⟨r, hr, hr2⟩ := key h.1.1
    obtain ⟨n, hn, hn2⟩ := inB_nat h.2
    exact k9 r n ho hr hr2 hn hn2
  · cases h

theorem w1 {n : Int} {k : Nat} (h : (n : Int) ≤ IntKind.i64.wrap ((k : Int) - 1)) (hk : k ≤ 2 ^ 62) : n < k := by
  rw [wrap_id (by omega) (by omega)] at h
  omega
theorem w2 {n k : Int} (h : n ≤ IntKind.i64.wrap (k - 1)) (h0 : 0 ≤ k) (hk : k ≤ 2 ^ 62) : n < k := by
  rw [wrap_id (by omega) (by omega)] at h
  omega

theorem Runs.memlen {m : Image} {c : Cpu} (h : Runs m c) : c.Mem.length = m.Sizes.length := by
  have := congrArg List.length h.mem
  simpa [lens] using this
theorem Runs.memq {m : Image} {c : Cpu} (h : Runs m c) {q : Nat} (hq : q < c.Mem.length) : (c.Mem.getD q []).length ≤ 16 := by
  have h1 := (imageOk_code h.img).2.2.2.2.2.2.2.2.1
  have h2 : ((c.Mem[q].length : Int)) ∈ m.Sizes := by
    rw [← h.mem]
    exact List.mem_map.2 ⟨_, List.getElem_mem hq, rfl⟩
  have := (h1 _ h2).2
  simp [hq]
  omega

theorem step_okX {m : Image} {c : Cpu} {i : Nat} {w : Word} (h : Runs m c) (hat : c.At = (i : Int)) (hw : m.Code[i]? = some w) (hol : c.Out.length + 1 ≤ 4294967296) : StepOkX m c (stepC c w) := by
  have hi := imageOk_code h.img
  have hmem : w ∈ m.Code := List.mem_of_getElem? hw
  have hr := h.regs
  have hs := h.slots
  have hml := h.memlen
  refine word_cases (hi.2.2.1 w hmem) ?_ ?_ ?_ ?_ ?_ ?_ ?_ ?_ ?_ ?_ ?_ ?_
  · intro r ho h1 h2
    exact step_li m c i r w hat hw ho h1 (by omega)
  · intro r n ho h1 h2 h3 h4
    exact step_ld m c i w hat hw ho h1 h3 (by omega) (by have := w2 h4 (by omega) (by omega); omega)
  · intro r n ho h1 h2 h3 h4
    exact step_sd m c i w hat hw ho h1 h3 (by omega) (by have := w2 h4 (by omega) (by omega); omega)
  · intro r a b n ho h1 h2 h3 h4 h5 h6 h7 h8
    exact step_alu m c i w hat hw ho h1 h3 h5 h7 (by omega) (by omega) (by omega) h8
  · intro r a n ho h1 h2 h3 h4 h5 h6
    have hq : n < c.Mem.length := by have := w1 h6 (by omega); omega
    have hmq := h.memq hq
    cases hb : inB (rd c.Regs (a : Int)) 0 (IntKind.i64.wrap ((c.Mem.getD n []).length - 1)) with
    | false => exact step_trap4 m c i w hat hw ho h1 h3 h5 (by omega) (by omega) hq hb
    | true =>
      obtain ⟨j, hj, hj2⟩ := inB_nat hb
      exact step_lx m c i w hat hw ho h1 h3 h5 (by omega) (by omega) hq hj (by have := w1 hj2 (by omega); omega) (by omega)
  · intro r a n ho h1 h2 h3 h4 h5 h6
    have hq : n < c.Mem.length := by have := w1 h6 (by omega); omega
    have hmq := h.memq hq
    cases hb : inB (rd c.Regs (a : Int)) 0 (IntKind.i64.wrap ((c.Mem.getD n []).length - 1)) with
    | false => exact step_trap5 m c i w hat hw ho h1 h3 h5 (by omega) (by omega) hq hb
    | true =>
      obtain ⟨j, hj, hj2⟩ := inB_nat hb
      exact step_sx m c i w hat hw ho h1 h3 h5 (by omega) (by omega) hq hj (by have := w1 hj2 (by omega); omega) (by omega)
  · intro r ho h1 h2
    cases hin : c.Input with
    | nil => exact step_in0 m c i w hat hw ho h1 (by omega) hin
    | cons z zs => exact step_in1 m c i w hat hw ho h1 (by omega) hin
  · intro r ho h1 h2
    exact step_out m c i w hat hw ho h1 (by omega) hol
  · intro n ho h1 h2
    exact step_jmp m c i w hat hw ho
  · intro r n ho h1 h2 h3 h4
    exact step_jz m c i w hat hw ho h1 (by omega)
  · intro r ho h1 h2
    exact step_ret m c i w hat hw ho h1 (by omega)
  · intro r a ho h1 h2 h3 h4
    exact step_mv m c i w hat hw ho h1 h3 (by omega) (by omega)

theorem step_ok {m : Image} {c : Cpu} {i : Nat} {w : Word} (h : Runs m c) (hat : c.At = (i : Int)) (hw : m.Code[i]? = some w) (hol : c.Out.length + 1 ≤ 4294967296) : StepOk m c (stepC c w) := (step_okX h hat hw hol).ok

theorem lens_set {xs : List (List Int)} {q : Nat} {ys : List Int} (h : ∀ hq : q < xs.length, ys.length = xs[q].length) : lens (xs.set q ys) = lens xs := by
  refine List.ext_getElem (by simp [lens]) fun j h1 h2 => ?_
  simp only [lens, List.length_map, List.length_set] at h1
  simp only [lens, List.getElem_map, List.getElem_set]
  split
  · rename_i e
    subst e
    rw [h h1]
  · rfl

/-- What a word keeps. -/
theorem Runs.keep {m : Image} {c : Cpu} {i : Nat} {w : Word} (h : Runs m c) (hat : c.At = (i : Int)) (hw : m.Code[i]? = some w) (hc : (stepC c w).Code = 0) (ho : (stepC c w).Over = false) : Runs m (stepC c w) := by
  have hi := imageOk_code h.img
  have hmem : w ∈ m.Code := List.mem_of_getElem? hw
  have hlt : i < m.Code.length := (List.getElem?_eq_some_iff.1 hw).1
  have hnext : w.Op ≠ 8 → w.Op ≠ 10 → ∃ i : Nat, IntKind.i64.wrap (c.At + 1) = (i : Int) ∧ i < m.Code.length := by
    intro h8 h10
    refine ⟨i + 1, by rw [hat, wrap_id (by omega) (by omega)]; rfl, ?_⟩
    rcases Nat.lt_or_ge (i + 1) m.Code.length with h1 | h1
    · exact h1
    · exfalso
      have hl : m.Code.getLast? = some w := by
        rw [List.getLast?_eq_getElem?, show m.Code.length - 1 = i by omega, hw]
      have h2 := hi.2.2.2.1
      simp [lastOk, hl, h8, h10] at h2
  have ml := h.memlen
  refine word_cases (hi.2.2.1 w hmem) ?_ ?_ ?_ ?_ ?_ ?_ ?_ ?_ ?_ ?_ ?_ ?_
  · intro r hop h1 h2
    have e : stepC c w = { c with Regs := c.Regs.set w.R.toNat w.N, At := IntKind.i64.wrap (c.At + 1) } := by simp [stepC, hop]
    rw [e]
    exact ⟨h.img, hnext (by omega) (by omega), by simpa using h.regs, h.slots, h.mem, h.code, h.over⟩
  · intro r n hop h1 h2 h3 h4
    have e : stepC c w = { c with Regs := c.Regs.set w.R.toNat (rd c.Slots w.N), At := IntKind.i64.wrap (c.At + 1) } := by simp [stepC, hop]
    rw [e]
    exact ⟨h.img, hnext (by omega) (by omega), by simpa using h.regs, h.slots, h.mem, h.code, h.over⟩
  · intro r n hop h1 h2 h3 h4
    have e : stepC c w = { c with Slots := c.Slots.set w.N.toNat (rd c.Regs w.R), At := IntKind.i64.wrap (c.At + 1) } := by simp [stepC, hop]
    rw [e]
    exact ⟨h.img, hnext (by omega) (by omega), h.regs, by simpa using h.slots, h.mem, h.code, h.over⟩
  · intro r a b n hop h1 h2 h3 h4 h5 h6 h7 h8
    have e : stepC c w = { c with Regs := c.Regs.set w.R.toNat (alu w.N.toNat (rd c.Regs w.A) (rd c.Regs w.B)), At := IntKind.i64.wrap (c.At + 1) } := by simp [stepC, hop]
    rw [e]
    exact ⟨h.img, hnext (by omega) (by omega), by simpa using h.regs, h.slots, h.mem, h.code, h.over⟩
  · intro r a n hop h1 h2 h3 h4 h5 h6
    cases hb : inB (rd c.Regs w.A) 0 (IntKind.i64.wrap ((c.Mem.getD w.N.toNat []).length - 1)) with
    | false =>
      have e : (stepC c w).Code = 1 := by
        unfold stepC
        simp only [hop, hb]
        rfl
      rw [e] at hc; cases hc
    | true =>
      have e : stepC c w = { c with Regs := c.Regs.set w.R.toNat (rd (c.Mem.getD w.N.toNat []) (rd c.Regs w.A)), At := IntKind.i64.wrap (c.At + 1) } := by
        unfold stepC
        simp only [hop, hb]
        rfl
      rw [e]
      exact ⟨h.img, hnext (by omega) (by omega), by simpa using h.regs, h.slots, h.mem, h.code, h.over⟩
  · intro r a n hop h1 h2 h3 h4 h5 h6
    cases hb : inB (rd c.Regs w.A) 0 (IntKind.i64.wrap ((c.Mem.getD w.N.toNat []).length - 1)) with
    | false =>
      have e : (stepC c w).Code = 1 := by
        unfold stepC
        simp only [hop, hb]
        rfl
      rw [e] at hc; cases hc
    | true =>
      have e : stepC c w = { c with Mem := c.Mem.set w.N.toNat ((c.Mem.getD w.N.toNat []).set (rd c.Regs w.A).toNat (rd c.Regs w.R)), At := IntKind.i64.wrap (c.At + 1) } := by
        unfold stepC
        simp only [hop, hb]
        rfl
      rw [e]
      refine ⟨h.img, hnext (by omega) (by omega), h.regs, h.slots, ?_, h.code, h.over⟩
      rw [← h.mem]
      refine lens_set fun hq => ?_
      simp [hq]
  · intro r hop h1 h2
    have e : stepC c w = { c with Regs := c.Regs.set w.R.toNat (c.Input.headD (-1)), Input := c.Input.tail, At := IntKind.i64.wrap (c.At + 1) } := by simp [stepC, hop]
    rw [e]
    exact ⟨h.img, hnext (by omega) (by omega), by simpa using h.regs, h.slots, h.mem, h.code, h.over⟩
  · intro r hop h1 h2
    have e : stepC c w = { c with Out := c.Out ++ [rd c.Regs w.R], At := IntKind.i64.wrap (c.At + 1) } := by simp [stepC, hop]
    rw [e]
    exact ⟨h.img, hnext (by omega) (by omega), h.regs, h.slots, h.mem, h.code, h.over⟩
  · intro n hop h1 h2
    have e : stepC c w = { c with At := w.N } := by simp [stepC, hop]
    rw [e]
    exact ⟨h.img, ⟨n, h1, by have := w1 h2 (by omega); omega⟩, h.regs, h.slots, h.mem, h.code, h.over⟩
  · intro r n hop h1 h2 h3 h4
    have e : stepC c w = { c with At := if rd c.Regs w.R = 0 then w.N else IntKind.i64.wrap (c.At + 1) } := by simp [stepC, hop]
    rw [e]
    refine ⟨h.img, ?_, h.regs, h.slots, h.mem, h.code, h.over⟩
    by_cases hz : rd c.Regs w.R = 0
    · refine ⟨n, ?_, by have := w1 h4 (by omega); omega⟩
      simp only [if_pos hz]
      exact h3
    · obtain ⟨k, e1, e2⟩ := hnext (by omega) (by omega)
      refine ⟨k, ?_, e2⟩
      simp only [if_neg hz]
      exact e1
  · intro r hop h1 h2
    have e : (stepC c w).Over = true := by simp [stepC, hop]
    rw [e] at ho; cases ho
  · intro r a hop h1 h2 h3 h4
    have e : stepC c w = { c with Regs := c.Regs.set w.R.toNat (rd c.Regs w.A), At := IntKind.i64.wrap (c.At + 1) } := by simp [stepC, hop]
    rw [e]
    exact ⟨h.img, hnext (by omega) (by omega), by simpa using h.regs, h.slots, h.mem, h.code, h.over⟩
end Go.Proofs.Ytfgaoojogididaa.AM
