/- Lemmas: an abstract machine over named rows, and what single functions compute (parts U2, U3, U4, U5, U6, U7, U8, U9, U10, U11, U12, W0, W1). -/
import Derived.Test.YtfgaoojogididaaKk1
/-
  Slices of slices of whole numbers: their sizes, copies, marks.
-/
set_option linter.unusedVariables false
set_option linter.unusedSimpArgs false
set_option maxRecDepth 4000
namespace Go.Proofs.Ytfgaoojogididaa.AM
open Go.RowKit

private def MU2 : FuncId → Mode := fun f => if f = 27 then .fresh else if f = 33 then .heap else .tree

def psum (xs : List (List Int)) (i : Nat) : Nat := ((List.take i xs).map List.length).sum
def wtSS (l : List (List Int)) : Nat := l.length + psum l l.length
theorem psum_zero (xs : List (List Int)) : psum xs 0 = 0 := by simp [psum]
theorem psum_succ (l : List (List Int)) (i : Nat) (h : i < l.length) : psum l (i + 1) = psum l i + l[i].length := by
  unfold psum
  rw [List.take_add_one, List.map_append, List.sum_append]
  simp [h]
theorem psum_le (l : List (List Int)) (i : Nat) : psum l i ≤ psum l l.length := by
  unfold psum
  rw [List.take_length, ← List.take_append_drop i (l.map List.length), List.sum_append, List.map_take]
  omega

theorem szIntSS (xs : List (List Int)) (left : Int) (h1 : 0 ≤ left) (h2 : left ≤ 2 ^ 20) (hm : xs.length ≤ maxLen) (hm2 : ∀ x ∈ xs, x.length ≤ maxLen) : Pure Try.prog 47 [intss true xs, .int .i64 left] (.int .i64 (if left < wtSS xs then -1 else left - wtSS xs)) := by
  intro T
  have hw : IntKind.i64.wrap (left - xs.length) = left - xs.length := wrap_id (by simp [maxLen] at hm; omega) (by omega)
  refine enter mixed MU2 Try.func47 rfl (by kernel_rfl) rfl ?_
  repeat' (first
    | (with_reducible first | refine st_seq ?_ | refine st_reg ?_ | refine st_block ?_ | refine st_nil ?_ | refine st_skip ?_ | refine st_ret ?_ | refine st_exit ?_ | refine fr_nil ?_ | refine k_seq_n ?_ | refine k_seq_r ?_ | refine k_seq_e ?_ | refine k_blk_n ?_ | refine k_blk_r ?_ | refine k_blk_s ?_ | refine k_blk_o rfl ?_ | refine k_fn_r ?_ | refine k_fn_n ?_ | refine k_lp_r ?_ | refine k_lp_e ?_)
    | ((with_reducible first | refine st_move ?_ | refine st_asg ?_ | refine st_c ?_ | refine fr_c ?_); (try (conv => arg 1; simp [intss, hw])); (with_reducible refine at_mk ?_))
    | ((with_reducible first | refine st_g ?_ | refine fr_g ?_); (try (conv => arg 1; simp [intss, hw])); (with_reducible refine at_mk ?_); with_reducible first | refine gd_tt ?_ | refine gd_ff ?_ | refine gd_tf ?_ | refine gd_ft ?_ | refine gd_no ?_)
    | ((with_reducible refine st_m rfl ?_); (try (conv => arg 1; simp [intss, hw])); (with_reducible refine ev2_some ?_))
    | ((with_reducible refine fr_n rfl ?_); (try (conv => arg 1; simp [intss, hw])); (with_reducible refine evn_some ?_))
    | ((with_reducible first | refine st_cv ?_ | refine fr_cv ?_); (try (conv => arg 1; simp [intss, hw])); (with_reducible refine at_mk ?_); (with_reducible refine fn_mk ?_); (try (conv => arg 1; simp [intss, hw])); (with_reducible refine at_mk ?_))
    | ((with_reducible refine fr_a ?_); (try (conv => arg 1; simp [intss, hw])); (with_reducible refine at_mk ?_); (try (conv => arg 1; simp [intss, hw])); (with_reducible refine at_mk ?_); refine ⟨?names, ?_⟩; (case names => (simp [appNames, ints, intss] <;> first | kernel_rfl | (refine ⟨?_, ?_⟩ <;> kernel_rfl))); (try (conv => arg 1; simp [intss, hw])); (with_reducible refine ev2_some ?_))
    | ((with_reducible first | refine st_q ?_ | refine fr_q ?_ | refine st_res ?_); (try (conv => arg 1; simp [intss, hw])); (with_reducible refine ev_some ?_))
    | ((with_reducible refine st_if ?_); (try (conv => arg 1; simp [intss, hw])); (with_reducible refine at_mk ?_); with_reducible first | refine br_t ?_ | refine br_f ?_))
  (with_reducible refine st_if ?_)
  (try (conv => arg 1; simp [intss]))
  (with_reducible refine at_mk ?_)
  refine ⟨fun hb => ?_, fun hb => ?_⟩
  · have : left < wtSS xs := by simp at hb; simp [wtSS]; omega
    repeat' (first
      | (with_reducible first | refine st_seq ?_ | refine st_reg ?_ | refine st_block ?_ | refine st_nil ?_ | refine st_skip ?_ | refine st_ret ?_ | refine st_exit ?_ | refine fr_nil ?_ | refine k_seq_n ?_ | refine k_seq_r ?_ | refine k_seq_e ?_ | refine k_blk_n ?_ | refine k_blk_r ?_ | refine k_blk_s ?_ | refine k_blk_o rfl ?_ | refine k_fn_r ?_ | refine k_fn_n ?_ | refine k_lp_r ?_ | refine k_lp_e ?_)
      | ((with_reducible first | refine st_move ?_ | refine st_asg ?_ | refine st_c ?_ | refine fr_c ?_); (try (conv => arg 1; simp [intss])); (with_reducible refine at_mk ?_))
      | ((with_reducible first | refine st_g ?_ | refine fr_g ?_); (try (conv => arg 1; simp [intss])); (with_reducible refine at_mk ?_); with_reducible first | refine gd_tt ?_ | refine gd_ff ?_ | refine gd_tf ?_ | refine gd_ft ?_ | refine gd_no ?_)
      | ((with_reducible refine st_m rfl ?_); (try (conv => arg 1; simp [intss])); (with_reducible refine ev2_some ?_))
      | ((with_reducible refine fr_n rfl ?_); (try (conv => arg 1; simp [intss])); (with_reducible refine evn_some ?_))
      | ((with_reducible first | refine st_cv ?_ | refine fr_cv ?_); (try (conv => arg 1; simp [intss])); (with_reducible refine at_mk ?_); (with_reducible refine fn_mk ?_); (try (conv => arg 1; simp [intss])); (with_reducible refine at_mk ?_))
      | ((with_reducible refine fr_a ?_); (try (conv => arg 1; simp [intss])); (with_reducible refine at_mk ?_); (try (conv => arg 1; simp [intss])); (with_reducible refine at_mk ?_); refine ⟨?names, ?_⟩; (case names => (simp [appNames, ints, intss] <;> first | kernel_rfl | (refine ⟨?_, ?_⟩ <;> kernel_rfl))); (try (conv => arg 1; simp [intss])); (with_reducible refine ev2_some ?_))
      | ((with_reducible first | refine st_q ?_ | refine fr_q ?_ | refine st_res ?_); (try (conv => arg 1; simp [intss])); (with_reducible refine ev_some ?_))
      | ((with_reducible refine st_if ?_); (try (conv => arg 1; simp [intss])); (with_reducible refine at_mk ?_); with_reducible first | refine br_t ?_ | refine br_f ?_))
    rw [if_pos this]; exact .int _ _
  have hle : (xs.length : Int) ≤ left := by simp at hb; omega
  repeat' (first
    | (with_reducible first | refine st_seq ?_ | refine st_reg ?_ | refine st_block ?_ | refine st_nil ?_ | refine st_skip ?_ | refine st_ret ?_ | refine st_exit ?_ | refine fr_nil ?_ | refine k_seq_n ?_ | refine k_seq_r ?_ | refine k_seq_e ?_ | refine k_blk_n ?_ | refine k_blk_r ?_ | refine k_blk_s ?_ | refine k_blk_o rfl ?_ | refine k_fn_r ?_ | refine k_fn_n ?_ | refine k_lp_r ?_ | refine k_lp_e ?_)
    | ((with_reducible first | refine st_move ?_ | refine st_asg ?_ | refine st_c ?_ | refine fr_c ?_); (try (conv => arg 1; simp [intss])); (with_reducible refine at_mk ?_))
    | ((with_reducible first | refine st_g ?_ | refine fr_g ?_); (try (conv => arg 1; simp [intss])); (with_reducible refine at_mk ?_); with_reducible first | refine gd_tt ?_ | refine gd_ff ?_ | refine gd_tf ?_ | refine gd_ft ?_ | refine gd_no ?_)
    | ((with_reducible refine st_m rfl ?_); (try (conv => arg 1; simp [intss])); (with_reducible refine ev2_some ?_))
    | ((with_reducible refine fr_n rfl ?_); (try (conv => arg 1; simp [intss])); (with_reducible refine evn_some ?_))
    | ((with_reducible first | refine st_cv ?_ | refine fr_cv ?_); (try (conv => arg 1; simp [intss])); (with_reducible refine at_mk ?_); (with_reducible refine fn_mk ?_); (try (conv => arg 1; simp [intss])); (with_reducible refine at_mk ?_))
    | ((with_reducible refine fr_a ?_); (try (conv => arg 1; simp [intss])); (with_reducible refine at_mk ?_); (try (conv => arg 1; simp [intss])); (with_reducible refine at_mk ?_); refine ⟨?names, ?_⟩; (case names => (simp [appNames, ints, intss] <;> first | kernel_rfl | (refine ⟨?_, ?_⟩ <;> kernel_rfl))); (try (conv => arg 1; simp [intss])); (with_reducible refine ev2_some ?_))
    | ((with_reducible first | refine st_q ?_ | refine fr_q ?_ | refine st_res ?_); (try (conv => arg 1; simp [intss])); (with_reducible refine ev_some ?_))
    | ((with_reducible refine st_if ?_); (try (conv => arg 1; simp [intss])); (with_reducible refine at_mk ?_); with_reducible first | refine br_t ?_ | refine br_f ?_))
  refine st_loop (fun (i : Nat) σ h => i ≤ xs.length ∧ σ 0 = intss true xs ∧ σ 1 = .int .i64 (left - xs.length - psum xs i) ∧ σ 5 = .int .i64 i ∧ xs.length + psum xs i ≤ left) (fun i => xs.length - i) 0 ?init ?step
  case init =>
    simp [putA_get, envOf_0, opd, avc, avc1, psum_zero]
    exact hle
  case step =>
    rintro i σ h ⟨hi, h0, h1', h5, hs⟩
    repeat' (first
      | (with_reducible first | refine st_seq ?_ | refine st_reg ?_ | refine st_block ?_ | refine st_nil ?_ | refine st_skip ?_ | refine st_ret ?_ | refine st_exit ?_ | refine fr_nil ?_ | refine k_seq_n ?_ | refine k_seq_r ?_ | refine k_seq_e ?_ | refine k_blk_n ?_ | refine k_blk_r ?_ | refine k_blk_s ?_ | refine k_blk_o rfl ?_ | refine k_fn_r ?_ | refine k_fn_n ?_ | refine k_lp_r ?_ | refine k_lp_e ?_)
      | ((with_reducible first | refine st_move ?_ | refine st_asg ?_ | refine st_c ?_ | refine fr_c ?_); (try (conv => arg 1; simp [intss, h0, h5])); (with_reducible refine at_mk ?_))
      | ((with_reducible first | refine st_g ?_ | refine fr_g ?_); (try (conv => arg 1; simp [intss, h0, h5])); (with_reducible refine at_mk ?_); with_reducible first | refine gd_tt ?_ | refine gd_ff ?_ | refine gd_tf ?_ | refine gd_ft ?_ | refine gd_no ?_)
      | ((with_reducible refine st_m rfl ?_); (try (conv => arg 1; simp [intss, h0, h5])); (with_reducible refine ev2_some ?_))
      | ((with_reducible refine fr_n rfl ?_); (try (conv => arg 1; simp [intss, h0, h5])); (with_reducible refine evn_some ?_))
      | ((with_reducible first | refine st_cv ?_ | refine fr_cv ?_); (try (conv => arg 1; simp [intss, h0, h5])); (with_reducible refine at_mk ?_); (with_reducible refine fn_mk ?_); (try (conv => arg 1; simp [intss, h0, h5])); (with_reducible refine at_mk ?_))
      | ((with_reducible refine fr_a ?_); (try (conv => arg 1; simp [intss, h0, h5])); (with_reducible refine at_mk ?_); (try (conv => arg 1; simp [intss, h0, h5])); (with_reducible refine at_mk ?_); refine ⟨?names, ?_⟩; (case names => (simp [appNames, ints, intss] <;> first | kernel_rfl | (refine ⟨?_, ?_⟩ <;> kernel_rfl))); (try (conv => arg 1; simp [intss, h0, h5])); (with_reducible refine ev2_some ?_))
      | ((with_reducible first | refine st_q ?_ | refine fr_q ?_ | refine st_res ?_); (try (conv => arg 1; simp [intss, h0, h5])); (with_reducible refine ev_some ?_))
      | ((with_reducible refine st_if ?_); (try (conv => arg 1; simp [intss, h0, h5])); (with_reducible refine at_mk ?_); with_reducible first | refine br_t ?_ | refine br_f ?_))
    (with_reducible refine st_if ?_)
    (try (conv => arg 1; simp [intss]))
    (with_reducible refine at_mk ?_)
    refine ⟨fun hb => ?_, fun hb => ?_⟩
    · have hlt : i < xs.length := by simpa using hb
      have hx : xs[i]? = some (xs[i]) := by simp
      have hw2 : IntKind.i64.wrap (i + 1) = i + 1 := wrap_id (by omega) (by simp [maxLen] at hm; omega)
      repeat' (first
        | (with_reducible first | refine st_seq ?_ | refine st_reg ?_ | refine st_block ?_ | refine st_nil ?_ | refine st_skip ?_ | refine st_ret ?_ | refine st_exit ?_ | refine fr_nil ?_ | refine k_seq_n ?_ | refine k_seq_r ?_ | refine k_seq_e ?_ | refine k_blk_n ?_ | refine k_blk_r ?_ | refine k_blk_s ?_ | refine k_blk_o rfl ?_ | refine k_fn_r ?_ | refine k_fn_n ?_ | refine k_lp_r ?_ | refine k_lp_e ?_)
        | ((with_reducible first | refine st_move ?_ | refine st_asg ?_ | refine st_c ?_ | refine fr_c ?_); (try (conv => arg 1; simp [intss, h0, h1', h5, hx])); (with_reducible refine at_mk ?_))
        | ((with_reducible first | refine st_g ?_ | refine fr_g ?_); (try (conv => arg 1; simp [intss, h0, h1', h5, hx])); (with_reducible refine at_mk ?_); with_reducible first | refine gd_tt ?_ | refine gd_ff ?_ | refine gd_tf ?_ | refine gd_ft ?_ | refine gd_no ?_)
        | ((with_reducible refine st_m rfl ?_); (try (conv => arg 1; simp [intss, h0, h1', h5, hx])); (with_reducible refine ev2_some ?_))
        | ((with_reducible refine fr_n rfl ?_); (try (conv => arg 1; simp [intss, h0, h1', h5, hx])); (with_reducible refine evn_some ?_))
        | ((with_reducible first | refine st_cv ?_ | refine fr_cv ?_); (try (conv => arg 1; simp [intss, h0, h1', h5, hx])); (with_reducible refine at_mk ?_); (with_reducible refine fn_mk ?_); (try (conv => arg 1; simp [intss, h0, h1', h5, hx])); (with_reducible refine at_mk ?_))
        | ((with_reducible refine fr_a ?_); (try (conv => arg 1; simp [intss, h0, h1', h5, hx])); (with_reducible refine at_mk ?_); (try (conv => arg 1; simp [intss, h0, h1', h5, hx])); (with_reducible refine at_mk ?_); refine ⟨?names, ?_⟩; (case names => (simp [appNames, ints, intss] <;> first | kernel_rfl | (refine ⟨?_, ?_⟩ <;> kernel_rfl))); (try (conv => arg 1; simp [intss, h0, h1', h5, hx])); (with_reducible refine ev2_some ?_))
        | ((with_reducible first | refine st_q ?_ | refine fr_q ?_ | refine st_res ?_); (try (conv => arg 1; simp [intss, h0, h1', h5, hx])); (with_reducible refine ev_some ?_))
        | ((with_reducible refine st_if ?_); (try (conv => arg 1; simp [intss, h0, h1', h5, hx])); (with_reducible refine at_mk ?_); with_reducible first | refine br_t ?_ | refine br_f ?_))
      refine st_tree rfl (szIntS xs[i] _ (by omega) (by omega) (hm2 _ (List.getElem_mem hlt))) (.cons (dr_ints (by simp) _) (.cons (.int _ _) .nil)) ?_
      repeat' (first
        | (with_reducible first | refine st_seq ?_ | refine st_reg ?_ | refine st_block ?_ | refine st_nil ?_ | refine st_skip ?_ | refine st_ret ?_ | refine st_exit ?_ | refine fr_nil ?_ | refine k_seq_n ?_ | refine k_seq_r ?_ | refine k_seq_e ?_ | refine k_blk_n ?_ | refine k_blk_r ?_ | refine k_blk_s ?_ | refine k_blk_o rfl ?_ | refine k_fn_r ?_ | refine k_fn_n ?_ | refine k_lp_r ?_ | refine k_lp_e ?_)
        | ((with_reducible first | refine st_move ?_ | refine st_asg ?_ | refine st_c ?_ | refine fr_c ?_); (try (conv => arg 1; simp [h0])); (with_reducible refine at_mk ?_))
        | ((with_reducible first | refine st_g ?_ | refine fr_g ?_); (try (conv => arg 1; simp [h0])); (with_reducible refine at_mk ?_); with_reducible first | refine gd_tt ?_ | refine gd_ff ?_ | refine gd_tf ?_ | refine gd_ft ?_ | refine gd_no ?_)
        | ((with_reducible refine st_m rfl ?_); (try (conv => arg 1; simp [h0])); (with_reducible refine ev2_some ?_))
        | ((with_reducible refine fr_n rfl ?_); (try (conv => arg 1; simp [h0])); (with_reducible refine evn_some ?_))
        | ((with_reducible first | refine st_cv ?_ | refine fr_cv ?_); (try (conv => arg 1; simp [h0])); (with_reducible refine at_mk ?_); (with_reducible refine fn_mk ?_); (try (conv => arg 1; simp [h0])); (with_reducible refine at_mk ?_))
        | ((with_reducible refine fr_a ?_); (try (conv => arg 1; simp [h0])); (with_reducible refine at_mk ?_); (try (conv => arg 1; simp [h0])); (with_reducible refine at_mk ?_); refine ⟨?names, ?_⟩; (case names => (simp [appNames, ints, intss] <;> first | kernel_rfl | (refine ⟨?_, ?_⟩ <;> kernel_rfl))); (try (conv => arg 1; simp [h0])); (with_reducible refine ev2_some ?_))
        | ((with_reducible first | refine st_q ?_ | refine fr_q ?_ | refine st_res ?_); (try (conv => arg 1; simp [h0])); (with_reducible refine ev_some ?_))
        | ((with_reducible refine st_if ?_); (try (conv => arg 1; simp [h0])); (with_reducible refine at_mk ?_); with_reducible first | refine br_t ?_ | refine br_f ?_))
      (with_reducible refine st_if ?_)
      (try (conv => arg 1; simp [h0]))
      (with_reducible refine at_mk ?_)
      refine ⟨fun hb => ?_, fun hb => ?_⟩
      · have hlt2 : left < wtSS xs := by
          have a1 := psum_succ xs i hlt
          have a2 := psum_le xs (i + 1)
          simp only [wtSS]
          simp at hb
          split at hb <;> omega
        repeat' (first
          | (with_reducible first | refine st_seq ?_ | refine st_reg ?_ | refine st_block ?_ | refine st_nil ?_ | refine st_skip ?_ | refine st_ret ?_ | refine st_exit ?_ | refine fr_nil ?_ | refine k_seq_n ?_ | refine k_seq_r ?_ | refine k_seq_e ?_ | refine k_blk_n ?_ | refine k_blk_r ?_ | refine k_blk_s ?_ | refine k_blk_o rfl ?_ | refine k_fn_r ?_ | refine k_fn_n ?_ | refine k_lp_r ?_ | refine k_lp_e ?_)
          | ((with_reducible first | refine st_move ?_ | refine st_asg ?_ | refine st_c ?_ | refine fr_c ?_); (try (conv => arg 1; simp [h0])); (with_reducible refine at_mk ?_))
          | ((with_reducible first | refine st_g ?_ | refine fr_g ?_); (try (conv => arg 1; simp [h0])); (with_reducible refine at_mk ?_); with_reducible first | refine gd_tt ?_ | refine gd_ff ?_ | refine gd_tf ?_ | refine gd_ft ?_ | refine gd_no ?_)
          | ((with_reducible refine st_m rfl ?_); (try (conv => arg 1; simp [h0])); (with_reducible refine ev2_some ?_))
          | ((with_reducible refine fr_n rfl ?_); (try (conv => arg 1; simp [h0])); (with_reducible refine evn_some ?_))
          | ((with_reducible first | refine st_cv ?_ | refine fr_cv ?_); (try (conv => arg 1; simp [h0])); (with_reducible refine at_mk ?_); (with_reducible refine fn_mk ?_); (try (conv => arg 1; simp [h0])); (with_reducible refine at_mk ?_))
          | ((with_reducible refine fr_a ?_); (try (conv => arg 1; simp [h0])); (with_reducible refine at_mk ?_); (try (conv => arg 1; simp [h0])); (with_reducible refine at_mk ?_); refine ⟨?names, ?_⟩; (case names => (simp [appNames, ints, intss] <;> first | kernel_rfl | (refine ⟨?_, ?_⟩ <;> kernel_rfl))); (try (conv => arg 1; simp [h0])); (with_reducible refine ev2_some ?_))
          | ((with_reducible first | refine st_q ?_ | refine fr_q ?_ | refine st_res ?_); (try (conv => arg 1; simp [h0])); (with_reducible refine ev_some ?_))
          | ((with_reducible refine st_if ?_); (try (conv => arg 1; simp [h0])); (with_reducible refine at_mk ?_); with_reducible first | refine br_t ?_ | refine br_f ?_))
        rw [if_pos hlt2]; exact .int _ _
      · have hge : ¬ (left - xs.length - psum xs i < xs[i].length) := by
          intro hh
          rw [if_pos hh] at hb
          simp at hb
        repeat' (first
          | (with_reducible first | refine st_seq ?_ | refine st_reg ?_ | refine st_block ?_ | refine st_nil ?_ | refine st_skip ?_ | refine st_ret ?_ | refine st_exit ?_ | refine fr_nil ?_ | refine k_seq_n ?_ | refine k_seq_r ?_ | refine k_seq_e ?_ | refine k_blk_n ?_ | refine k_blk_r ?_ | refine k_blk_s ?_ | refine k_blk_o rfl ?_ | refine k_fn_r ?_ | refine k_fn_n ?_ | refine k_lp_r ?_ | refine k_lp_e ?_)
          | ((with_reducible first | refine st_move ?_ | refine st_asg ?_ | refine st_c ?_ | refine fr_c ?_); (try (conv => arg 1; simp [h0, h5, hw2])); (with_reducible refine at_mk ?_))
          | ((with_reducible first | refine st_g ?_ | refine fr_g ?_); (try (conv => arg 1; simp [h0, h5, hw2])); (with_reducible refine at_mk ?_); with_reducible first | refine gd_tt ?_ | refine gd_ff ?_ | refine gd_tf ?_ | refine gd_ft ?_ | refine gd_no ?_)
          | ((with_reducible refine st_m rfl ?_); (try (conv => arg 1; simp [h0, h5, hw2])); (with_reducible refine ev2_some ?_))
          | ((with_reducible refine fr_n rfl ?_); (try (conv => arg 1; simp [h0, h5, hw2])); (with_reducible refine evn_some ?_))
          | ((with_reducible first | refine st_cv ?_ | refine fr_cv ?_); (try (conv => arg 1; simp [h0, h5, hw2])); (with_reducible refine at_mk ?_); (with_reducible refine fn_mk ?_); (try (conv => arg 1; simp [h0, h5, hw2])); (with_reducible refine at_mk ?_))
          | ((with_reducible refine fr_a ?_); (try (conv => arg 1; simp [h0, h5, hw2])); (with_reducible refine at_mk ?_); (try (conv => arg 1; simp [h0, h5, hw2])); (with_reducible refine at_mk ?_); refine ⟨?names, ?_⟩; (case names => (simp [appNames, ints, intss] <;> first | kernel_rfl | (refine ⟨?_, ?_⟩ <;> kernel_rfl))); (try (conv => arg 1; simp [h0, h5, hw2])); (with_reducible refine ev2_some ?_))
          | ((with_reducible first | refine st_q ?_ | refine fr_q ?_ | refine st_res ?_); (try (conv => arg 1; simp [h0, h5, hw2])); (with_reducible refine ev_some ?_))
          | ((with_reducible refine st_if ?_); (try (conv => arg 1; simp [h0, h5, hw2])); (with_reducible refine at_mk ?_); with_reducible first | refine br_t ?_ | refine br_f ?_))
        refine k_lp_n (i + 1) (by omega) ⟨by omega, by simp [putA_get, putA_none, h0], ?_, by simp [putA_get, putA_none, h5], ?_⟩
        · rw [psum_succ xs i hlt]
          simp [putA_get, if_neg hge]
          omega
        · rw [psum_succ xs i hlt]
          omega
    · have hge : i = xs.length := by simp at hb; omega
      subst hge
      have : ¬ left < wtSS xs := by simp only [wtSS]; omega
      repeat' (first
        | (with_reducible first | refine st_seq ?_ | refine st_reg ?_ | refine st_block ?_ | refine st_nil ?_ | refine st_skip ?_ | refine st_ret ?_ | refine st_exit ?_ | refine fr_nil ?_ | refine k_seq_n ?_ | refine k_seq_r ?_ | refine k_seq_e ?_ | refine k_blk_n ?_ | refine k_blk_r ?_ | refine k_blk_s ?_ | refine k_blk_o rfl ?_ | refine k_fn_r ?_ | refine k_fn_n ?_ | refine k_lp_r ?_ | refine k_lp_e ?_)
        | ((with_reducible first | refine st_move ?_ | refine st_asg ?_ | refine st_c ?_ | refine fr_c ?_); (try (conv => arg 1; simp [h0, h1'])); (with_reducible refine at_mk ?_))
        | ((with_reducible first | refine st_g ?_ | refine fr_g ?_); (try (conv => arg 1; simp [h0, h1'])); (with_reducible refine at_mk ?_); with_reducible first | refine gd_tt ?_ | refine gd_ff ?_ | refine gd_tf ?_ | refine gd_ft ?_ | refine gd_no ?_)
        | ((with_reducible refine st_m rfl ?_); (try (conv => arg 1; simp [h0, h1'])); (with_reducible refine ev2_some ?_))
        | ((with_reducible refine fr_n rfl ?_); (try (conv => arg 1; simp [h0, h1'])); (with_reducible refine evn_some ?_))
        | ((with_reducible first | refine st_cv ?_ | refine fr_cv ?_); (try (conv => arg 1; simp [h0, h1'])); (with_reducible refine at_mk ?_); (with_reducible refine fn_mk ?_); (try (conv => arg 1; simp [h0, h1'])); (with_reducible refine at_mk ?_))
        | ((with_reducible refine fr_a ?_); (try (conv => arg 1; simp [h0, h1'])); (with_reducible refine at_mk ?_); (try (conv => arg 1; simp [h0, h1'])); (with_reducible refine at_mk ?_); refine ⟨?names, ?_⟩; (case names => (simp [appNames, ints, intss] <;> first | kernel_rfl | (refine ⟨?_, ?_⟩ <;> kernel_rfl))); (try (conv => arg 1; simp [h0, h1'])); (with_reducible refine ev2_some ?_))
        | ((with_reducible first | refine st_q ?_ | refine fr_q ?_ | refine st_res ?_); (try (conv => arg 1; simp [h0, h1'])); (with_reducible refine ev_some ?_))
        | ((with_reducible refine st_if ?_); (try (conv => arg 1; simp [h0, h1'])); (with_reducible refine at_mk ?_); with_reducible first | refine br_t ?_ | refine br_f ?_))
      rw [if_neg this]
      have e : left - xs.length - (psum xs xs.length : Nat) = left - (wtSS xs : Nat) := by simp only [wtSS]; omega
      simp only [resV]
      rw [e]
      exact .int _ _

theorem eqIntSS (xs : List (List Int)) (hl : xs.length ≤ 2 ^ 62) (hl2 : ∀ x ∈ xs, x.length ≤ 2 ^ 62) : Pure Try.prog 51 [intss true xs, intss true xs] (.bool true) := by
  intro T
  refine enter mixed MU2 Try.func51 rfl (by kernel_rfl) rfl ?_
  repeat' (first
    | (with_reducible first | refine st_seq ?_ | refine st_reg ?_ | refine st_block ?_ | refine st_nil ?_ | refine st_skip ?_ | refine st_ret ?_ | refine st_exit ?_ | refine fr_nil ?_ | refine k_seq_n ?_ | refine k_seq_r ?_ | refine k_seq_e ?_ | refine k_blk_n ?_ | refine k_blk_r ?_ | refine k_blk_s ?_ | refine k_blk_o rfl ?_ | refine k_fn_r ?_ | refine k_fn_n ?_ | refine k_lp_r ?_ | refine k_lp_e ?_)
    | ((with_reducible first | refine st_move ?_ | refine st_asg ?_ | refine st_c ?_ | refine fr_c ?_); (try (conv => arg 1; simp [intss])); (with_reducible refine at_mk ?_))
    | ((with_reducible first | refine st_g ?_ | refine fr_g ?_); (try (conv => arg 1; simp [intss])); (with_reducible refine at_mk ?_); with_reducible first | refine gd_tt ?_ | refine gd_ff ?_ | refine gd_tf ?_ | refine gd_ft ?_ | refine gd_no ?_)
    | ((with_reducible refine st_m rfl ?_); (try (conv => arg 1; simp [intss])); (with_reducible refine ev2_some ?_))
    | ((with_reducible refine fr_n rfl ?_); (try (conv => arg 1; simp [intss])); (with_reducible refine evn_some ?_))
    | ((with_reducible first | refine st_cv ?_ | refine fr_cv ?_); (try (conv => arg 1; simp [intss])); (with_reducible refine at_mk ?_); (with_reducible refine fn_mk ?_); (try (conv => arg 1; simp [intss])); (with_reducible refine at_mk ?_))
    | ((with_reducible refine fr_a ?_); (try (conv => arg 1; simp [intss])); (with_reducible refine at_mk ?_); (try (conv => arg 1; simp [intss])); (with_reducible refine at_mk ?_); refine ⟨?names, ?_⟩; (case names => (simp [appNames, ints, intss] <;> first | kernel_rfl | (refine ⟨?_, ?_⟩ <;> kernel_rfl))); (try (conv => arg 1; simp [intss])); (with_reducible refine ev2_some ?_))
    | ((with_reducible first | refine st_q ?_ | refine fr_q ?_ | refine st_res ?_); (try (conv => arg 1; simp [intss])); (with_reducible refine ev_some ?_))
    | ((with_reducible refine st_if ?_); (try (conv => arg 1; simp [intss])); (with_reducible refine at_mk ?_); with_reducible first | refine br_t ?_ | refine br_f ?_))
  repeat' (first
    | (with_reducible first | refine st_seq ?_ | refine st_reg ?_ | refine st_block ?_ | refine st_nil ?_ | refine st_skip ?_ | refine st_ret ?_ | refine st_exit ?_ | refine fr_nil ?_ | refine k_seq_n ?_ | refine k_seq_r ?_ | refine k_seq_e ?_ | refine k_blk_n ?_ | refine k_blk_r ?_ | refine k_blk_s ?_ | refine k_blk_o rfl ?_ | refine k_fn_r ?_ | refine k_fn_n ?_ | refine k_lp_r ?_ | refine k_lp_e ?_)
    | ((with_reducible first | refine st_move ?_ | refine st_asg ?_ | refine st_c ?_ | refine fr_c ?_); (try (conv => arg 1; simp [intss])); (with_reducible refine at_mk ?_))
    | ((with_reducible first | refine st_g ?_ | refine fr_g ?_); (try (conv => arg 1; simp [intss])); (with_reducible refine at_mk ?_); with_reducible first | refine gd_tt ?_ | refine gd_ff ?_ | refine gd_tf ?_ | refine gd_ft ?_ | refine gd_no ?_)
    | ((with_reducible refine st_m rfl ?_); (try (conv => arg 1; simp [intss])); (with_reducible refine ev2_some ?_))
    | ((with_reducible refine fr_n rfl ?_); (try (conv => arg 1; simp [intss])); (with_reducible refine evn_some ?_))
    | ((with_reducible first | refine st_cv ?_ | refine fr_cv ?_); (try (conv => arg 1; simp [intss])); (with_reducible refine at_mk ?_); (with_reducible refine fn_mk ?_); (try (conv => arg 1; simp [intss])); (with_reducible refine at_mk ?_))
    | ((with_reducible refine fr_a ?_); (try (conv => arg 1; simp [intss])); (with_reducible refine at_mk ?_); (try (conv => arg 1; simp [intss])); (with_reducible refine at_mk ?_); refine ⟨?names, ?_⟩; (case names => (simp [appNames, ints, intss] <;> first | kernel_rfl | (refine ⟨?_, ?_⟩ <;> kernel_rfl))); (try (conv => arg 1; simp [intss])); (with_reducible refine ev2_some ?_))
    | ((with_reducible first | refine st_q ?_ | refine fr_q ?_ | refine st_res ?_); (try (conv => arg 1; simp [intss])); (with_reducible refine ev_some ?_))
    | ((with_reducible refine st_if ?_); (try (conv => arg 1; simp [intss])); (with_reducible refine at_mk ?_); with_reducible first | refine br_t ?_ | refine br_f ?_))
  refine st_loop (fun (i : Nat) σ h => i ≤ xs.length ∧ σ 0 = intss true xs ∧ σ 1 = intss true xs ∧ σ 5 = .int .i64 i) (fun i => xs.length - i) 0 ?init ?step
  case init =>
    simp [putA_get, envOf_0, envOf_1]
  case step =>
    rintro i σ h ⟨hi, h0, h1, h5⟩
    repeat' (first
      | (with_reducible first | refine st_seq ?_ | refine st_reg ?_ | refine st_block ?_ | refine st_nil ?_ | refine st_skip ?_ | refine st_ret ?_ | refine st_exit ?_ | refine fr_nil ?_ | refine k_seq_n ?_ | refine k_seq_r ?_ | refine k_seq_e ?_ | refine k_blk_n ?_ | refine k_blk_r ?_ | refine k_blk_s ?_ | refine k_blk_o rfl ?_ | refine k_fn_r ?_ | refine k_fn_n ?_ | refine k_lp_r ?_ | refine k_lp_e ?_)
      | ((with_reducible first | refine st_move ?_ | refine st_asg ?_ | refine st_c ?_ | refine fr_c ?_); (try (conv => arg 1; simp [intss, h0, h5])); (with_reducible refine at_mk ?_))
      | ((with_reducible first | refine st_g ?_ | refine fr_g ?_); (try (conv => arg 1; simp [intss, h0, h5])); (with_reducible refine at_mk ?_); with_reducible first | refine gd_tt ?_ | refine gd_ff ?_ | refine gd_tf ?_ | refine gd_ft ?_ | refine gd_no ?_)
      | ((with_reducible refine st_m rfl ?_); (try (conv => arg 1; simp [intss, h0, h5])); (with_reducible refine ev2_some ?_))
      | ((with_reducible refine fr_n rfl ?_); (try (conv => arg 1; simp [intss, h0, h5])); (with_reducible refine evn_some ?_))
      | ((with_reducible first | refine st_cv ?_ | refine fr_cv ?_); (try (conv => arg 1; simp [intss, h0, h5])); (with_reducible refine at_mk ?_); (with_reducible refine fn_mk ?_); (try (conv => arg 1; simp [intss, h0, h5])); (with_reducible refine at_mk ?_))
      | ((with_reducible refine fr_a ?_); (try (conv => arg 1; simp [intss, h0, h5])); (with_reducible refine at_mk ?_); (try (conv => arg 1; simp [intss, h0, h5])); (with_reducible refine at_mk ?_); refine ⟨?names, ?_⟩; (case names => (simp [appNames, ints, intss] <;> first | kernel_rfl | (refine ⟨?_, ?_⟩ <;> kernel_rfl))); (try (conv => arg 1; simp [intss, h0, h5])); (with_reducible refine ev2_some ?_))
      | ((with_reducible first | refine st_q ?_ | refine fr_q ?_ | refine st_res ?_); (try (conv => arg 1; simp [intss, h0, h5])); (with_reducible refine ev_some ?_))
      | ((with_reducible refine st_if ?_); (try (conv => arg 1; simp [intss, h0, h5])); (with_reducible refine at_mk ?_); with_reducible first | refine br_t ?_ | refine br_f ?_))
    (with_reducible refine st_if ?_)
    (try (conv => arg 1; simp [intss]))
    (with_reducible refine at_mk ?_)
    refine ⟨fun hb => ?_, fun hb => ?_⟩
    · have hlt : i < xs.length := by simpa using hb
      have hx : xs[i]? = some (xs[i]) := by simp
      have hw : IntKind.i64.wrap (i + 1) = i + 1 := wrap_id (by omega) (by omega)
      repeat' (first
        | (with_reducible first | refine st_seq ?_ | refine st_reg ?_ | refine st_block ?_ | refine st_nil ?_ | refine st_skip ?_ | refine st_ret ?_ | refine st_exit ?_ | refine fr_nil ?_ | refine k_seq_n ?_ | refine k_seq_r ?_ | refine k_seq_e ?_ | refine k_blk_n ?_ | refine k_blk_r ?_ | refine k_blk_s ?_ | refine k_blk_o rfl ?_ | refine k_fn_r ?_ | refine k_fn_n ?_ | refine k_lp_r ?_ | refine k_lp_e ?_)
        | ((with_reducible first | refine st_move ?_ | refine st_asg ?_ | refine st_c ?_ | refine fr_c ?_); (try (conv => arg 1; simp [intss])); (with_reducible refine at_mk ?_))
        | ((with_reducible first | refine st_g ?_ | refine fr_g ?_); (try (conv => arg 1; simp [intss])); (with_reducible refine at_mk ?_); with_reducible first | refine gd_tt ?_ | refine gd_ff ?_ | refine gd_tf ?_ | refine gd_ft ?_ | refine gd_no ?_)
        | ((with_reducible refine st_m rfl ?_); (try (conv => arg 1; simp [intss])); (with_reducible refine ev2_some ?_))
        | ((with_reducible refine fr_n rfl ?_); (try (conv => arg 1; simp [intss])); (with_reducible refine evn_some ?_))
        | ((with_reducible first | refine st_cv ?_ | refine fr_cv ?_); (try (conv => arg 1; simp [intss])); (with_reducible refine at_mk ?_); (with_reducible refine fn_mk ?_); (try (conv => arg 1; simp [intss])); (with_reducible refine at_mk ?_))
        | ((with_reducible refine fr_a ?_); (try (conv => arg 1; simp [intss])); (with_reducible refine at_mk ?_); (try (conv => arg 1; simp [intss])); (with_reducible refine at_mk ?_); refine ⟨?names, ?_⟩; (case names => (simp [appNames, ints, intss] <;> first | kernel_rfl | (refine ⟨?_, ?_⟩ <;> kernel_rfl))); (try (conv => arg 1; simp [intss])); (with_reducible refine ev2_some ?_))
        | ((with_reducible first | refine st_q ?_ | refine fr_q ?_ | refine st_res ?_); (try (conv => arg 1; simp [intss])); (with_reducible refine ev_some ?_))
        | ((with_reducible refine st_if ?_); (try (conv => arg 1; simp [intss])); (with_reducible refine at_mk ?_); with_reducible first | refine br_t ?_ | refine br_f ?_))
      refine st_draw 10 (fun _ => false) (by kernel_rfl) ?_
      simp only [List.take_succ_cons, List.take_zero, List.drop_succ_cons, List.drop_zero, List.take_nil, List.drop_nil]
      repeat' (first
        | (with_reducible first | refine st_seq ?_ | refine st_reg ?_ | refine st_block ?_ | refine st_nil ?_ | refine st_skip ?_ | refine st_ret ?_ | refine st_exit ?_ | refine fr_nil ?_ | refine k_seq_n ?_ | refine k_seq_r ?_ | refine k_seq_e ?_ | refine k_blk_n ?_ | refine k_blk_r ?_ | refine k_blk_s ?_ | refine k_blk_o rfl ?_ | refine k_fn_r ?_ | refine k_fn_n ?_ | refine k_lp_r ?_ | refine k_lp_e ?_)
        | ((with_reducible first | refine st_move ?_ | refine st_asg ?_ | refine st_c ?_ | refine fr_c ?_); (try (conv => arg 1; simp [intss, h0, h1, h5, hx])); (with_reducible refine at_mk ?_))
        | ((with_reducible first | refine st_g ?_ | refine fr_g ?_); (try (conv => arg 1; simp [intss, h0, h1, h5, hx])); (with_reducible refine at_mk ?_); with_reducible first | refine gd_tt ?_ | refine gd_ff ?_ | refine gd_tf ?_ | refine gd_ft ?_ | refine gd_no ?_)
        | ((with_reducible refine st_m rfl ?_); (try (conv => arg 1; simp [intss, h0, h1, h5, hx])); (with_reducible refine ev2_some ?_))
        | ((with_reducible refine fr_n rfl ?_); (try (conv => arg 1; simp [intss, h0, h1, h5, hx])); (with_reducible refine evn_some ?_))
        | ((with_reducible first | refine st_cv ?_ | refine fr_cv ?_); (try (conv => arg 1; simp [intss, h0, h1, h5, hx])); (with_reducible refine at_mk ?_); (with_reducible refine fn_mk ?_); (try (conv => arg 1; simp [intss, h0, h1, h5, hx])); (with_reducible refine at_mk ?_))
        | ((with_reducible refine fr_a ?_); (try (conv => arg 1; simp [intss, h0, h1, h5, hx])); (with_reducible refine at_mk ?_); (try (conv => arg 1; simp [intss, h0, h1, h5, hx])); (with_reducible refine at_mk ?_); refine ⟨?names, ?_⟩; (case names => (simp [appNames, ints, intss] <;> first | kernel_rfl | (refine ⟨?_, ?_⟩ <;> kernel_rfl))); (try (conv => arg 1; simp [intss, h0, h1, h5, hx])); (with_reducible refine ev2_some ?_))
        | ((with_reducible first | refine st_q ?_ | refine fr_q ?_ | refine st_res ?_); (try (conv => arg 1; simp [intss, h0, h1, h5, hx])); (with_reducible refine ev_some ?_))
        | ((with_reducible refine st_if ?_); (try (conv => arg 1; simp [intss, h0, h1, h5, hx])); (with_reducible refine at_mk ?_); with_reducible first | refine br_t ?_ | refine br_f ?_))
      refine treeW_pure (eqIntS xs[i] (hl2 _ (List.getElem_mem hlt))) (.cons (dr_ints (by simp) _) (.cons (dr_ints (by simp) _) .nil)) ?_
      repeat' (first
        | (with_reducible first | refine st_seq ?_ | refine st_reg ?_ | refine st_block ?_ | refine st_nil ?_ | refine st_skip ?_ | refine st_ret ?_ | refine st_exit ?_ | refine fr_nil ?_ | refine k_seq_n ?_ | refine k_seq_r ?_ | refine k_seq_e ?_ | refine k_blk_n ?_ | refine k_blk_r ?_ | refine k_blk_s ?_ | refine k_blk_o rfl ?_ | refine k_fn_r ?_ | refine k_fn_n ?_ | refine k_lp_r ?_ | refine k_lp_e ?_)
        | ((with_reducible first | refine st_move ?_ | refine st_asg ?_ | refine st_c ?_ | refine fr_c ?_); (try (conv => arg 1; simp [h0])); (with_reducible refine at_mk ?_))
        | ((with_reducible first | refine st_g ?_ | refine fr_g ?_); (try (conv => arg 1; simp [h0])); (with_reducible refine at_mk ?_); with_reducible first | refine gd_tt ?_ | refine gd_ff ?_ | refine gd_tf ?_ | refine gd_ft ?_ | refine gd_no ?_)
        | ((with_reducible refine st_m rfl ?_); (try (conv => arg 1; simp [h0])); (with_reducible refine ev2_some ?_))
        | ((with_reducible refine fr_n rfl ?_); (try (conv => arg 1; simp [h0])); (with_reducible refine evn_some ?_))
        | ((with_reducible first | refine st_cv ?_ | refine fr_cv ?_); (try (conv => arg 1; simp [h0])); (with_reducible refine at_mk ?_); (with_reducible refine fn_mk ?_); (try (conv => arg 1; simp [h0])); (with_reducible refine at_mk ?_))
        | ((with_reducible refine fr_a ?_); (try (conv => arg 1; simp [h0])); (with_reducible refine at_mk ?_); (try (conv => arg 1; simp [h0])); (with_reducible refine at_mk ?_); refine ⟨?names, ?_⟩; (case names => (simp [appNames, ints, intss] <;> first | kernel_rfl | (refine ⟨?_, ?_⟩ <;> kernel_rfl))); (try (conv => arg 1; simp [h0])); (with_reducible refine ev2_some ?_))
        | ((with_reducible first | refine st_q ?_ | refine fr_q ?_ | refine st_res ?_); (try (conv => arg 1; simp [h0])); (with_reducible refine ev_some ?_))
        | ((with_reducible refine st_if ?_); (try (conv => arg 1; simp [h0])); (with_reducible refine at_mk ?_); with_reducible first | refine br_t ?_ | refine br_f ?_))
      repeat' (first
        | (with_reducible first | refine st_seq ?_ | refine st_reg ?_ | refine st_block ?_ | refine st_nil ?_ | refine st_skip ?_ | refine st_ret ?_ | refine st_exit ?_ | refine fr_nil ?_ | refine k_seq_n ?_ | refine k_seq_r ?_ | refine k_seq_e ?_ | refine k_blk_n ?_ | refine k_blk_r ?_ | refine k_blk_s ?_ | refine k_blk_o rfl ?_ | refine k_fn_r ?_ | refine k_fn_n ?_ | refine k_lp_r ?_ | refine k_lp_e ?_)
        | ((with_reducible first | refine st_move ?_ | refine st_asg ?_ | refine st_c ?_ | refine fr_c ?_); (try (conv => arg 1; simp [h5, hw])); (with_reducible refine at_mk ?_))
        | ((with_reducible first | refine st_g ?_ | refine fr_g ?_); (try (conv => arg 1; simp [h5, hw])); (with_reducible refine at_mk ?_); with_reducible first | refine gd_tt ?_ | refine gd_ff ?_ | refine gd_tf ?_ | refine gd_ft ?_ | refine gd_no ?_)
        | ((with_reducible refine st_m rfl ?_); (try (conv => arg 1; simp [h5, hw])); (with_reducible refine ev2_some ?_))
        | ((with_reducible refine fr_n rfl ?_); (try (conv => arg 1; simp [h5, hw])); (with_reducible refine evn_some ?_))
        | ((with_reducible first | refine st_cv ?_ | refine fr_cv ?_); (try (conv => arg 1; simp [h5, hw])); (with_reducible refine at_mk ?_); (with_reducible refine fn_mk ?_); (try (conv => arg 1; simp [h5, hw])); (with_reducible refine at_mk ?_))
        | ((with_reducible refine fr_a ?_); (try (conv => arg 1; simp [h5, hw])); (with_reducible refine at_mk ?_); (try (conv => arg 1; simp [h5, hw])); (with_reducible refine at_mk ?_); refine ⟨?names, ?_⟩; (case names => (simp [appNames, ints, intss] <;> first | kernel_rfl | (refine ⟨?_, ?_⟩ <;> kernel_rfl))); (try (conv => arg 1; simp [h5, hw])); (with_reducible refine ev2_some ?_))
        | ((with_reducible first | refine st_q ?_ | refine fr_q ?_ | refine st_res ?_); (try (conv => arg 1; simp [h5, hw])); (with_reducible refine ev_some ?_))
        | ((with_reducible refine st_if ?_); (try (conv => arg 1; simp [h5, hw])); (with_reducible refine at_mk ?_); with_reducible first | refine br_t ?_ | refine br_f ?_))
      refine k_lp_n (i + 1) (by omega) ⟨by omega, by simp [putA_get, putA_none, h0], by simp [putA_get, putA_none, h1], by simp [putA_get, putA_none, h5]⟩
    · skip
      repeat' (first
        | (with_reducible first | refine st_seq ?_ | refine st_reg ?_ | refine st_block ?_ | refine st_nil ?_ | refine st_skip ?_ | refine st_ret ?_ | refine st_exit ?_ | refine fr_nil ?_ | refine k_seq_n ?_ | refine k_seq_r ?_ | refine k_seq_e ?_ | refine k_blk_n ?_ | refine k_blk_r ?_ | refine k_blk_s ?_ | refine k_blk_o rfl ?_ | refine k_fn_r ?_ | refine k_fn_n ?_ | refine k_lp_r ?_ | refine k_lp_e ?_)
        | ((with_reducible first | refine st_move ?_ | refine st_asg ?_ | refine st_c ?_ | refine fr_c ?_); (try (conv => arg 1; simp [ints])); (with_reducible refine at_mk ?_))
        | ((with_reducible first | refine st_g ?_ | refine fr_g ?_); (try (conv => arg 1; simp [ints])); (with_reducible refine at_mk ?_); with_reducible first | refine gd_tt ?_ | refine gd_ff ?_ | refine gd_tf ?_ | refine gd_ft ?_ | refine gd_no ?_)
        | ((with_reducible refine st_m rfl ?_); (try (conv => arg 1; simp [ints])); (with_reducible refine ev2_some ?_))
        | ((with_reducible refine fr_n rfl ?_); (try (conv => arg 1; simp [ints])); (with_reducible refine evn_some ?_))
        | ((with_reducible first | refine st_cv ?_ | refine fr_cv ?_); (try (conv => arg 1; simp [ints])); (with_reducible refine at_mk ?_); (with_reducible refine fn_mk ?_); (try (conv => arg 1; simp [ints])); (with_reducible refine at_mk ?_))
        | ((with_reducible refine fr_a ?_); (try (conv => arg 1; simp [ints])); (with_reducible refine at_mk ?_); (try (conv => arg 1; simp [ints])); (with_reducible refine at_mk ?_); refine ⟨?names, ?_⟩; (case names => (simp [appNames, ints, intss] <;> first | kernel_rfl | (refine ⟨?_, ?_⟩ <;> kernel_rfl))); (try (conv => arg 1; simp [ints])); (with_reducible refine ev2_some ?_))
        | ((with_reducible first | refine st_q ?_ | refine fr_q ?_ | refine st_res ?_); (try (conv => arg 1; simp [ints])); (with_reducible refine ev_some ?_))
        | ((with_reducible refine st_if ?_); (try (conv => arg 1; simp [ints])); (with_reducible refine at_mk ?_); with_reducible first | refine br_t ?_ | refine br_f ?_))
      exact .bool true

theorem own_one {rows : Nm → Option Row} {c : Bool} {v t : AV} {ns : List Nm} (h : Own rows c [v] [t] ns) : v.one = true ∧ v.stored = true ∧ v.cells = [v] := by
  cases h <;> exact ⟨rfl, rfl, rfl⟩
theorem ownV_ints {rows : Nm → Option Row} {c : Bool} {v : AV} {xs : List Int} {ns : List Nm} (h : OwnV rows c v (ints c xs) ns) : Own rows c [v] [ints c xs] ns := by
  cases h with
  | one h => exact h
theorem ownV_intss {rows : Nm → Option Row} {c : Bool} {v : AV} {xs : List (List Int)} {ns : List Nm} (h : OwnV rows c v (intss c xs) ns) : Own rows c [v] [intss c xs] ns := by
  cases h with
  | one h => exact h

theorem flat1 {α : Type} : ∀ l : List α, (l.map fun v => [v]).flatten = l
  | [] => rfl
  | a :: l => by simp [flat1 l]

/-- Rows of slices, the first 'i' of them there already. -/
theorem toIntSS (xs : List (List Int)) (hl : xs.length ≤ 2 ^ 20) (hl2 : ∀ x ∈ xs, x.length ≤ 2 ^ 20) : Fresh Try.prog 49 [intss true xs] (fun c => intss c xs) := by
  intro T
  have hln : (xs.length : Int) ≤ 4294967296 := by omega
  refine enter mixed MU2 Try.func49 rfl (by kernel_rfl) rfl ?_
  repeat' (first
    | (with_reducible first | refine st_seq ?_ | refine st_reg ?_ | refine st_block ?_ | refine st_nil ?_ | refine st_skip ?_ | refine st_ret ?_ | refine st_exit ?_ | refine fr_nil ?_ | refine k_seq_n ?_ | refine k_seq_r ?_ | refine k_seq_e ?_ | refine k_blk_n ?_ | refine k_blk_r ?_ | refine k_blk_s ?_ | refine k_blk_o rfl ?_ | refine k_fn_r ?_ | refine k_fn_n ?_ | refine k_lp_r ?_ | refine k_lp_e ?_)
    | ((with_reducible first | refine st_move ?_ | refine st_asg ?_ | refine st_c ?_ | refine fr_c ?_); (try (conv => arg 1; simp [intss, hln])); (with_reducible refine at_mk ?_))
    | ((with_reducible first | refine st_g ?_ | refine fr_g ?_); (try (conv => arg 1; simp [intss, hln])); (with_reducible refine at_mk ?_); with_reducible first | refine gd_tt ?_ | refine gd_ff ?_ | refine gd_tf ?_ | refine gd_ft ?_ | refine gd_no ?_)
    | ((with_reducible refine st_m rfl ?_); (try (conv => arg 1; simp [intss, hln])); (with_reducible refine ev2_some ?_))
    | ((with_reducible refine fr_n rfl ?_); (try (conv => arg 1; simp [intss, hln])); (with_reducible refine evn_some ?_))
    | ((with_reducible first | refine st_cv ?_ | refine fr_cv ?_); (try (conv => arg 1; simp [intss, hln])); (with_reducible refine at_mk ?_); (with_reducible refine fn_mk ?_); (try (conv => arg 1; simp [intss, hln])); (with_reducible refine at_mk ?_))
    | ((with_reducible refine fr_a ?_); (try (conv => arg 1; simp [intss, hln])); (with_reducible refine at_mk ?_); (try (conv => arg 1; simp [intss, hln])); (with_reducible refine at_mk ?_); refine ⟨?names, ?_⟩; (case names => (simp [appNames, ints, intss] <;> first | kernel_rfl | (refine ⟨?_, ?_⟩ <;> kernel_rfl))); (try (conv => arg 1; simp [intss, hln])); (with_reducible refine ev2_some ?_))
    | ((with_reducible first | refine st_q ?_ | refine fr_q ?_ | refine st_res ?_); (try (conv => arg 1; simp [intss, hln])); (with_reducible refine ev_some ?_))
    | ((with_reducible refine st_if ?_); (try (conv => arg 1; simp [intss, hln])); (with_reducible refine at_mk ?_); with_reducible first | refine br_t ?_ | refine br_f ?_))
  refine st_loop (fun (i : Nat) σ h => i ≤ xs.length ∧ σ 0 = intss true xs ∧ σ 3 = .sl (T + 1, 2, 0) 0 0 xs.length ∧ σ 4 = .int .i64 i ∧ T + 1 < h.tick ∧ ∃ (vs : List AV) (ns : List Nm), vs.length = i ∧ h.rows (T + 1, 2, 0) = some ⟨0, 1, vs.map (fun v => [v]) ++ List.replicate (xs.length - i) [.nilsl]⟩ ∧
    (∀ c, Own h.rows c vs ((xs.take i).map (ints c)) ns) ∧ ns.Nodup ∧ ∀ n ∈ ns, T + 1 < n.1 ∧ n.1 < h.tick) (fun i => xs.length - i) 0 ?init ?step
  case init =>
    exact ⟨Nat.zero_le _, by simp [putA_get, envOf_0], by simp [putA_get, opd], by simp [putA_get, opd, avc, avc1], by simp [hp_next_tick, hp_put_tick, hp_mt_tick], [], [], rfl, by simp [hp_next_rows, hp_rows_put], fun c => .nil, by simp, by simp⟩
  case step =>
    rintro i σ h ⟨hi, h0, h3, h4, ht, vs, ns, hv, hr, ho, hnd, hns⟩
    repeat' (first
      | (with_reducible first | refine st_seq ?_ | refine st_reg ?_ | refine st_block ?_ | refine st_nil ?_ | refine st_skip ?_ | refine st_ret ?_ | refine st_exit ?_ | refine fr_nil ?_ | refine k_seq_n ?_ | refine k_seq_r ?_ | refine k_seq_e ?_ | refine k_blk_n ?_ | refine k_blk_r ?_ | refine k_blk_s ?_ | refine k_blk_o rfl ?_ | refine k_fn_r ?_ | refine k_fn_n ?_ | refine k_lp_r ?_ | refine k_lp_e ?_)
      | ((with_reducible first | refine st_move ?_ | refine st_asg ?_ | refine st_c ?_ | refine fr_c ?_); (try (conv => arg 1; simp [intss, h0, h3, h4, hr])); (with_reducible refine at_mk ?_))
      | ((with_reducible first | refine st_g ?_ | refine fr_g ?_); (try (conv => arg 1; simp [intss, h0, h3, h4, hr])); (with_reducible refine at_mk ?_); with_reducible first | refine gd_tt ?_ | refine gd_ff ?_ | refine gd_tf ?_ | refine gd_ft ?_ | refine gd_no ?_)
      | ((with_reducible refine st_m rfl ?_); (try (conv => arg 1; simp [intss, h0, h3, h4, hr])); (with_reducible refine ev2_some ?_))
      | ((with_reducible refine fr_n rfl ?_); (try (conv => arg 1; simp [intss, h0, h3, h4, hr])); (with_reducible refine evn_some ?_))
      | ((with_reducible first | refine st_cv ?_ | refine fr_cv ?_); (try (conv => arg 1; simp [intss, h0, h3, h4, hr])); (with_reducible refine at_mk ?_); (with_reducible refine fn_mk ?_); (try (conv => arg 1; simp [intss, h0, h3, h4, hr])); (with_reducible refine at_mk ?_))
      | ((with_reducible refine fr_a ?_); (try (conv => arg 1; simp [intss, h0, h3, h4, hr])); (with_reducible refine at_mk ?_); (try (conv => arg 1; simp [intss, h0, h3, h4, hr])); (with_reducible refine at_mk ?_); refine ⟨?names, ?_⟩; (case names => (simp [appNames, ints, intss] <;> first | kernel_rfl | (refine ⟨?_, ?_⟩ <;> kernel_rfl))); (try (conv => arg 1; simp [intss, h0, h3, h4, hr])); (with_reducible refine ev2_some ?_))
      | ((with_reducible first | refine st_q ?_ | refine fr_q ?_ | refine st_res ?_); (try (conv => arg 1; simp [intss, h0, h3, h4, hr])); (with_reducible refine ev_some ?_))
      | ((with_reducible refine st_if ?_); (try (conv => arg 1; simp [intss, h0, h3, h4, hr])); (with_reducible refine at_mk ?_); with_reducible first | refine br_t ?_ | refine br_f ?_))
    (with_reducible refine st_if ?_)
    (try (conv => arg 1; simp [h0]))
    (with_reducible refine at_mk ?_)
    refine ⟨fun hb => ?_, fun hb => ?_⟩
    · have hlt : i < xs.length := by simpa using hb
      have hx : xs[i]? = some (xs[i]) := by simp
      have hw : IntKind.i64.wrap (i + 1) = i + 1 := wrap_id (by omega) (by omega)
      repeat' (first
        | (with_reducible first | refine st_seq ?_ | refine st_reg ?_ | refine st_block ?_ | refine st_nil ?_ | refine st_skip ?_ | refine st_ret ?_ | refine st_exit ?_ | refine fr_nil ?_ | refine k_seq_n ?_ | refine k_seq_r ?_ | refine k_seq_e ?_ | refine k_blk_n ?_ | refine k_blk_r ?_ | refine k_blk_s ?_ | refine k_blk_o rfl ?_ | refine k_fn_r ?_ | refine k_fn_n ?_ | refine k_lp_r ?_ | refine k_lp_e ?_)
        | ((with_reducible first | refine st_move ?_ | refine st_asg ?_ | refine st_c ?_ | refine fr_c ?_); (try (conv => arg 1; simp [intss, h0, h3, h4, hr, hlt, hx])); (with_reducible refine at_mk ?_))
        | ((with_reducible first | refine st_g ?_ | refine fr_g ?_); (try (conv => arg 1; simp [intss, h0, h3, h4, hr, hlt, hx])); (with_reducible refine at_mk ?_); with_reducible first | refine gd_tt ?_ | refine gd_ff ?_ | refine gd_tf ?_ | refine gd_ft ?_ | refine gd_no ?_)
        | ((with_reducible refine st_m rfl ?_); (try (conv => arg 1; simp [intss, h0, h3, h4, hr, hlt, hx])); (with_reducible refine ev2_some ?_))
        | ((with_reducible refine fr_n rfl ?_); (try (conv => arg 1; simp [intss, h0, h3, h4, hr, hlt, hx])); (with_reducible refine evn_some ?_))
        | ((with_reducible first | refine st_cv ?_ | refine fr_cv ?_); (try (conv => arg 1; simp [intss, h0, h3, h4, hr, hlt, hx])); (with_reducible refine at_mk ?_); (with_reducible refine fn_mk ?_); (try (conv => arg 1; simp [intss, h0, h3, h4, hr, hlt, hx])); (with_reducible refine at_mk ?_))
        | ((with_reducible refine fr_a ?_); (try (conv => arg 1; simp [intss, h0, h3, h4, hr, hlt, hx])); (with_reducible refine at_mk ?_); (try (conv => arg 1; simp [intss, h0, h3, h4, hr, hlt, hx])); (with_reducible refine at_mk ?_); refine ⟨?names, ?_⟩; (case names => (simp [appNames, ints, intss] <;> first | kernel_rfl | (refine ⟨?_, ?_⟩ <;> kernel_rfl))); (try (conv => arg 1; simp [intss, h0, h3, h4, hr, hlt, hx])); (with_reducible refine ev2_some ?_))
        | ((with_reducible first | refine st_q ?_ | refine fr_q ?_ | refine st_res ?_); (try (conv => arg 1; simp [intss, h0, h3, h4, hr, hlt, hx])); (with_reducible refine ev_some ?_))
        | ((with_reducible refine st_if ?_); (try (conv => arg 1; simp [intss, h0, h3, h4, hr, hlt, hx])); (with_reducible refine at_mk ?_); with_reducible first | refine br_t ?_ | refine br_f ?_))
      refine st_fresh rfl (toIntS xs[i] (hl2 _ (List.getElem_mem hlt))) (.cons (dr_ints (by simp) _) .nil) ?_
      intro v h' ns' o1 d1 f1 p1 t1
      have q := own_one (ownV_ints (o1 true))
      have t2 : h.tick + 1 + 1 ≤ h'.tick := t1
      have hr' : h'.rows (T + 1, 2, 0) = some ⟨0, 1, vs.map (fun v => [v]) ++ List.replicate (xs.length - i) [.nilsl]⟩ := by
        rw [p1 _ (show T + 1 < h.tick + 1 + 1 by omega)]
        exact hr
      have hel : (vs.map (fun v => [v]) ++ List.replicate (xs.length - i) [AV.nilsl])[i]? = some [.nilsl] := by
        rw [List.getElem?_append_right (by simp [hv]), show xs.length - i = (xs.length - i - 1) + 1 by omega, List.replicate_succ]
        simp [hv]
      have ht2 : T + 1 < h'.tick := by omega
      repeat' (first
        | (with_reducible first | refine st_seq ?_ | refine st_reg ?_ | refine st_block ?_ | refine st_nil ?_ | refine st_skip ?_ | refine st_ret ?_ | refine st_exit ?_ | refine fr_nil ?_ | refine k_seq_n ?_ | refine k_seq_r ?_ | refine k_seq_e ?_ | refine k_blk_n ?_ | refine k_blk_r ?_ | refine k_blk_s ?_ | refine k_blk_o rfl ?_ | refine k_fn_r ?_ | refine k_fn_n ?_ | refine k_lp_r ?_ | refine k_lp_e ?_)
        | ((with_reducible first | refine st_move ?_ | refine st_asg ?_ | refine st_c ?_ | refine fr_c ?_); (try (conv => arg 1; simp [h3, h4, hr', hlt, hel, ht2, q.2.1, q.2.2, hw])); (with_reducible refine at_mk ?_))
        | ((with_reducible first | refine st_g ?_ | refine fr_g ?_); (try (conv => arg 1; simp [h3, h4, hr', hlt, hel, ht2, q.2.1, q.2.2, hw])); (with_reducible refine at_mk ?_); with_reducible first | refine gd_tt ?_ | refine gd_ff ?_ | refine gd_tf ?_ | refine gd_ft ?_ | refine gd_no ?_)
        | ((with_reducible refine st_m rfl ?_); (try (conv => arg 1; simp [h3, h4, hr', hlt, hel, ht2, q.2.1, q.2.2, hw])); (with_reducible refine ev2_some ?_))
        | ((with_reducible refine fr_n rfl ?_); (try (conv => arg 1; simp [h3, h4, hr', hlt, hel, ht2, q.2.1, q.2.2, hw])); (with_reducible refine evn_some ?_))
        | ((with_reducible first | refine st_cv ?_ | refine fr_cv ?_); (try (conv => arg 1; simp [h3, h4, hr', hlt, hel, ht2, q.2.1, q.2.2, hw])); (with_reducible refine at_mk ?_); (with_reducible refine fn_mk ?_); (try (conv => arg 1; simp [h3, h4, hr', hlt, hel, ht2, q.2.1, q.2.2, hw])); (with_reducible refine at_mk ?_))
        | ((with_reducible refine fr_a ?_); (try (conv => arg 1; simp [h3, h4, hr', hlt, hel, ht2, q.2.1, q.2.2, hw])); (with_reducible refine at_mk ?_); (try (conv => arg 1; simp [h3, h4, hr', hlt, hel, ht2, q.2.1, q.2.2, hw])); (with_reducible refine at_mk ?_); refine ⟨?names, ?_⟩; (case names => (simp [appNames, ints, intss] <;> first | kernel_rfl | (refine ⟨?_, ?_⟩ <;> kernel_rfl))); (try (conv => arg 1; simp [h3, h4, hr', hlt, hel, ht2, q.2.1, q.2.2, hw])); (with_reducible refine ev2_some ?_))
        | ((with_reducible first | refine st_q ?_ | refine fr_q ?_ | refine st_res ?_); (try (conv => arg 1; simp [h3, h4, hr', hlt, hel, ht2, q.2.1, q.2.2, hw])); (with_reducible refine ev_some ?_))
        | ((with_reducible refine st_if ?_); (try (conv => arg 1; simp [h3, h4, hr', hlt, hel, ht2, q.2.1, q.2.2, hw])); (with_reducible refine at_mk ?_); with_reducible first | refine br_t ?_ | refine br_f ?_))
      refine k_lp_n (i + 1) (by omega) ⟨by omega, by simp [putA_get, putA_none, h0], by simp [putA_get, putA_none, h3], by simp [putA_get, putA_none, h4], by simp [hp_next_tick, hp_put_tick, hp_mt_tick]; omega, vs ++ [v], ns ++ ns', by simp [hv], ?_, fun c => ?_, ?_, ?_⟩
      · simp only [hp_next_rows, hp_rows_put, if_true, List.map_append, List.map_cons, List.map_nil, List.append_assoc]
        congr 2
        rw [List.set_append_right _ _ (by simp [hv])]
        simp only [List.length_map, hv, Nat.sub_self]
        congr 1
        rw [show xs.length - i = (xs.length - (i + 1)) + 1 by omega, List.replicate_succ]
        rfl
      · rw [List.take_add_one, hx]
        simp only [Option.toList_some, List.map_append, List.map_cons, List.map_nil]
        refine Own.append ((ho c).congr fun n hn => ?_) ((ownV_ints (o1 c)).congr fun n hn => ?_)
        · have a := hns n hn
          have hne : n ≠ (T + 1, 2, 0) := fun e => by rw [e] at a; exact absurd a.1 (Nat.lt_irrefl _)
          simp only [hp_next_rows, hp_rows_put, if_neg hne]
          exact p1 n (show n.1 < h.tick + 1 + 1 by omega)
        · have a : h.tick + 1 + 1 ≤ n.1 := (f1 n hn).1
          have hne : n ≠ (T + 1, 2, 0) := fun e => by rw [e] at a; simp at a; omega
          simp only [hp_next_rows, hp_rows_put, if_neg hne]
      · refine List.nodup_append.2 ⟨hnd, d1, fun a ha b hb e => ?_⟩
        subst e
        have a1 := hns a ha
        have a2 : h.tick + 1 + 1 ≤ a.1 := (f1 a hb).1
        omega
      · intro n hn
        simp only [hp_next_tick, hp_put_tick, hp_mt_tick]
        rcases List.mem_append.1 hn with h1 | h1
        · have := hns n h1; omega
        · have a2 : h.tick + 1 + 1 ≤ n.1 := (f1 n h1).1
          have := (f1 n h1).2
          omega
    · have hge : i = xs.length := by simp at hb; omega
      repeat' (first
        | (with_reducible first | refine st_seq ?_ | refine st_reg ?_ | refine st_block ?_ | refine st_nil ?_ | refine st_skip ?_ | refine st_ret ?_ | refine st_exit ?_ | refine fr_nil ?_ | refine k_seq_n ?_ | refine k_seq_r ?_ | refine k_seq_e ?_ | refine k_blk_n ?_ | refine k_blk_r ?_ | refine k_blk_s ?_ | refine k_blk_o rfl ?_ | refine k_fn_r ?_ | refine k_fn_n ?_ | refine k_lp_r ?_ | refine k_lp_e ?_)
        | ((with_reducible first | refine st_move ?_ | refine st_asg ?_ | refine st_c ?_ | refine fr_c ?_); (try (conv => arg 1; simp [h0, h3, h4, hr])); (with_reducible refine at_mk ?_))
        | ((with_reducible first | refine st_g ?_ | refine fr_g ?_); (try (conv => arg 1; simp [h0, h3, h4, hr])); (with_reducible refine at_mk ?_); with_reducible first | refine gd_tt ?_ | refine gd_ff ?_ | refine gd_tf ?_ | refine gd_ft ?_ | refine gd_no ?_)
        | ((with_reducible refine st_m rfl ?_); (try (conv => arg 1; simp [h0, h3, h4, hr])); (with_reducible refine ev2_some ?_))
        | ((with_reducible refine fr_n rfl ?_); (try (conv => arg 1; simp [h0, h3, h4, hr])); (with_reducible refine evn_some ?_))
        | ((with_reducible first | refine st_cv ?_ | refine fr_cv ?_); (try (conv => arg 1; simp [h0, h3, h4, hr])); (with_reducible refine at_mk ?_); (with_reducible refine fn_mk ?_); (try (conv => arg 1; simp [h0, h3, h4, hr])); (with_reducible refine at_mk ?_))
        | ((with_reducible refine fr_a ?_); (try (conv => arg 1; simp [h0, h3, h4, hr])); (with_reducible refine at_mk ?_); (try (conv => arg 1; simp [h0, h3, h4, hr])); (with_reducible refine at_mk ?_); refine ⟨?names, ?_⟩; (case names => (simp [appNames, ints, intss] <;> first | kernel_rfl | (refine ⟨?_, ?_⟩ <;> kernel_rfl))); (try (conv => arg 1; simp [h0, h3, h4, hr])); (with_reducible refine ev2_some ?_))
        | ((with_reducible first | refine st_q ?_ | refine fr_q ?_ | refine st_res ?_); (try (conv => arg 1; simp [h0, h3, h4, hr])); (with_reducible refine ev_some ?_))
        | ((with_reducible refine st_if ?_); (try (conv => arg 1; simp [h0, h3, h4, hr])); (with_reducible refine at_mk ?_); with_reducible first | refine br_t ?_ | refine br_f ?_))
      subst hge
      refine ⟨by simp [hp_next_tick]; omega, (T + 1, 2, 0) :: (ns ++ []), fun c => .one ?_, ?_, ?_⟩
      · simp only [resV, intss]
        refine .sl (T + 1, 2, 0) 0 xs.length 1 _ _ (by simpa [hp_next_rows] using hr) rfl rfl (fun i e j x he hx => ?_) (by simp [hv]) (fun e he => ?_) (by simp) (fun e he => ?_) ?_ .nil
        · simp at he
          obtain ⟨a, h1, rfl⟩ := he
          match j, hx with
          | 0, hx => simp at hx; subst hx; exact (ho true).cl i a h1
        · simp at he; obtain ⟨a, _, rfl⟩ := he; rfl
        · simp at he; obtain ⟨a, _, rfl⟩ := he; rfl
        · have e1 : (List.take xs.length (vs.map (fun v => [v]) ++ List.replicate (xs.length - xs.length) [AV.nilsl])).flatten = vs := by
            simp [List.take_of_length_le (Nat.le_of_eq (show (vs.map fun v => [v]).length = xs.length by simp [hv]))]
            exact flat1 vs
          have e2 : (xs.map fun x => [ints c x]).flatten = (xs.take xs.length).map (ints c) := by
            rw [List.take_of_length_le (Nat.le_refl _), ← flat1 (xs.map (ints c)), List.map_map]
            rfl
          rw [e2]
          have e3 := (ho c).congr (rows' := h.next.next.rows) fun n _ => by simp [hp_next_rows]
          rw [← e1] at e3
          simpa using e3
      · simp only [List.append_nil]
        refine List.nodup_cons.2 ⟨fun hm => ?_, hnd⟩
        have a := (hns _ hm).1
        exact absurd a (Nat.lt_irrefl _)
      · intro n hn
        simp only [List.append_nil, List.mem_cons] at hn
        simp only [hp_next_tick]
        rcases hn with rfl | hn
        · simp; omega
        · have := hns n hn; omega
end Go.Proofs.Ytfgaoojogididaa.AM

/-
  Slices of slices of whole numbers: marks.
-/
set_option linter.unusedVariables false
set_option linter.unusedSimpArgs false
set_option maxRecDepth 4000
namespace Go.Proofs.Ytfgaoojogididaa.AM
open Go.RowKit

private def MU3 : FuncId → Mode := fun f => if f = 33 then .heap else .tree

def marksSS : Int → List (List Int) → List (List Int)
  | _, [] => []
  | k, x :: xs => marks k x.length :: marksSS (k + x.length) xs
theorem marksSS_length : ∀ (k : Int) (xs : List (List Int)), (marksSS k xs).length = xs.length
  | _, [] => rfl
  | k, x :: xs => by simp [marksSS, marksSS_length]
theorem psum_cons (x : List Int) (xs : List (List Int)) (i : Nat) : psum (x :: xs) (i + 1) = x.length + psum xs i := by simp [psum]
theorem marksSS_get : ∀ (k : Int) (xs : List (List Int)) (i : Nat) (h : i < xs.length), (marksSS k xs)[i]? = some (marks (k + psum xs i) xs[i].length)
  | k, x :: xs, 0, h => by simp [marksSS, psum_zero]
  | k, x :: xs, i + 1, h => by
    simp only [marksSS, List.getElem?_cons_succ, List.getElem_cons_succ]
    rw [marksSS_get _ xs i (by simpa using h), psum_cons]
    congr 2
    simp
    omega

theorem own_intss_inv {rows : Nm → Option Row} {a : AV} {xs : List (List Int)} {ns : List Nm} (h : Own rows true [a] [intss true xs] ns) :
    (xs = [] ∧ (∀ c, Own rows c [a] [intss c []] ns) ∧ ((a = .nilsl ∧ ns = []) ∨ ∃ n ver off, a = .sl n ver off 0 ∧ ns = [n])) ∨
    (∃ n ver vs sp ns1, a = .sl n ver 0 xs.length ∧ ns = n :: ns1 ∧ rows n = some ⟨ver, 1, vs.map (fun v => [v]) ++ sp⟩ ∧ vs.length = xs.length ∧ (∀ e ∈ sp, e.length = 1) ∧ ClRow ⟨ver, 1, sp⟩ ∧ Own rows true vs (xs.map (ints true)) ns1) := by
  unfold intss at h
  generalize hm : (xs.map fun x => [ints true x]) = tm at h
  cases h with
  | nilsl h =>
    cases h
    exact .inl ⟨by simpa using hm, fun c => .nilsl .nil, .inl ⟨rfl, rfl⟩⟩
  | @sl _ _ ns1 ns2 n ver len s r _ h1 h2 h3 h4 h5 h6 h7 h8 h9 h10 =>
    cases h10
    subst hm
    have hlen : xs.length = len := by simpa using h7
    cases xs with
    | nil =>
      left
      simp at hlen
      subst hlen
      have h9' : Own rows true [] [] ns1 := by simpa using h9
      cases h9'
      exact ⟨rfl, fun c => .sl n ver 0 s r [] h1 h2 h3 h4 h5 h6 rfl (by simp) (by simpa using Own.nil) .nil, .inr ⟨n, ver, 0, rfl, by simp⟩⟩
    | cons x xs =>
      right
      have hs : s = 1 := by
        have := h8 [ints true x] (by simp)
        simpa using this.symm
      subst hs
      have key : ∀ (l : List (List AV)), (∀ e ∈ l, e.length = 1) → l = l.flatten.map fun v => [v] := by
        intro l
        induction l with
        | nil => intro _; rfl
        | cons e l ih =>
          intro hl
          have h1 := hl e (by simp)
          match e, h1 with
          | [v], _ =>
            simp only [List.flatten_cons, List.cons_append, List.nil_append, List.map_cons]
            rw [← ih fun e he => hl e (by simp [he])]
      obtain ⟨ver', esz', elems⟩ := r
      simp only at h2 h3 h6 h4 h5 h9
      subst h2 h3
      have e3 := key (elems.take len) (fun e he => h6 e (List.mem_of_mem_take he))
      have h9' : Own rows true (elems.take len).flatten ((x :: xs).map (ints true)) ns1 := by
        rw [← flat1 ((x :: xs).map (ints true)), List.map_map]
        exact h9
      refine ⟨n, ver', (elems.take len).flatten, elems.drop len, ns1, by rw [hlen], by simp, ?_, ?_, fun e he => h6 e (List.mem_of_mem_drop he), fun i e j x he hx => ?_, h9'⟩
      · rw [← e3, List.take_append_drop]
        exact h1
      · have := h9'.length
        simpa using this.symm
      · refine h4 (len + i) e j x ?_ hx
        simpa [List.getElem?_drop] using he
  | slo n ver pre sp ys h1 h2 h3 h4 h5 h6 =>
    cases h6
    cases xs with
    | nil =>
      obtain rfl : ys = [] := by simpa using hm
      exact .inl ⟨rfl, fun c => .slo n ver pre sp [] h1 h2 h3 h4 h5 .nil, .inr ⟨n, ver, _, rfl, rfl⟩⟩
    | cons x xs =>
      exfalso
      cases ys with
      | nil => simp at hm
      | cons y ys => simp [ints] at hm

theorem own_intss_mk {rows : Nm → Option Row} {n : Nm} {ver : Nat} {xs : List (List Int)} {vs : List AV} {sp : List (List AV)} {ns : List Nm} {c : Bool} (h : rows n = some ⟨ver, 1, vs.map (fun v => [v]) ++ sp⟩) (h1 : ∀ e ∈ sp, e.length = 1) (h2 : ClRow ⟨ver, 1, sp⟩)
    (ho : Own rows c vs (xs.map (ints c)) ns) : Own rows c [.sl n ver 0 xs.length] [intss c xs] (n :: ns) := by
  have hl : vs.length = xs.length := by have := ho.length; simpa using this.symm
  have := @Own.sl rows c [] [] ns [] n ver xs.length 1 _ (xs.map fun x => [ints c x]) h rfl rfl (fun i e j x he hx => by
      simp only at he
      by_cases hi : i < vs.length
      · rw [List.getElem?_append_left (by simpa using hi)] at he
        simp at he
        obtain ⟨y, h3, rfl⟩ := he
        match j, hx with
        | 0, hx => simp at hx; subst hx; exact ho.cl i y h3
      · rw [List.getElem?_append_right (by simpa using hi)] at he
        exact h2 _ e j x he hx) (by simp [hl]) (fun e he => by
      simp only [List.mem_append] at he
      rcases he with he | he
      · simp at he; obtain ⟨a, _, rfl⟩ := he; rfl
      · exact h1 e he) (by simp) (fun e he => by simp at he; obtain ⟨a, _, rfl⟩ := he; rfl)
    (by
      rw [List.take_append_of_le_length (by simp [hl]), List.take_of_length_le (by simp [hl]), flat1, show (xs.map fun x => [ints c x]) = (xs.map (ints c)).map fun v => [v] by simp, flat1]
      exact ho) .nil
  simpa [intss] using this

theorem markIntSS {h : Hp} {a : AV} {xs : List (List Int)} {ns : List Nm} (ho : Own h.rows true [a] [intss true xs] ns) (hnd : ns.Nodup) (hns : ∀ n ∈ ns, n.1 < h.tick) (k : Int) (hk : 0 ≤ k) (hl : k + wtSS xs ≤ 2 ^ 62) :
    Sound Try.prog 52 [a, .int .i64 k] h fun v h' => v = .int .i64 (k + psum xs xs.length) ∧ (∀ c, Own h'.rows c [a] [intss c (marksSS k xs)] ns) ∧ (∀ n, n ∉ ns → h'.rows n = h.rows n) ∧ h.tick ≤ h'.tick := by
  rcases own_intss_inv ho with ⟨rfl, hc, hx⟩ | ⟨n, ver, vs, sp, ns1, rfl, rfl, hr, hvl, hsp, hcl, hov⟩
  · rcases hx with ⟨rfl, rfl⟩ | ⟨n, ver, off, rfl, rfl⟩
    all_goals
      refine enter mixed MU3 Try.func52 rfl (by kernel_rfl) rfl ?_
      repeat' (first
        | (with_reducible first | refine st_seq ?_ | refine st_reg ?_ | refine st_block ?_ | refine st_nil ?_ | refine st_skip ?_ | refine st_ret ?_ | refine st_exit ?_ | refine fr_nil ?_ | refine k_seq_n ?_ | refine k_seq_r ?_ | refine k_seq_e ?_ | refine k_blk_n ?_ | refine k_blk_r ?_ | refine k_blk_s ?_ | refine k_blk_o rfl ?_ | refine k_fn_r ?_ | refine k_fn_n ?_ | refine k_lp_r ?_ | refine k_lp_e ?_)
        | ((with_reducible first | refine st_move ?_ | refine st_asg ?_ | refine st_c ?_ | refine fr_c ?_); (try (conv => arg 1; simp [intss])); (with_reducible refine at_mk ?_))
        | ((with_reducible first | refine st_g ?_ | refine fr_g ?_); (try (conv => arg 1; simp [intss])); (with_reducible refine at_mk ?_); with_reducible first | refine gd_tt ?_ | refine gd_ff ?_ | refine gd_tf ?_ | refine gd_ft ?_ | refine gd_no ?_)
        | ((with_reducible refine st_m rfl ?_); (try (conv => arg 1; simp [intss])); (with_reducible refine ev2_some ?_))
        | ((with_reducible refine fr_n rfl ?_); (try (conv => arg 1; simp [intss])); (with_reducible refine evn_some ?_))
        | ((with_reducible first | refine st_cv ?_ | refine fr_cv ?_); (try (conv => arg 1; simp [intss])); (with_reducible refine at_mk ?_); (with_reducible refine fn_mk ?_); (try (conv => arg 1; simp [intss])); (with_reducible refine at_mk ?_))
        | ((with_reducible refine fr_a ?_); (try (conv => arg 1; simp [intss])); (with_reducible refine at_mk ?_); (try (conv => arg 1; simp [intss])); (with_reducible refine at_mk ?_); refine ⟨?names, ?_⟩; (case names => (simp [appNames, ints, intss] <;> first | kernel_rfl | (refine ⟨?_, ?_⟩ <;> kernel_rfl))); (try (conv => arg 1; simp [intss])); (with_reducible refine ev2_some ?_))
        | ((with_reducible first | refine st_q ?_ | refine fr_q ?_ | refine st_res ?_); (try (conv => arg 1; simp [intss])); (with_reducible refine ev_some ?_))
        | ((with_reducible refine st_if ?_); (try (conv => arg 1; simp [intss])); (with_reducible refine at_mk ?_); with_reducible first | refine br_t ?_ | refine br_f ?_))
      refine st_loop (fun (i : Nat) σ h' => (∃ a, (a = .nilsl ∨ ∃ n ver off, a = .sl n ver off 0) ∧ σ 0 = a) ∧ σ 1 = .int .i64 k ∧ σ 5 = .int .i64 0 ∧ h'.rows = h.rows ∧ h.tick ≤ h'.tick) (fun i => 0) 0 ?init ?step
      case init =>
        refine ⟨⟨_, ?_, rfl⟩, by simp [putA_get, envOf_1], by simp [putA_get, opd, avc, avc1], by simp [hp_next_rows], by simp [hp_next_tick] <;> omega⟩
        simp [putA_get, envOf_0]
      case step =>
        rintro i σ h' ⟨⟨a, ha, h0⟩, h1, h5, h6, h7⟩
        rcases ha with rfl | ⟨n, ver, off, rfl⟩
        all_goals
          repeat' (first
            | (with_reducible first | refine st_seq ?_ | refine st_reg ?_ | refine st_block ?_ | refine st_nil ?_ | refine st_skip ?_ | refine st_ret ?_ | refine st_exit ?_ | refine fr_nil ?_ | refine k_seq_n ?_ | refine k_seq_r ?_ | refine k_seq_e ?_ | refine k_blk_n ?_ | refine k_blk_r ?_ | refine k_blk_s ?_ | refine k_blk_o rfl ?_ | refine k_fn_r ?_ | refine k_fn_n ?_ | refine k_lp_r ?_ | refine k_lp_e ?_)
            | ((with_reducible first | refine st_move ?_ | refine st_asg ?_ | refine st_c ?_ | refine fr_c ?_); (try (conv => arg 1; simp [h0, h1, h5])); (with_reducible refine at_mk ?_))
            | ((with_reducible first | refine st_g ?_ | refine fr_g ?_); (try (conv => arg 1; simp [h0, h1, h5])); (with_reducible refine at_mk ?_); with_reducible first | refine gd_tt ?_ | refine gd_ff ?_ | refine gd_tf ?_ | refine gd_ft ?_ | refine gd_no ?_)
            | ((with_reducible refine st_m rfl ?_); (try (conv => arg 1; simp [h0, h1, h5])); (with_reducible refine ev2_some ?_))
            | ((with_reducible refine fr_n rfl ?_); (try (conv => arg 1; simp [h0, h1, h5])); (with_reducible refine evn_some ?_))
            | ((with_reducible first | refine st_cv ?_ | refine fr_cv ?_); (try (conv => arg 1; simp [h0, h1, h5])); (with_reducible refine at_mk ?_); (with_reducible refine fn_mk ?_); (try (conv => arg 1; simp [h0, h1, h5])); (with_reducible refine at_mk ?_))
            | ((with_reducible refine fr_a ?_); (try (conv => arg 1; simp [h0, h1, h5])); (with_reducible refine at_mk ?_); (try (conv => arg 1; simp [h0, h1, h5])); (with_reducible refine at_mk ?_); refine ⟨?names, ?_⟩; (case names => (simp [appNames, ints, intss] <;> first | kernel_rfl | (refine ⟨?_, ?_⟩ <;> kernel_rfl))); (try (conv => arg 1; simp [h0, h1, h5])); (with_reducible refine ev2_some ?_))
            | ((with_reducible first | refine st_q ?_ | refine fr_q ?_ | refine st_res ?_); (try (conv => arg 1; simp [h0, h1, h5])); (with_reducible refine ev_some ?_))
            | ((with_reducible refine st_if ?_); (try (conv => arg 1; simp [h0, h1, h5])); (with_reducible refine at_mk ?_); with_reducible first | refine br_t ?_ | refine br_f ?_))
          repeat' (first
            | (with_reducible first | refine st_seq ?_ | refine st_reg ?_ | refine st_block ?_ | refine st_nil ?_ | refine st_skip ?_ | refine st_ret ?_ | refine st_exit ?_ | refine fr_nil ?_ | refine k_seq_n ?_ | refine k_seq_r ?_ | refine k_seq_e ?_ | refine k_blk_n ?_ | refine k_blk_r ?_ | refine k_blk_s ?_ | refine k_blk_o rfl ?_ | refine k_fn_r ?_ | refine k_fn_n ?_ | refine k_lp_r ?_ | refine k_lp_e ?_)
            | ((with_reducible first | refine st_move ?_ | refine st_asg ?_ | refine st_c ?_ | refine fr_c ?_); (try (conv => arg 1; simp [h0, h1, h5])); (with_reducible refine at_mk ?_))
            | ((with_reducible first | refine st_g ?_ | refine fr_g ?_); (try (conv => arg 1; simp [h0, h1, h5])); (with_reducible refine at_mk ?_); with_reducible first | refine gd_tt ?_ | refine gd_ff ?_ | refine gd_tf ?_ | refine gd_ft ?_ | refine gd_no ?_)
            | ((with_reducible refine st_m rfl ?_); (try (conv => arg 1; simp [h0, h1, h5])); (with_reducible refine ev2_some ?_))
            | ((with_reducible refine fr_n rfl ?_); (try (conv => arg 1; simp [h0, h1, h5])); (with_reducible refine evn_some ?_))
            | ((with_reducible first | refine st_cv ?_ | refine fr_cv ?_); (try (conv => arg 1; simp [h0, h1, h5])); (with_reducible refine at_mk ?_); (with_reducible refine fn_mk ?_); (try (conv => arg 1; simp [h0, h1, h5])); (with_reducible refine at_mk ?_))
            | ((with_reducible refine fr_a ?_); (try (conv => arg 1; simp [h0, h1, h5])); (with_reducible refine at_mk ?_); (try (conv => arg 1; simp [h0, h1, h5])); (with_reducible refine at_mk ?_); refine ⟨?names, ?_⟩; (case names => (simp [appNames, ints, intss] <;> first | kernel_rfl | (refine ⟨?_, ?_⟩ <;> kernel_rfl))); (try (conv => arg 1; simp [h0, h1, h5])); (with_reducible refine ev2_some ?_))
            | ((with_reducible first | refine st_q ?_ | refine fr_q ?_ | refine st_res ?_); (try (conv => arg 1; simp [h0, h1, h5])); (with_reducible refine ev_some ?_))
            | ((with_reducible refine st_if ?_); (try (conv => arg 1; simp [h0, h1, h5])); (with_reducible refine at_mk ?_); with_reducible first | refine br_t ?_ | refine br_f ?_))
          refine ⟨by simp [resV, psum], fun c => ?_, fun n _ => by simp [hp_next_rows, h6], by simp [hp_next_tick]; omega⟩
          exact (hc c).congr fun n _ => by simp [hp_next_rows, h6]
  · have hn : n.1 < h.tick := hns n (by simp)
    have hn1 : n ∉ ns1 := (List.nodup_cons.1 hnd).1
    refine enter mixed MU3 Try.func52 rfl (by kernel_rfl) rfl ?_
    repeat' (first
      | (with_reducible first | refine st_seq ?_ | refine st_reg ?_ | refine st_block ?_ | refine st_nil ?_ | refine st_skip ?_ | refine st_ret ?_ | refine st_exit ?_ | refine fr_nil ?_ | refine k_seq_n ?_ | refine k_seq_r ?_ | refine k_seq_e ?_ | refine k_blk_n ?_ | refine k_blk_r ?_ | refine k_blk_s ?_ | refine k_blk_o rfl ?_ | refine k_fn_r ?_ | refine k_fn_n ?_ | refine k_lp_r ?_ | refine k_lp_e ?_)
      | ((with_reducible first | refine st_move ?_ | refine st_asg ?_ | refine st_c ?_ | refine fr_c ?_); (try (conv => arg 1; simp [intss])); (with_reducible refine at_mk ?_))
      | ((with_reducible first | refine st_g ?_ | refine fr_g ?_); (try (conv => arg 1; simp [intss])); (with_reducible refine at_mk ?_); with_reducible first | refine gd_tt ?_ | refine gd_ff ?_ | refine gd_tf ?_ | refine gd_ft ?_ | refine gd_no ?_)
      | ((with_reducible refine st_m rfl ?_); (try (conv => arg 1; simp [intss])); (with_reducible refine ev2_some ?_))
      | ((with_reducible refine fr_n rfl ?_); (try (conv => arg 1; simp [intss])); (with_reducible refine evn_some ?_))
      | ((with_reducible first | refine st_cv ?_ | refine fr_cv ?_); (try (conv => arg 1; simp [intss])); (with_reducible refine at_mk ?_); (with_reducible refine fn_mk ?_); (try (conv => arg 1; simp [intss])); (with_reducible refine at_mk ?_))
      | ((with_reducible refine fr_a ?_); (try (conv => arg 1; simp [intss])); (with_reducible refine at_mk ?_); (try (conv => arg 1; simp [intss])); (with_reducible refine at_mk ?_); refine ⟨?names, ?_⟩; (case names => (simp [appNames, ints, intss] <;> first | kernel_rfl | (refine ⟨?_, ?_⟩ <;> kernel_rfl))); (try (conv => arg 1; simp [intss])); (with_reducible refine ev2_some ?_))
      | ((with_reducible first | refine st_q ?_ | refine fr_q ?_ | refine st_res ?_); (try (conv => arg 1; simp [intss])); (with_reducible refine ev_some ?_))
      | ((with_reducible refine st_if ?_); (try (conv => arg 1; simp [intss])); (with_reducible refine at_mk ?_); with_reducible first | refine br_t ?_ | refine br_f ?_))
    refine st_loop (fun (i : Nat) σ h' => i ≤ xs.length ∧ σ 0 = .sl n ver 0 xs.length ∧ σ 1 = .int .i64 (k + psum xs i) ∧ σ 5 = .int .i64 i ∧ h.tick ≤ h'.tick ∧ (∀ m, m ∉ ns1 → h'.rows m = h.rows m) ∧
      ∃ (m1 m2 : List Nm), ns1 = m1 ++ m2 ∧ (∀ c, Own h'.rows c (vs.take i) (((marksSS k xs).take i).map (ints c)) m1) ∧ Own h'.rows true (vs.drop i) ((xs.drop i).map (ints true)) m2) (fun i => xs.length - i) 0 ?init ?step
    case init =>
      exact ⟨Nat.zero_le _, by simp [putA_get, envOf_0], by simp [putA_get, envOf_1, psum_zero], by simp [putA_get, opd, avc, avc1], by simp [hp_next_tick]; omega, fun m _ => by simp [hp_next_rows], [], ns1, rfl, fun c => .nil, hov.congr fun m _ => by simp [hp_next_rows]⟩
    case step =>
      rintro i σ h' ⟨hi, h0, h1, h5, ht, hoth, m1, m2, e12, o1, o2⟩
      repeat' (first
        | (with_reducible first | refine st_seq ?_ | refine st_reg ?_ | refine st_block ?_ | refine st_nil ?_ | refine st_skip ?_ | refine st_ret ?_ | refine st_exit ?_ | refine fr_nil ?_ | refine k_seq_n ?_ | refine k_seq_r ?_ | refine k_seq_e ?_ | refine k_blk_n ?_ | refine k_blk_r ?_ | refine k_blk_s ?_ | refine k_blk_o rfl ?_ | refine k_fn_r ?_ | refine k_fn_n ?_ | refine k_lp_r ?_ | refine k_lp_e ?_)
        | ((with_reducible first | refine st_move ?_ | refine st_asg ?_ | refine st_c ?_ | refine fr_c ?_); (try (conv => arg 1; simp [h0, h1, h5])); (with_reducible refine at_mk ?_))
        | ((with_reducible first | refine st_g ?_ | refine fr_g ?_); (try (conv => arg 1; simp [h0, h1, h5])); (with_reducible refine at_mk ?_); with_reducible first | refine gd_tt ?_ | refine gd_ff ?_ | refine gd_tf ?_ | refine gd_ft ?_ | refine gd_no ?_)
        | ((with_reducible refine st_m rfl ?_); (try (conv => arg 1; simp [h0, h1, h5])); (with_reducible refine ev2_some ?_))
        | ((with_reducible refine fr_n rfl ?_); (try (conv => arg 1; simp [h0, h1, h5])); (with_reducible refine evn_some ?_))
        | ((with_reducible first | refine st_cv ?_ | refine fr_cv ?_); (try (conv => arg 1; simp [h0, h1, h5])); (with_reducible refine at_mk ?_); (with_reducible refine fn_mk ?_); (try (conv => arg 1; simp [h0, h1, h5])); (with_reducible refine at_mk ?_))
        | ((with_reducible refine fr_a ?_); (try (conv => arg 1; simp [h0, h1, h5])); (with_reducible refine at_mk ?_); (try (conv => arg 1; simp [h0, h1, h5])); (with_reducible refine at_mk ?_); refine ⟨?names, ?_⟩; (case names => (simp [appNames, ints, intss] <;> first | kernel_rfl | (refine ⟨?_, ?_⟩ <;> kernel_rfl))); (try (conv => arg 1; simp [h0, h1, h5])); (with_reducible refine ev2_some ?_))
        | ((with_reducible first | refine st_q ?_ | refine fr_q ?_ | refine st_res ?_); (try (conv => arg 1; simp [h0, h1, h5])); (with_reducible refine ev_some ?_))
        | ((with_reducible refine st_if ?_); (try (conv => arg 1; simp [h0, h1, h5])); (with_reducible refine at_mk ?_); with_reducible first | refine br_t ?_ | refine br_f ?_))
      (with_reducible refine st_if ?_)
      (try (conv => arg 1; simp [h0]))
      (with_reducible refine at_mk ?_)
      refine ⟨fun hb => ?_, fun hb => ?_⟩
      · have hlt : i < xs.length := by simpa using hb
        have hvi : vs.drop i = vs[i]'(by omega) :: vs.drop (i + 1) := List.drop_eq_getElem_cons (by omega)
        have hxi : xs.drop i = xs[i] :: xs.drop (i + 1) := List.drop_eq_getElem_cons hlt
        rw [hvi, hxi, List.map_cons] at o2
        obtain ⟨m3, m4, e34, o3, o4⟩ := Own.split (as1 := [vs[i]'(by omega)]) (ts1 := [ints true xs[i]]) o2 rfl
        subst e12
        subst e34
        have hr' : h'.rows n = some ⟨ver, 1, vs.map (fun v => [v]) ++ sp⟩ := by rw [hoth n hn1]; exact hr
        have hel : (vs.map (fun v => [v]) ++ sp)[i]? = some [vs[i]'(by omega)] := by
          rw [List.getElem?_append_left (by simp; omega)]
          simp
        have hnd1 := (List.nodup_cons.1 hnd).2
        have hps : psum xs i + xs[i].length ≤ psum xs xs.length := by rw [← psum_succ xs i hlt]; exact psum_le xs (i + 1)
        have hw : IntKind.i64.wrap (i + 1) = i + 1 := wrap_id (by omega) (by simp only [wtSS] at hl; omega)
        repeat' (first
          | (with_reducible first | refine st_seq ?_ | refine st_reg ?_ | refine st_block ?_ | refine st_nil ?_ | refine st_skip ?_ | refine st_ret ?_ | refine st_exit ?_ | refine fr_nil ?_ | refine k_seq_n ?_ | refine k_seq_r ?_ | refine k_seq_e ?_ | refine k_blk_n ?_ | refine k_blk_r ?_ | refine k_blk_s ?_ | refine k_blk_o rfl ?_ | refine k_fn_r ?_ | refine k_fn_n ?_ | refine k_lp_r ?_ | refine k_lp_e ?_)
          | ((with_reducible first | refine st_move ?_ | refine st_asg ?_ | refine st_c ?_ | refine fr_c ?_); (try (conv => arg 1; simp [h0, h1, h5, hr', hlt, hel])); (with_reducible refine at_mk ?_))
          | ((with_reducible first | refine st_g ?_ | refine fr_g ?_); (try (conv => arg 1; simp [h0, h1, h5, hr', hlt, hel])); (with_reducible refine at_mk ?_); with_reducible first | refine gd_tt ?_ | refine gd_ff ?_ | refine gd_tf ?_ | refine gd_ft ?_ | refine gd_no ?_)
          | ((with_reducible refine st_m rfl ?_); (try (conv => arg 1; simp [h0, h1, h5, hr', hlt, hel])); (with_reducible refine ev2_some ?_))
          | ((with_reducible refine fr_n rfl ?_); (try (conv => arg 1; simp [h0, h1, h5, hr', hlt, hel])); (with_reducible refine evn_some ?_))
          | ((with_reducible first | refine st_cv ?_ | refine fr_cv ?_); (try (conv => arg 1; simp [h0, h1, h5, hr', hlt, hel])); (with_reducible refine at_mk ?_); (with_reducible refine fn_mk ?_); (try (conv => arg 1; simp [h0, h1, h5, hr', hlt, hel])); (with_reducible refine at_mk ?_))
          | ((with_reducible refine fr_a ?_); (try (conv => arg 1; simp [h0, h1, h5, hr', hlt, hel])); (with_reducible refine at_mk ?_); (try (conv => arg 1; simp [h0, h1, h5, hr', hlt, hel])); (with_reducible refine at_mk ?_); refine ⟨?names, ?_⟩; (case names => (simp [appNames, ints, intss] <;> first | kernel_rfl | (refine ⟨?_, ?_⟩ <;> kernel_rfl))); (try (conv => arg 1; simp [h0, h1, h5, hr', hlt, hel])); (with_reducible refine ev2_some ?_))
          | ((with_reducible first | refine st_q ?_ | refine fr_q ?_ | refine st_res ?_); (try (conv => arg 1; simp [h0, h1, h5, hr', hlt, hel])); (with_reducible refine ev_some ?_))
          | ((with_reducible refine st_if ?_); (try (conv => arg 1; simp [h0, h1, h5, hr', hlt, hel])); (with_reducible refine at_mk ?_); with_reducible first | refine br_t ?_ | refine br_f ?_))
        refine st_heap rfl (markIntS (h := h'.next.next) o3 (fun m hm => by
          have := hns m (by simp [hm])
          simp [hp_next_tick]; omega) (k + psum xs i) (by omega) (by simp only [wtSS] at hl; omega)) ?_
        rintro v h2 ⟨rfl, p1, p2, p3⟩
        simp only [hp_next_tick, hp_next_rows] at p2 p3
        repeat' (first
          | (with_reducible first | refine st_seq ?_ | refine st_reg ?_ | refine st_block ?_ | refine st_nil ?_ | refine st_skip ?_ | refine st_ret ?_ | refine st_exit ?_ | refine fr_nil ?_ | refine k_seq_n ?_ | refine k_seq_r ?_ | refine k_seq_e ?_ | refine k_blk_n ?_ | refine k_blk_r ?_ | refine k_blk_s ?_ | refine k_blk_o rfl ?_ | refine k_fn_r ?_ | refine k_fn_n ?_ | refine k_lp_r ?_ | refine k_lp_e ?_)
          | ((with_reducible first | refine st_move ?_ | refine st_asg ?_ | refine st_c ?_ | refine fr_c ?_); (try (conv => arg 1; simp [h0, h1, h5, hw])); (with_reducible refine at_mk ?_))
          | ((with_reducible first | refine st_g ?_ | refine fr_g ?_); (try (conv => arg 1; simp [h0, h1, h5, hw])); (with_reducible refine at_mk ?_); with_reducible first | refine gd_tt ?_ | refine gd_ff ?_ | refine gd_tf ?_ | refine gd_ft ?_ | refine gd_no ?_)
          | ((with_reducible refine st_m rfl ?_); (try (conv => arg 1; simp [h0, h1, h5, hw])); (with_reducible refine ev2_some ?_))
          | ((with_reducible refine fr_n rfl ?_); (try (conv => arg 1; simp [h0, h1, h5, hw])); (with_reducible refine evn_some ?_))
          | ((with_reducible first | refine st_cv ?_ | refine fr_cv ?_); (try (conv => arg 1; simp [h0, h1, h5, hw])); (with_reducible refine at_mk ?_); (with_reducible refine fn_mk ?_); (try (conv => arg 1; simp [h0, h1, h5, hw])); (with_reducible refine at_mk ?_))
          | ((with_reducible refine fr_a ?_); (try (conv => arg 1; simp [h0, h1, h5, hw])); (with_reducible refine at_mk ?_); (try (conv => arg 1; simp [h0, h1, h5, hw])); (with_reducible refine at_mk ?_); refine ⟨?names, ?_⟩; (case names => (simp [appNames, ints, intss] <;> first | kernel_rfl | (refine ⟨?_, ?_⟩ <;> kernel_rfl))); (try (conv => arg 1; simp [h0, h1, h5, hw])); (with_reducible refine ev2_some ?_))
          | ((with_reducible first | refine st_q ?_ | refine fr_q ?_ | refine st_res ?_); (try (conv => arg 1; simp [h0, h1, h5, hw])); (with_reducible refine ev_some ?_))
          | ((with_reducible refine st_if ?_); (try (conv => arg 1; simp [h0, h1, h5, hw])); (with_reducible refine at_mk ?_); with_reducible first | refine br_t ?_ | refine br_f ?_))
        refine k_lp_n (i + 1) (by omega) ⟨by omega, by simp [putA_get, putA_none, h0], by simp [putA_get, putA_none, psum_succ xs i hlt]; omega, by simp [putA_get, putA_none], by simp [hp_next_tick]; omega, fun m hm => ?_, m1 ++ m3, m4, by simp, fun c => ?_, ?_⟩
        · simp only [hp_next_rows]
          rw [p2 m (fun hm3 => hm (by simp [hm3])), hoth m hm]
        · rw [List.take_add_one, List.take_add_one, marksSS_get k xs i hlt, List.getElem?_eq_getElem (show i < vs.length by omega)]
          simp only [Option.toList_some, List.map_append, List.map_cons, List.map_nil]
          refine Own.append ((o1 c).congr fun m hm => ?_) ((p1 c).congr fun m _ => by simp [hp_next_rows])
          simp only [hp_next_rows]
          refine p2 m fun hm3 => ?_
          have := (List.nodup_append.1 hnd1).2.2 m hm m (by simp [hm3])
          exact this rfl
        · refine o4.congr fun m hm => ?_
          simp only [hp_next_rows]
          refine p2 m fun hm3 => ?_
          have := (List.nodup_append.1 ((List.nodup_append.1 hnd1).2.1)).2.2 m hm3 m hm
          exact this rfl
      · have hge : i = xs.length := by simp at hb; omega
        repeat' (first
          | (with_reducible first | refine st_seq ?_ | refine st_reg ?_ | refine st_block ?_ | refine st_nil ?_ | refine st_skip ?_ | refine st_ret ?_ | refine st_exit ?_ | refine fr_nil ?_ | refine k_seq_n ?_ | refine k_seq_r ?_ | refine k_seq_e ?_ | refine k_blk_n ?_ | refine k_blk_r ?_ | refine k_blk_s ?_ | refine k_blk_o rfl ?_ | refine k_fn_r ?_ | refine k_fn_n ?_ | refine k_lp_r ?_ | refine k_lp_e ?_)
          | ((with_reducible first | refine st_move ?_ | refine st_asg ?_ | refine st_c ?_ | refine fr_c ?_); (try (conv => arg 1; simp [h0, h1, h5])); (with_reducible refine at_mk ?_))
          | ((with_reducible first | refine st_g ?_ | refine fr_g ?_); (try (conv => arg 1; simp [h0, h1, h5])); (with_reducible refine at_mk ?_); with_reducible first | refine gd_tt ?_ | refine gd_ff ?_ | refine gd_tf ?_ | refine gd_ft ?_ | refine gd_no ?_)
          | ((with_reducible refine st_m rfl ?_); (try (conv => arg 1; simp [h0, h1, h5])); (with_reducible refine ev2_some ?_))
          | ((with_reducible refine fr_n rfl ?_); (try (conv => arg 1; simp [h0, h1, h5])); (with_reducible refine evn_some ?_))
          | ((with_reducible first | refine st_cv ?_ | refine fr_cv ?_); (try (conv => arg 1; simp [h0, h1, h5])); (with_reducible refine at_mk ?_); (with_reducible refine fn_mk ?_); (try (conv => arg 1; simp [h0, h1, h5])); (with_reducible refine at_mk ?_))
          | ((with_reducible refine fr_a ?_); (try (conv => arg 1; simp [h0, h1, h5])); (with_reducible refine at_mk ?_); (try (conv => arg 1; simp [h0, h1, h5])); (with_reducible refine at_mk ?_); refine ⟨?names, ?_⟩; (case names => (simp [appNames, ints, intss] <;> first | kernel_rfl | (refine ⟨?_, ?_⟩ <;> kernel_rfl))); (try (conv => arg 1; simp [h0, h1, h5])); (with_reducible refine ev2_some ?_))
          | ((with_reducible first | refine st_q ?_ | refine fr_q ?_ | refine st_res ?_); (try (conv => arg 1; simp [h0, h1, h5])); (with_reducible refine ev_some ?_))
          | ((with_reducible refine st_if ?_); (try (conv => arg 1; simp [h0, h1, h5])); (with_reducible refine at_mk ?_); with_reducible first | refine br_t ?_ | refine br_f ?_))
        subst hge
        have hm2 : m2 = [] := by
          rw [List.drop_eq_nil_of_le (by omega), List.drop_eq_nil_of_le (by omega)] at o2
          cases o2
          rfl
        subst hm2
        refine ⟨by simp [resV], fun c => ?_, fun m hm => by
          simp only [hp_next_rows]
          exact hoth m (fun h => hm (by simp [h])), by simp [hp_next_tick]; omega⟩
        have q := o1 c
        rw [List.take_of_length_le (by omega), List.take_of_length_le (by simp [marksSS_length])] at q
        have := own_intss_mk (rows := h'.rows) (n := n) (ver := ver) (xs := marksSS k xs) (vs := vs) (sp := sp) (c := c) (by rw [hoth n hn1]; exact hr) hsp hcl q
        rw [marksSS_length] at this
        rw [e12, List.append_nil]
        exact this.congr fun m _ => by simp [hp_next_rows]
end Go.Proofs.Ytfgaoojogididaa.AM

/-
  A stepper's state, and how a run ended.
-/
set_option linter.unusedVariables false
set_option linter.unusedSimpArgs false
set_option maxRecDepth 4000
namespace Go.Proofs.Ytfgaoojogididaa.AM
open Go.RowKit

private def MU4 : FuncId → Mode := fun f => if f = 27 ∨ f = 49 ∨ f = 50 then .fresh else if f = 33 ∨ f = 52 then .heap else .tree

structure Cpu where
  At : Int
  Regs : List Int
  Slots : List Int
  Mem : List (List Int)
  Input : List Int
  Out : List Int
  Code : Int
  Over : Bool
  Val : Int
def Cpu.cells (b : Bool) (c : Cpu) : List AV := [.int .i64 c.At, ints b c.Regs, ints b c.Slots, intss b c.Mem, ints b c.Input, ints b c.Out, .int .i64 c.Code, .bool c.Over, .int .i64 c.Val]
structure EndV where
  Code : Int
  Val : Int
  Out : List Int
def EndV.cells (b : Bool) (c : EndV) : List AV := [.int .i64 c.Code, .int .i64 c.Val, ints b c.Out]
def endOf (c : Cpu) : EndV := { Code := if c.Code = 0 ∧ c.Over = false then 2 else c.Code, Val := if c.Over = true ∧ c.Code = 0 then c.Val else 0, Out := c.Out }

theorem dr_agg {c : Bool} {rows : Nm → Option Row} {as' ts : List AV} (h : DRs c rows as' ts) : DR c rows (.agg as') (.agg ts) := .agg _ _ h.1 h.2
theorem dr_ptr0 {c : Bool} {rows : Nm → Option Row} {n : Nm} {ver : Nat} {r : Row} {cs ts : List AV} (h1 : rows n = some r) (h2 : r.ver = ver) (h3 : r.elems[0]? = some cs) (h : DRs c rows cs ts) : DR c rows (.ptr n ver 0 0) (.tptr c ts) :=
  .ptr n ver 0 0 r cs ts h1 h2 h3 (by simpa using h.1) (fun j x y hx hy => h.2 j x y (by simpa using hx) hy)
theorem drs_cpu (c : Cpu) {b b' : Bool} (hb : b = true → b' = true) {rows : Nm → Option Row} : DRs b' rows (c.cells b) (c.cells b') :=
  .cons (.int _ _) (.cons (dr_ints hb _) (.cons (dr_ints hb _) (.cons (dr_intss hb _) (.cons (dr_ints hb _) (.cons (dr_ints hb _) (.cons (.int _ _) (.cons (.bool _) (.cons (.int _ _) .nil))))))))
theorem drs_end (c : EndV) {b b' : Bool} (hb : b = true → b' = true) {rows : Nm → Option Row} : DRs b' rows (c.cells b) (c.cells b') :=
  .cons (.int _ _) (.cons (.int _ _) (.cons (dr_ints hb _) .nil))

theorem l15Runs (c : Cpu) : Pure Try.prog 48 [.agg (c.cells true)] (.bool (decide (c.Code = 0) && !c.Over)) := by
  intro T
  refine enter mixed MU4 Try.func48 rfl (by kernel_rfl) rfl ?_
  by_cases hz : c.Code = 0
  · skip
    repeat' (first
      | (with_reducible first | refine st_seq ?_ | refine st_reg ?_ | refine st_block ?_ | refine st_nil ?_ | refine st_skip ?_ | refine st_ret ?_ | refine st_exit ?_ | refine fr_nil ?_ | refine k_seq_n ?_ | refine k_seq_r ?_ | refine k_seq_e ?_ | refine k_blk_n ?_ | refine k_blk_r ?_ | refine k_blk_s ?_ | refine k_blk_o rfl ?_ | refine k_fn_r ?_ | refine k_fn_n ?_ | refine k_lp_r ?_ | refine k_lp_e ?_)
      | ((with_reducible first | refine st_move ?_ | refine st_asg ?_ | refine st_c ?_ | refine fr_c ?_); (try (conv => arg 1; simp [Cpu.cells, hz])); (with_reducible refine at_mk ?_))
      | ((with_reducible first | refine st_g ?_ | refine fr_g ?_); (try (conv => arg 1; simp [Cpu.cells, hz])); (with_reducible refine at_mk ?_); with_reducible first | refine gd_tt ?_ | refine gd_ff ?_ | refine gd_tf ?_ | refine gd_ft ?_ | refine gd_no ?_)
      | ((with_reducible refine st_m rfl ?_); (try (conv => arg 1; simp [Cpu.cells, hz])); (with_reducible refine ev2_some ?_))
      | ((with_reducible refine fr_n rfl ?_); (try (conv => arg 1; simp [Cpu.cells, hz])); (with_reducible refine evn_some ?_))
      | ((with_reducible first | refine st_cv ?_ | refine fr_cv ?_); (try (conv => arg 1; simp [Cpu.cells, hz])); (with_reducible refine at_mk ?_); (with_reducible refine fn_mk ?_); (try (conv => arg 1; simp [Cpu.cells, hz])); (with_reducible refine at_mk ?_))
      | ((with_reducible refine fr_a ?_); (try (conv => arg 1; simp [Cpu.cells, hz])); (with_reducible refine at_mk ?_); (try (conv => arg 1; simp [Cpu.cells, hz])); (with_reducible refine at_mk ?_); refine ⟨?names, ?_⟩; (case names => (simp [appNames, ints, intss] <;> first | kernel_rfl | (refine ⟨?_, ?_⟩ <;> kernel_rfl))); (try (conv => arg 1; simp [Cpu.cells, hz])); (with_reducible refine ev2_some ?_))
      | ((with_reducible first | refine st_q ?_ | refine fr_q ?_ | refine st_res ?_); (try (conv => arg 1; simp [Cpu.cells, hz])); (with_reducible refine ev_some ?_))
      | ((with_reducible refine st_if ?_); (try (conv => arg 1; simp [Cpu.cells, hz])); (with_reducible refine at_mk ?_); with_reducible first | refine br_t ?_ | refine br_f ?_))
    simp [resV, hz]; exact .bool _
  · skip
    repeat' (first
      | (with_reducible first | refine st_seq ?_ | refine st_reg ?_ | refine st_block ?_ | refine st_nil ?_ | refine st_skip ?_ | refine st_ret ?_ | refine st_exit ?_ | refine fr_nil ?_ | refine k_seq_n ?_ | refine k_seq_r ?_ | refine k_seq_e ?_ | refine k_blk_n ?_ | refine k_blk_r ?_ | refine k_blk_s ?_ | refine k_blk_o rfl ?_ | refine k_fn_r ?_ | refine k_fn_n ?_ | refine k_lp_r ?_ | refine k_lp_e ?_)
      | ((with_reducible first | refine st_move ?_ | refine st_asg ?_ | refine st_c ?_ | refine fr_c ?_); (try (conv => arg 1; simp [Cpu.cells, hz])); (with_reducible refine at_mk ?_))
      | ((with_reducible first | refine st_g ?_ | refine fr_g ?_); (try (conv => arg 1; simp [Cpu.cells, hz])); (with_reducible refine at_mk ?_); with_reducible first | refine gd_tt ?_ | refine gd_ff ?_ | refine gd_tf ?_ | refine gd_ft ?_ | refine gd_no ?_)
      | ((with_reducible refine st_m rfl ?_); (try (conv => arg 1; simp [Cpu.cells, hz])); (with_reducible refine ev2_some ?_))
      | ((with_reducible refine fr_n rfl ?_); (try (conv => arg 1; simp [Cpu.cells, hz])); (with_reducible refine evn_some ?_))
      | ((with_reducible first | refine st_cv ?_ | refine fr_cv ?_); (try (conv => arg 1; simp [Cpu.cells, hz])); (with_reducible refine at_mk ?_); (with_reducible refine fn_mk ?_); (try (conv => arg 1; simp [Cpu.cells, hz])); (with_reducible refine at_mk ?_))
      | ((with_reducible refine fr_a ?_); (try (conv => arg 1; simp [Cpu.cells, hz])); (with_reducible refine at_mk ?_); (try (conv => arg 1; simp [Cpu.cells, hz])); (with_reducible refine at_mk ?_); refine ⟨?names, ?_⟩; (case names => (simp [appNames, ints, intss] <;> first | kernel_rfl | (refine ⟨?_, ?_⟩ <;> kernel_rfl))); (try (conv => arg 1; simp [Cpu.cells, hz])); (with_reducible refine ev2_some ?_))
      | ((with_reducible first | refine st_q ?_ | refine fr_q ?_ | refine st_res ?_); (try (conv => arg 1; simp [Cpu.cells, hz])); (with_reducible refine ev_some ?_))
      | ((with_reducible refine st_if ?_); (try (conv => arg 1; simp [Cpu.cells, hz])); (with_reducible refine at_mk ?_); with_reducible first | refine br_t ?_ | refine br_f ?_))
    simp [resV, hz]; exact .bool _

theorem runs (c : Cpu) : Pure Try.prog 71 [.tptr true (c.cells true)] (.bool (decide (c.Code = 0) && !c.Over)) := by
  intro T
  refine enter mixed MU4 Try.func71 rfl (by kernel_rfl) rfl ?_
  by_cases hz : c.Code = 0
  · skip
    repeat' (first
      | (with_reducible first | refine st_seq ?_ | refine st_reg ?_ | refine st_block ?_ | refine st_nil ?_ | refine st_skip ?_ | refine st_ret ?_ | refine st_exit ?_ | refine fr_nil ?_ | refine k_seq_n ?_ | refine k_seq_r ?_ | refine k_seq_e ?_ | refine k_blk_n ?_ | refine k_blk_r ?_ | refine k_blk_s ?_ | refine k_blk_o rfl ?_ | refine k_fn_r ?_ | refine k_fn_n ?_ | refine k_lp_r ?_ | refine k_lp_e ?_)
      | ((with_reducible first | refine st_move ?_ | refine st_asg ?_ | refine st_c ?_ | refine fr_c ?_); (try (conv => arg 1; simp [Cpu.cells, hz])); (with_reducible refine at_mk ?_))
      | ((with_reducible first | refine st_g ?_ | refine fr_g ?_); (try (conv => arg 1; simp [Cpu.cells, hz])); (with_reducible refine at_mk ?_); with_reducible first | refine gd_tt ?_ | refine gd_ff ?_ | refine gd_tf ?_ | refine gd_ft ?_ | refine gd_no ?_)
      | ((with_reducible refine st_m rfl ?_); (try (conv => arg 1; simp [Cpu.cells, hz])); (with_reducible refine ev2_some ?_))
      | ((with_reducible refine fr_n rfl ?_); (try (conv => arg 1; simp [Cpu.cells, hz])); (with_reducible refine evn_some ?_))
      | ((with_reducible first | refine st_cv ?_ | refine fr_cv ?_); (try (conv => arg 1; simp [Cpu.cells, hz])); (with_reducible refine at_mk ?_); (with_reducible refine fn_mk ?_); (try (conv => arg 1; simp [Cpu.cells, hz])); (with_reducible refine at_mk ?_))
      | ((with_reducible refine fr_a ?_); (try (conv => arg 1; simp [Cpu.cells, hz])); (with_reducible refine at_mk ?_); (try (conv => arg 1; simp [Cpu.cells, hz])); (with_reducible refine at_mk ?_); refine ⟨?names, ?_⟩; (case names => (simp [appNames, ints, intss] <;> first | kernel_rfl | (refine ⟨?_, ?_⟩ <;> kernel_rfl))); (try (conv => arg 1; simp [Cpu.cells, hz])); (with_reducible refine ev2_some ?_))
      | ((with_reducible first | refine st_q ?_ | refine fr_q ?_ | refine st_res ?_); (try (conv => arg 1; simp [Cpu.cells, hz])); (with_reducible refine ev_some ?_))
      | ((with_reducible refine st_if ?_); (try (conv => arg 1; simp [Cpu.cells, hz])); (with_reducible refine at_mk ?_); with_reducible first | refine br_t ?_ | refine br_f ?_))
    simp [resV, hz]; exact .bool _
  · skip
    repeat' (first
      | (with_reducible first | refine st_seq ?_ | refine st_reg ?_ | refine st_block ?_ | refine st_nil ?_ | refine st_skip ?_ | refine st_ret ?_ | refine st_exit ?_ | refine fr_nil ?_ | refine k_seq_n ?_ | refine k_seq_r ?_ | refine k_seq_e ?_ | refine k_blk_n ?_ | refine k_blk_r ?_ | refine k_blk_s ?_ | refine k_blk_o rfl ?_ | refine k_fn_r ?_ | refine k_fn_n ?_ | refine k_lp_r ?_ | refine k_lp_e ?_)
      | ((with_reducible first | refine st_move ?_ | refine st_asg ?_ | refine st_c ?_ | refine fr_c ?_); (try (conv => arg 1; simp [Cpu.cells, hz])); (with_reducible refine at_mk ?_))
      | ((with_reducible first | refine st_g ?_ | refine fr_g ?_); (try (conv => arg 1; simp [Cpu.cells, hz])); (with_reducible refine at_mk ?_); with_reducible first | refine gd_tt ?_ | refine gd_ff ?_ | refine gd_tf ?_ | refine gd_ft ?_ | refine gd_no ?_)
      | ((with_reducible refine st_m rfl ?_); (try (conv => arg 1; simp [Cpu.cells, hz])); (with_reducible refine ev2_some ?_))
      | ((with_reducible refine fr_n rfl ?_); (try (conv => arg 1; simp [Cpu.cells, hz])); (with_reducible refine evn_some ?_))
      | ((with_reducible first | refine st_cv ?_ | refine fr_cv ?_); (try (conv => arg 1; simp [Cpu.cells, hz])); (with_reducible refine at_mk ?_); (with_reducible refine fn_mk ?_); (try (conv => arg 1; simp [Cpu.cells, hz])); (with_reducible refine at_mk ?_))
      | ((with_reducible refine fr_a ?_); (try (conv => arg 1; simp [Cpu.cells, hz])); (with_reducible refine at_mk ?_); (try (conv => arg 1; simp [Cpu.cells, hz])); (with_reducible refine at_mk ?_); refine ⟨?names, ?_⟩; (case names => (simp [appNames, ints, intss] <;> first | kernel_rfl | (refine ⟨?_, ?_⟩ <;> kernel_rfl))); (try (conv => arg 1; simp [Cpu.cells, hz])); (with_reducible refine ev2_some ?_))
      | ((with_reducible first | refine st_q ?_ | refine fr_q ?_ | refine st_res ?_); (try (conv => arg 1; simp [Cpu.cells, hz])); (with_reducible refine ev_some ?_))
      | ((with_reducible refine st_if ?_); (try (conv => arg 1; simp [Cpu.cells, hz])); (with_reducible refine at_mk ?_); with_reducible first | refine br_t ?_ | refine br_f ?_))
    simp [resV, hz]; exact .bool _

theorem specCpuEnd (c : Cpu) (hl : c.Out.length ≤ 2 ^ 20) : Pure Try.prog 13 [.agg (c.cells true)] (.agg ((endOf c).cells false)) := by
  obtain ⟨At, Regs, Slots, Mem, Input, Out, Code, Over, Val⟩ := c
  simp only at hl
  intro T
  have hl2 : Out.length ≤ 4294967296 := by omega
  refine enter mixed MU4 Try.func13 rfl (by kernel_rfl) rfl ?_
  by_cases hz : Code = 0
  all_goals try subst hz
  all_goals cases Over
  all_goals
    repeat' (first
      | (with_reducible first | refine st_seq ?_ | refine st_reg ?_ | refine st_block ?_ | refine st_nil ?_ | refine st_skip ?_ | refine st_ret ?_ | refine st_exit ?_ | refine fr_nil ?_ | refine k_seq_n ?_ | refine k_seq_r ?_ | refine k_seq_e ?_ | refine k_blk_n ?_ | refine k_blk_r ?_ | refine k_blk_s ?_ | refine k_blk_o rfl ?_ | refine k_fn_r ?_ | refine k_fn_n ?_ | refine k_lp_r ?_ | refine k_lp_e ?_)
      | ((with_reducible first | refine st_move ?_ | refine st_asg ?_ | refine st_c ?_ | refine fr_c ?_); (try (conv => arg 1; simp [Cpu.cells, *])); (with_reducible refine at_mk ?_))
      | ((with_reducible first | refine st_g ?_ | refine fr_g ?_); (try (conv => arg 1; simp [Cpu.cells, *])); (with_reducible refine at_mk ?_); with_reducible first | refine gd_tt ?_ | refine gd_ff ?_ | refine gd_tf ?_ | refine gd_ft ?_ | refine gd_no ?_)
      | ((with_reducible refine st_m rfl ?_); (try (conv => arg 1; simp [Cpu.cells, *])); (with_reducible refine ev2_some ?_))
      | ((with_reducible refine fr_n rfl ?_); (try (conv => arg 1; simp [Cpu.cells, *])); (with_reducible refine evn_some ?_))
      | ((with_reducible first | refine st_cv ?_ | refine fr_cv ?_); (try (conv => arg 1; simp [Cpu.cells, *])); (with_reducible refine at_mk ?_); (with_reducible refine fn_mk ?_); (try (conv => arg 1; simp [Cpu.cells, *])); (with_reducible refine at_mk ?_))
      | ((with_reducible refine fr_a ?_); (try (conv => arg 1; simp [Cpu.cells, *])); (with_reducible refine at_mk ?_); (try (conv => arg 1; simp [Cpu.cells, *])); (with_reducible refine at_mk ?_); refine ⟨?names, ?_⟩; (case names => (simp [appNames, ints, intss] <;> first | kernel_rfl | (refine ⟨?_, ?_⟩ <;> kernel_rfl))); (try (conv => arg 1; simp [Cpu.cells, *])); (with_reducible refine ev2_some ?_))
      | ((with_reducible first | refine st_q ?_ | refine fr_q ?_ | refine st_res ?_); (try (conv => arg 1; simp [Cpu.cells, *])); (with_reducible refine ev_some ?_))
      | ((with_reducible refine st_if ?_); (try (conv => arg 1; simp [Cpu.cells, *])); (with_reducible refine at_mk ?_); with_reducible first | refine br_t ?_ | refine br_f ?_))
    refine st_tree rfl (l15Runs ⟨At, Regs, Slots, Mem, Input, Out, _, _, Val⟩) (.cons (dr_agg (drs_cpu _ (fun _ => rfl))) .nil) ?_
    repeat' (first
      | (with_reducible first | refine st_seq ?_ | refine st_reg ?_ | refine st_block ?_ | refine st_nil ?_ | refine st_skip ?_ | refine st_ret ?_ | refine st_exit ?_ | refine fr_nil ?_ | refine k_seq_n ?_ | refine k_seq_r ?_ | refine k_seq_e ?_ | refine k_blk_n ?_ | refine k_blk_r ?_ | refine k_blk_s ?_ | refine k_blk_o rfl ?_ | refine k_fn_r ?_ | refine k_fn_n ?_ | refine k_lp_r ?_ | refine k_lp_e ?_)
      | ((with_reducible first | refine st_move ?_ | refine st_asg ?_ | refine st_c ?_ | refine fr_c ?_); (try (conv => arg 1; simp [Cpu.cells, *])); (with_reducible refine at_mk ?_))
      | ((with_reducible first | refine st_g ?_ | refine fr_g ?_); (try (conv => arg 1; simp [Cpu.cells, *])); (with_reducible refine at_mk ?_); with_reducible first | refine gd_tt ?_ | refine gd_ff ?_ | refine gd_tf ?_ | refine gd_ft ?_ | refine gd_no ?_)
      | ((with_reducible refine st_m rfl ?_); (try (conv => arg 1; simp [Cpu.cells, *])); (with_reducible refine ev2_some ?_))
      | ((with_reducible refine fr_n rfl ?_); (try (conv => arg 1; simp [Cpu.cells, *])); (with_reducible refine evn_some ?_))
      | ((with_reducible first | refine st_cv ?_ | refine fr_cv ?_); (try (conv => arg 1; simp [Cpu.cells, *])); (with_reducible refine at_mk ?_); (with_reducible refine fn_mk ?_); (try (conv => arg 1; simp [Cpu.cells, *])); (with_reducible refine at_mk ?_))
      | ((with_reducible refine fr_a ?_); (try (conv => arg 1; simp [Cpu.cells, *])); (with_reducible refine at_mk ?_); (try (conv => arg 1; simp [Cpu.cells, *])); (with_reducible refine at_mk ?_); refine ⟨?names, ?_⟩; (case names => (simp [appNames, ints, intss] <;> first | kernel_rfl | (refine ⟨?_, ?_⟩ <;> kernel_rfl))); (try (conv => arg 1; simp [Cpu.cells, *])); (with_reducible refine ev2_some ?_))
      | ((with_reducible first | refine st_q ?_ | refine fr_q ?_ | refine st_res ?_); (try (conv => arg 1; simp [Cpu.cells, *])); (with_reducible refine ev_some ?_))
      | ((with_reducible refine st_if ?_); (try (conv => arg 1; simp [Cpu.cells, *])); (with_reducible refine at_mk ?_); with_reducible first | refine br_t ?_ | refine br_f ?_))
    conv => arg 4; simp [endOf, EndV.cells, *]
    refine dr_agg (.cons (.int _ _) (.cons (.int _ _) (.cons ?_ .nil)))
    refine (own_ints (ys := Out) ?_ List.take_length rfl).dr 0 _ _ rfl rfl
    simp [hp_next_rows, hp_rows_put]
end Go.Proofs.Ytfgaoojogididaa.AM

/-
  How a run ended: the implementation's own.
-/
set_option linter.unusedVariables false
set_option linter.unusedSimpArgs false
set_option maxRecDepth 4000
namespace Go.Proofs.Ytfgaoojogididaa.AM
open Go.RowKit

private def MU5 : FuncId → Mode := fun f => if f = 50 then .fresh else .tree

theorem dr_tptr {rows : Nm → Option Row} {cs ts : List AV} (h : DRs true rows cs ts) : DR true rows (.tptr true cs) (.tptr true ts) := .tptr true cs ts (fun h => h) h.1 h.2

theorem cpuEnd (c : Cpu) (hl : c.Out.length ≤ 2 ^ 20) : Fresh Try.prog 50 [.tptr true (c.cells true)] (fun b => .agg ((endOf c).cells b)) := by
  obtain ⟨At, Regs, Slots, Mem, Input, Out, Code, Over, Val⟩ := c
  simp only at hl
  intro T
  have hl2 : Out.length ≤ 4294967296 := by omega
  refine enter mixed MU5 Try.func50 rfl (by kernel_rfl) rfl ?_
  by_cases hz : Code = 0
  all_goals try subst hz
  all_goals cases Over
  all_goals
    repeat' (first
      | (with_reducible first | refine st_seq ?_ | refine st_reg ?_ | refine st_block ?_ | refine st_nil ?_ | refine st_skip ?_ | refine st_ret ?_ | refine st_exit ?_ | refine fr_nil ?_ | refine k_seq_n ?_ | refine k_seq_r ?_ | refine k_seq_e ?_ | refine k_blk_n ?_ | refine k_blk_r ?_ | refine k_blk_s ?_ | refine k_blk_o rfl ?_ | refine k_fn_r ?_ | refine k_fn_n ?_ | refine k_lp_r ?_ | refine k_lp_e ?_)
      | ((with_reducible first | refine st_move ?_ | refine st_asg ?_ | refine st_c ?_ | refine fr_c ?_); (try (conv => arg 1; simp [Cpu.cells, *])); (with_reducible refine at_mk ?_))
      | ((with_reducible first | refine st_g ?_ | refine fr_g ?_); (try (conv => arg 1; simp [Cpu.cells, *])); (with_reducible refine at_mk ?_); with_reducible first | refine gd_tt ?_ | refine gd_ff ?_ | refine gd_tf ?_ | refine gd_ft ?_ | refine gd_no ?_)
      | ((with_reducible refine st_m rfl ?_); (try (conv => arg 1; simp [Cpu.cells, *])); (with_reducible refine ev2_some ?_))
      | ((with_reducible refine fr_n rfl ?_); (try (conv => arg 1; simp [Cpu.cells, *])); (with_reducible refine evn_some ?_))
      | ((with_reducible first | refine st_cv ?_ | refine fr_cv ?_); (try (conv => arg 1; simp [Cpu.cells, *])); (with_reducible refine at_mk ?_); (with_reducible refine fn_mk ?_); (try (conv => arg 1; simp [Cpu.cells, *])); (with_reducible refine at_mk ?_))
      | ((with_reducible refine fr_a ?_); (try (conv => arg 1; simp [Cpu.cells, *])); (with_reducible refine at_mk ?_); (try (conv => arg 1; simp [Cpu.cells, *])); (with_reducible refine at_mk ?_); refine ⟨?names, ?_⟩; (case names => (simp [appNames, ints, intss] <;> first | kernel_rfl | (refine ⟨?_, ?_⟩ <;> kernel_rfl))); (try (conv => arg 1; simp [Cpu.cells, *])); (with_reducible refine ev2_some ?_))
      | ((with_reducible first | refine st_q ?_ | refine fr_q ?_ | refine st_res ?_); (try (conv => arg 1; simp [Cpu.cells, *])); (with_reducible refine ev_some ?_))
      | ((with_reducible refine st_if ?_); (try (conv => arg 1; simp [Cpu.cells, *])); (with_reducible refine at_mk ?_); with_reducible first | refine br_t ?_ | refine br_f ?_))
    refine st_draw 12 (fun _ => false) (by kernel_rfl) ?_
    simp only [List.take_succ_cons, List.take_zero, List.drop_succ_cons, List.drop_zero, List.take_nil, List.drop_nil]
    repeat' (first
      | (with_reducible first | refine st_seq ?_ | refine st_reg ?_ | refine st_block ?_ | refine st_nil ?_ | refine st_skip ?_ | refine st_ret ?_ | refine st_exit ?_ | refine fr_nil ?_ | refine k_seq_n ?_ | refine k_seq_r ?_ | refine k_seq_e ?_ | refine k_blk_n ?_ | refine k_blk_r ?_ | refine k_blk_s ?_ | refine k_blk_o rfl ?_ | refine k_fn_r ?_ | refine k_fn_n ?_ | refine k_lp_r ?_ | refine k_lp_e ?_)
      | ((with_reducible first | refine st_move ?_ | refine st_asg ?_ | refine st_c ?_ | refine fr_c ?_); (try (conv => arg 1; simp [Cpu.cells, *])); (with_reducible refine at_mk ?_))
      | ((with_reducible first | refine st_g ?_ | refine fr_g ?_); (try (conv => arg 1; simp [Cpu.cells, *])); (with_reducible refine at_mk ?_); with_reducible first | refine gd_tt ?_ | refine gd_ff ?_ | refine gd_tf ?_ | refine gd_ft ?_ | refine gd_no ?_)
      | ((with_reducible refine st_m rfl ?_); (try (conv => arg 1; simp [Cpu.cells, *])); (with_reducible refine ev2_some ?_))
      | ((with_reducible refine fr_n rfl ?_); (try (conv => arg 1; simp [Cpu.cells, *])); (with_reducible refine evn_some ?_))
      | ((with_reducible first | refine st_cv ?_ | refine fr_cv ?_); (try (conv => arg 1; simp [Cpu.cells, *])); (with_reducible refine at_mk ?_); (with_reducible refine fn_mk ?_); (try (conv => arg 1; simp [Cpu.cells, *])); (with_reducible refine at_mk ?_))
      | ((with_reducible refine fr_a ?_); (try (conv => arg 1; simp [Cpu.cells, *])); (with_reducible refine at_mk ?_); (try (conv => arg 1; simp [Cpu.cells, *])); (with_reducible refine at_mk ?_); refine ⟨?names, ?_⟩; (case names => (simp [appNames, ints, intss] <;> first | kernel_rfl | (refine ⟨?_, ?_⟩ <;> kernel_rfl))); (try (conv => arg 1; simp [Cpu.cells, *])); (with_reducible refine ev2_some ?_))
      | ((with_reducible first | refine st_q ?_ | refine fr_q ?_ | refine st_res ?_); (try (conv => arg 1; simp [Cpu.cells, *])); (with_reducible refine ev_some ?_))
      | ((with_reducible refine st_if ?_); (try (conv => arg 1; simp [Cpu.cells, *])); (with_reducible refine at_mk ?_); with_reducible first | refine br_t ?_ | refine br_f ?_))
    refine st_tree rfl (runs ⟨At, Regs, Slots, Mem, Input, Out, _, _, Val⟩) (.cons (dr_tptr (drs_cpu _ (fun _ => rfl))) .nil) ?_
    repeat' (first
      | (with_reducible first | refine st_seq ?_ | refine st_reg ?_ | refine st_block ?_ | refine st_nil ?_ | refine st_skip ?_ | refine st_ret ?_ | refine st_exit ?_ | refine fr_nil ?_ | refine k_seq_n ?_ | refine k_seq_r ?_ | refine k_seq_e ?_ | refine k_blk_n ?_ | refine k_blk_r ?_ | refine k_blk_s ?_ | refine k_blk_o rfl ?_ | refine k_fn_r ?_ | refine k_fn_n ?_ | refine k_lp_r ?_ | refine k_lp_e ?_)
      | ((with_reducible first | refine st_move ?_ | refine st_asg ?_ | refine st_c ?_ | refine fr_c ?_); (try (conv => arg 1; simp [Cpu.cells, *])); (with_reducible refine at_mk ?_))
      | ((with_reducible first | refine st_g ?_ | refine fr_g ?_); (try (conv => arg 1; simp [Cpu.cells, *])); (with_reducible refine at_mk ?_); with_reducible first | refine gd_tt ?_ | refine gd_ff ?_ | refine gd_tf ?_ | refine gd_ft ?_ | refine gd_no ?_)
      | ((with_reducible refine st_m rfl ?_); (try (conv => arg 1; simp [Cpu.cells, *])); (with_reducible refine ev2_some ?_))
      | ((with_reducible refine fr_n rfl ?_); (try (conv => arg 1; simp [Cpu.cells, *])); (with_reducible refine evn_some ?_))
      | ((with_reducible first | refine st_cv ?_ | refine fr_cv ?_); (try (conv => arg 1; simp [Cpu.cells, *])); (with_reducible refine at_mk ?_); (with_reducible refine fn_mk ?_); (try (conv => arg 1; simp [Cpu.cells, *])); (with_reducible refine at_mk ?_))
      | ((with_reducible refine fr_a ?_); (try (conv => arg 1; simp [Cpu.cells, *])); (with_reducible refine at_mk ?_); (try (conv => arg 1; simp [Cpu.cells, *])); (with_reducible refine at_mk ?_); refine ⟨?names, ?_⟩; (case names => (simp [appNames, ints, intss] <;> first | kernel_rfl | (refine ⟨?_, ?_⟩ <;> kernel_rfl))); (try (conv => arg 1; simp [Cpu.cells, *])); (with_reducible refine ev2_some ?_))
      | ((with_reducible first | refine st_q ?_ | refine fr_q ?_ | refine st_res ?_); (try (conv => arg 1; simp [Cpu.cells, *])); (with_reducible refine ev_some ?_))
      | ((with_reducible refine st_if ?_); (try (conv => arg 1; simp [Cpu.cells, *])); (with_reducible refine at_mk ?_); with_reducible first | refine br_t ?_ | refine br_f ?_))
    refine ⟨by simp [hp_next_tick, hp_put_tick, hp_mt_tick] <;> omega, [(T + 1, 4, 0)], fun b => ?_, by simp, by simp [hp_next_tick, hp_put_tick, hp_mt_tick] <;> omega⟩
    simp only [resV]
    conv => arg 4; simp [endOf, EndV.cells, *]
    refine .agg (.int _ _ (.int _ _ ?_))
    refine own_ints (ys := Out) ?_ List.take_length rfl
    simp [hp_next_rows, hp_rows_put]
end Go.Proofs.Ytfgaoojogididaa.AM

/-
  How a run ended: equal, marked, held.
-/
set_option linter.unusedVariables false
set_option linter.unusedSimpArgs false
set_option maxRecDepth 4000
namespace Go.Proofs.Ytfgaoojogididaa.AM
open Go.RowKit

private def MU6 : FuncId → Mode := fun f => if f = 50 then .fresh else if f = 33 then .heap else .tree

theorem ownV_end {rows : Nm → Option Row} {b : Bool} {v : AV} {e : EndV} {ns : List Nm} (h : OwnV rows b v (.agg (e.cells b)) ns) : ∃ w, v = .agg [.int .i64 e.Code, .int .i64 e.Val, w] ∧ Own rows b [w] [ints b e.Out] ns := by
  generalize ht : AV.agg (e.cells b) = t at h
  cases h with
  | one h => subst ht; unfold EndV.cells at h; cases h
  | @agg l _ _ h =>
    cases ht
    unfold EndV.cells at h
    have hl := h.length
    match l, hl, h with
    | [a1, a2, w], _, h =>
      cases h with
      | int _ _ h => cases h with
        | int _ _ h => exact ⟨w, rfl, h⟩
  | tup2 => cases ht

theorem implCpuEnd (c : Cpu) (hl : c.Out.length ≤ 2 ^ 20) : Fresh Try.prog 15 [.agg (c.cells true)] (fun b => .agg ((endOf c).cells b)) := by
  obtain ⟨At, Regs, Slots, Mem, Input, Out, Code, Over, Val⟩ := c
  intro T
  refine enter mixed MU6 Try.func15 rfl (by kernel_rfl) rfl ?_
  repeat' (first
    | (with_reducible first | refine st_seq ?_ | refine st_reg ?_ | refine st_block ?_ | refine st_nil ?_ | refine st_skip ?_ | refine st_ret ?_ | refine st_exit ?_ | refine fr_nil ?_ | refine k_seq_n ?_ | refine k_seq_r ?_ | refine k_seq_e ?_ | refine k_blk_n ?_ | refine k_blk_r ?_ | refine k_blk_s ?_ | refine k_blk_o rfl ?_ | refine k_fn_r ?_ | refine k_fn_n ?_ | refine k_lp_r ?_ | refine k_lp_e ?_)
    | ((with_reducible first | refine st_move ?_ | refine st_asg ?_ | refine st_c ?_ | refine fr_c ?_); (try (conv => arg 1; simp [Cpu.cells])); (with_reducible refine at_mk ?_))
    | ((with_reducible first | refine st_g ?_ | refine fr_g ?_); (try (conv => arg 1; simp [Cpu.cells])); (with_reducible refine at_mk ?_); with_reducible first | refine gd_tt ?_ | refine gd_ff ?_ | refine gd_tf ?_ | refine gd_ft ?_ | refine gd_no ?_)
    | ((with_reducible refine st_m rfl ?_); (try (conv => arg 1; simp [Cpu.cells])); (with_reducible refine ev2_some ?_))
    | ((with_reducible refine fr_n rfl ?_); (try (conv => arg 1; simp [Cpu.cells])); (with_reducible refine evn_some ?_))
    | ((with_reducible first | refine st_cv ?_ | refine fr_cv ?_); (try (conv => arg 1; simp [Cpu.cells])); (with_reducible refine at_mk ?_); (with_reducible refine fn_mk ?_); (try (conv => arg 1; simp [Cpu.cells])); (with_reducible refine at_mk ?_))
    | ((with_reducible refine fr_a ?_); (try (conv => arg 1; simp [Cpu.cells])); (with_reducible refine at_mk ?_); (try (conv => arg 1; simp [Cpu.cells])); (with_reducible refine at_mk ?_); refine ⟨?names, ?_⟩; (case names => (simp [appNames, ints, intss] <;> first | kernel_rfl | (refine ⟨?_, ?_⟩ <;> kernel_rfl))); (try (conv => arg 1; simp [Cpu.cells])); (with_reducible refine ev2_some ?_))
    | ((with_reducible first | refine st_q ?_ | refine fr_q ?_ | refine st_res ?_); (try (conv => arg 1; simp [Cpu.cells])); (with_reducible refine ev_some ?_))
    | ((with_reducible refine st_if ?_); (try (conv => arg 1; simp [Cpu.cells])); (with_reducible refine at_mk ?_); with_reducible first | refine br_t ?_ | refine br_f ?_))
  refine st_fresh rfl (cpuEnd ⟨At, Regs, Slots, Mem, Input, Out, Code, Over, Val⟩ hl) (.cons (dr_ptr0 (r := ⟨0, 9, [Cpu.cells true ⟨At, Regs, Slots, Mem, Input, Out, Code, Over, Val⟩]⟩) (by simp [hp_next_rows, hp_rows_put, Cpu.cells]) rfl rfl (drs_cpu _ (fun _ => rfl))) .nil) ?_
  intro v h' ns o1 d1 f1 p1 t1
  obtain ⟨w, rfl, ow⟩ := ownV_end (o1 true)
  have q := own_one ow
  have hr : h'.rows (T, 1, 0) = some ⟨0, 3, [[.int .i64 0, .int .i64 0, .nilsl]]⟩ := by
    rw [p1 _ (by simp [hp_next_tick, hp_put_tick, hp_mt_tick] <;> omega)]
    simp [hp_next_rows, hp_rows_put]
  simp only [hp_next_tick, hp_put_tick, hp_mt_tick] at f1 t1
  have ht : T < h'.tick := by omega
  repeat' (first
    | (with_reducible first | refine st_seq ?_ | refine st_reg ?_ | refine st_block ?_ | refine st_nil ?_ | refine st_skip ?_ | refine st_ret ?_ | refine st_exit ?_ | refine fr_nil ?_ | refine k_seq_n ?_ | refine k_seq_r ?_ | refine k_seq_e ?_ | refine k_blk_n ?_ | refine k_blk_r ?_ | refine k_blk_s ?_ | refine k_blk_o rfl ?_ | refine k_fn_r ?_ | refine k_fn_n ?_ | refine k_lp_r ?_ | refine k_lp_e ?_)
    | ((with_reducible first | refine st_move ?_ | refine st_asg ?_ | refine st_c ?_ | refine fr_c ?_); (try (conv => arg 1; simp [hr, ht, q.1])); (with_reducible refine at_mk ?_))
    | ((with_reducible first | refine st_g ?_ | refine fr_g ?_); (try (conv => arg 1; simp [hr, ht, q.1])); (with_reducible refine at_mk ?_); with_reducible first | refine gd_tt ?_ | refine gd_ff ?_ | refine gd_tf ?_ | refine gd_ft ?_ | refine gd_no ?_)
    | ((with_reducible refine st_m rfl ?_); (try (conv => arg 1; simp [hr, ht, q.1])); (with_reducible refine ev2_some ?_))
    | ((with_reducible refine fr_n rfl ?_); (try (conv => arg 1; simp [hr, ht, q.1])); (with_reducible refine evn_some ?_))
    | ((with_reducible first | refine st_cv ?_ | refine fr_cv ?_); (try (conv => arg 1; simp [hr, ht, q.1])); (with_reducible refine at_mk ?_); (with_reducible refine fn_mk ?_); (try (conv => arg 1; simp [hr, ht, q.1])); (with_reducible refine at_mk ?_))
    | ((with_reducible refine fr_a ?_); (try (conv => arg 1; simp [hr, ht, q.1])); (with_reducible refine at_mk ?_); (try (conv => arg 1; simp [hr, ht, q.1])); (with_reducible refine at_mk ?_); refine ⟨?names, ?_⟩; (case names => (simp [appNames, ints, intss] <;> first | kernel_rfl | (refine ⟨?_, ?_⟩ <;> kernel_rfl))); (try (conv => arg 1; simp [hr, ht, q.1])); (with_reducible refine ev2_some ?_))
    | ((with_reducible first | refine st_q ?_ | refine fr_q ?_ | refine st_res ?_); (try (conv => arg 1; simp [hr, ht, q.1])); (with_reducible refine ev_some ?_))
    | ((with_reducible refine st_if ?_); (try (conv => arg 1; simp [hr, ht, q.1])); (with_reducible refine at_mk ?_); with_reducible first | refine br_t ?_ | refine br_f ?_))
  refine ⟨by simp [hp_next_tick, hp_put_tick] <;> omega, ns, fun b => ?_, d1, fun n hn => by have := f1 n hn; simp [hp_next_tick, hp_put_tick]; omega⟩
  simp only [resV]
  refine (o1 b).congr fun n hn => ?_
  have := f1 n hn
  have hne : n ≠ (T, 1, 0) := fun e => by rw [e] at this; simp at this; omega
  simp [hp_rows_put, hne]
end Go.Proofs.Ytfgaoojogididaa.AM

/-
  How a run ended: equal, marked, held.
-/
set_option linter.unusedVariables false
set_option linter.unusedSimpArgs false
set_option maxRecDepth 4000
namespace Go.Proofs.Ytfgaoojogididaa.AM
open Go.RowKit

private def MU7 : FuncId → Mode := fun f => if f = 33 then .heap else .tree

theorem eqEnd (e : EndV) (hl : e.Out.length ≤ 2 ^ 62) : Pure Try.prog 16 [.agg (e.cells true), .agg (e.cells true)] (.bool true) := by
  intro T
  refine enter mixed MU7 Try.func16 rfl (by kernel_rfl) rfl ?_
  repeat' (first
    | (with_reducible first | refine st_seq ?_ | refine st_reg ?_ | refine st_block ?_ | refine st_nil ?_ | refine st_skip ?_ | refine st_ret ?_ | refine st_exit ?_ | refine fr_nil ?_ | refine k_seq_n ?_ | refine k_seq_r ?_ | refine k_seq_e ?_ | refine k_blk_n ?_ | refine k_blk_r ?_ | refine k_blk_s ?_ | refine k_blk_o rfl ?_ | refine k_fn_r ?_ | refine k_fn_n ?_ | refine k_lp_r ?_ | refine k_lp_e ?_)
    | ((with_reducible first | refine st_move ?_ | refine st_asg ?_ | refine st_c ?_ | refine fr_c ?_); (try (conv => arg 1; simp [EndV.cells])); (with_reducible refine at_mk ?_))
    | ((with_reducible first | refine st_g ?_ | refine fr_g ?_); (try (conv => arg 1; simp [EndV.cells])); (with_reducible refine at_mk ?_); with_reducible first | refine gd_tt ?_ | refine gd_ff ?_ | refine gd_tf ?_ | refine gd_ft ?_ | refine gd_no ?_)
    | ((with_reducible refine st_m rfl ?_); (try (conv => arg 1; simp [EndV.cells])); (with_reducible refine ev2_some ?_))
    | ((with_reducible refine fr_n rfl ?_); (try (conv => arg 1; simp [EndV.cells])); (with_reducible refine evn_some ?_))
    | ((with_reducible first | refine st_cv ?_ | refine fr_cv ?_); (try (conv => arg 1; simp [EndV.cells])); (with_reducible refine at_mk ?_); (with_reducible refine fn_mk ?_); (try (conv => arg 1; simp [EndV.cells])); (with_reducible refine at_mk ?_))
    | ((with_reducible refine fr_a ?_); (try (conv => arg 1; simp [EndV.cells])); (with_reducible refine at_mk ?_); (try (conv => arg 1; simp [EndV.cells])); (with_reducible refine at_mk ?_); refine ⟨?names, ?_⟩; (case names => (simp [appNames, ints, intss] <;> first | kernel_rfl | (refine ⟨?_, ?_⟩ <;> kernel_rfl))); (try (conv => arg 1; simp [EndV.cells])); (with_reducible refine ev2_some ?_))
    | ((with_reducible first | refine st_q ?_ | refine fr_q ?_ | refine st_res ?_); (try (conv => arg 1; simp [EndV.cells])); (with_reducible refine ev_some ?_))
    | ((with_reducible refine st_if ?_); (try (conv => arg 1; simp [EndV.cells])); (with_reducible refine at_mk ?_); with_reducible first | refine br_t ?_ | refine br_f ?_))
  refine st_tree rfl (eqIntS e.Out hl) (.cons (dr_ints (fun h => h) _) (.cons (dr_ints (fun h => h) _) .nil)) ?_
  repeat' (first
    | (with_reducible first | refine st_seq ?_ | refine st_reg ?_ | refine st_block ?_ | refine st_nil ?_ | refine st_skip ?_ | refine st_ret ?_ | refine st_exit ?_ | refine fr_nil ?_ | refine k_seq_n ?_ | refine k_seq_r ?_ | refine k_seq_e ?_ | refine k_blk_n ?_ | refine k_blk_r ?_ | refine k_blk_s ?_ | refine k_blk_o rfl ?_ | refine k_fn_r ?_ | refine k_fn_n ?_ | refine k_lp_r ?_ | refine k_lp_e ?_)
    | ((with_reducible first | refine st_move ?_ | refine st_asg ?_ | refine st_c ?_ | refine fr_c ?_); (try (conv => arg 1; simp [EndV.cells])); (with_reducible refine at_mk ?_))
    | ((with_reducible first | refine st_g ?_ | refine fr_g ?_); (try (conv => arg 1; simp [EndV.cells])); (with_reducible refine at_mk ?_); with_reducible first | refine gd_tt ?_ | refine gd_ff ?_ | refine gd_tf ?_ | refine gd_ft ?_ | refine gd_no ?_)
    | ((with_reducible refine st_m rfl ?_); (try (conv => arg 1; simp [EndV.cells])); (with_reducible refine ev2_some ?_))
    | ((with_reducible refine fr_n rfl ?_); (try (conv => arg 1; simp [EndV.cells])); (with_reducible refine evn_some ?_))
    | ((with_reducible first | refine st_cv ?_ | refine fr_cv ?_); (try (conv => arg 1; simp [EndV.cells])); (with_reducible refine at_mk ?_); (with_reducible refine fn_mk ?_); (try (conv => arg 1; simp [EndV.cells])); (with_reducible refine at_mk ?_))
    | ((with_reducible refine fr_a ?_); (try (conv => arg 1; simp [EndV.cells])); (with_reducible refine at_mk ?_); (try (conv => arg 1; simp [EndV.cells])); (with_reducible refine at_mk ?_); refine ⟨?names, ?_⟩; (case names => (simp [appNames, ints, intss] <;> first | kernel_rfl | (refine ⟨?_, ?_⟩ <;> kernel_rfl))); (try (conv => arg 1; simp [EndV.cells])); (with_reducible refine ev2_some ?_))
    | ((with_reducible first | refine st_q ?_ | refine fr_q ?_ | refine st_res ?_); (try (conv => arg 1; simp [EndV.cells])); (with_reducible refine ev_some ?_))
    | ((with_reducible refine st_if ?_); (try (conv => arg 1; simp [EndV.cells])); (with_reducible refine at_mk ?_); with_reducible first | refine br_t ?_ | refine br_f ?_))
  exact .bool true

theorem heldEnd (e : EndV) (n : Nat) (k : Int) (hk : 0 ≤ k) (hl : k + n ≤ 2 ^ 62) (he : e.Out = marks k n) : Pure Try.prog 20 [.agg (e.cells true), .int .i64 k] (.int .i64 (k + n)) := by
  intro T
  have hneg : ¬ k + (n : Int) < 0 := by omega
  refine enter mixed MU7 Try.func20 rfl (by kernel_rfl) rfl ?_
  repeat' (first
    | (with_reducible first | refine st_seq ?_ | refine st_reg ?_ | refine st_block ?_ | refine st_nil ?_ | refine st_skip ?_ | refine st_ret ?_ | refine st_exit ?_ | refine fr_nil ?_ | refine k_seq_n ?_ | refine k_seq_r ?_ | refine k_seq_e ?_ | refine k_blk_n ?_ | refine k_blk_r ?_ | refine k_blk_s ?_ | refine k_blk_o rfl ?_ | refine k_fn_r ?_ | refine k_fn_n ?_ | refine k_lp_r ?_ | refine k_lp_e ?_)
    | ((with_reducible first | refine st_move ?_ | refine st_asg ?_ | refine st_c ?_ | refine fr_c ?_); (try (conv => arg 1; simp [EndV.cells, he])); (with_reducible refine at_mk ?_))
    | ((with_reducible first | refine st_g ?_ | refine fr_g ?_); (try (conv => arg 1; simp [EndV.cells, he])); (with_reducible refine at_mk ?_); with_reducible first | refine gd_tt ?_ | refine gd_ff ?_ | refine gd_tf ?_ | refine gd_ft ?_ | refine gd_no ?_)
    | ((with_reducible refine st_m rfl ?_); (try (conv => arg 1; simp [EndV.cells, he])); (with_reducible refine ev2_some ?_))
    | ((with_reducible refine fr_n rfl ?_); (try (conv => arg 1; simp [EndV.cells, he])); (with_reducible refine evn_some ?_))
    | ((with_reducible first | refine st_cv ?_ | refine fr_cv ?_); (try (conv => arg 1; simp [EndV.cells, he])); (with_reducible refine at_mk ?_); (with_reducible refine fn_mk ?_); (try (conv => arg 1; simp [EndV.cells, he])); (with_reducible refine at_mk ?_))
    | ((with_reducible refine fr_a ?_); (try (conv => arg 1; simp [EndV.cells, he])); (with_reducible refine at_mk ?_); (try (conv => arg 1; simp [EndV.cells, he])); (with_reducible refine at_mk ?_); refine ⟨?names, ?_⟩; (case names => (simp [appNames, ints, intss] <;> first | kernel_rfl | (refine ⟨?_, ?_⟩ <;> kernel_rfl))); (try (conv => arg 1; simp [EndV.cells, he])); (with_reducible refine ev2_some ?_))
    | ((with_reducible first | refine st_q ?_ | refine fr_q ?_ | refine st_res ?_); (try (conv => arg 1; simp [EndV.cells, he])); (with_reducible refine ev_some ?_))
    | ((with_reducible refine st_if ?_); (try (conv => arg 1; simp [EndV.cells, he])); (with_reducible refine at_mk ?_); with_reducible first | refine br_t ?_ | refine br_f ?_))
  refine st_tree rfl (heldIntS n k hk hl) (.cons (dr_ints (fun h => h) _) (.cons (.int _ _) .nil)) ?_
  repeat' (first
    | (with_reducible first | refine st_seq ?_ | refine st_reg ?_ | refine st_block ?_ | refine st_nil ?_ | refine st_skip ?_ | refine st_ret ?_ | refine st_exit ?_ | refine fr_nil ?_ | refine k_seq_n ?_ | refine k_seq_r ?_ | refine k_seq_e ?_ | refine k_blk_n ?_ | refine k_blk_r ?_ | refine k_blk_s ?_ | refine k_blk_o rfl ?_ | refine k_fn_r ?_ | refine k_fn_n ?_ | refine k_lp_r ?_ | refine k_lp_e ?_)
    | ((with_reducible first | refine st_move ?_ | refine st_asg ?_ | refine st_c ?_ | refine fr_c ?_); (try (conv => arg 1; simp [EndV.cells, hneg])); (with_reducible refine at_mk ?_))
    | ((with_reducible first | refine st_g ?_ | refine fr_g ?_); (try (conv => arg 1; simp [EndV.cells, hneg])); (with_reducible refine at_mk ?_); with_reducible first | refine gd_tt ?_ | refine gd_ff ?_ | refine gd_tf ?_ | refine gd_ft ?_ | refine gd_no ?_)
    | ((with_reducible refine st_m rfl ?_); (try (conv => arg 1; simp [EndV.cells, hneg])); (with_reducible refine ev2_some ?_))
    | ((with_reducible refine fr_n rfl ?_); (try (conv => arg 1; simp [EndV.cells, hneg])); (with_reducible refine evn_some ?_))
    | ((with_reducible first | refine st_cv ?_ | refine fr_cv ?_); (try (conv => arg 1; simp [EndV.cells, hneg])); (with_reducible refine at_mk ?_); (with_reducible refine fn_mk ?_); (try (conv => arg 1; simp [EndV.cells, hneg])); (with_reducible refine at_mk ?_))
    | ((with_reducible refine fr_a ?_); (try (conv => arg 1; simp [EndV.cells, hneg])); (with_reducible refine at_mk ?_); (try (conv => arg 1; simp [EndV.cells, hneg])); (with_reducible refine at_mk ?_); refine ⟨?names, ?_⟩; (case names => (simp [appNames, ints, intss] <;> first | kernel_rfl | (refine ⟨?_, ?_⟩ <;> kernel_rfl))); (try (conv => arg 1; simp [EndV.cells, hneg])); (with_reducible refine ev2_some ?_))
    | ((with_reducible first | refine st_q ?_ | refine fr_q ?_ | refine st_res ?_); (try (conv => arg 1; simp [EndV.cells, hneg])); (with_reducible refine ev_some ?_))
    | ((with_reducible refine st_if ?_); (try (conv => arg 1; simp [EndV.cells, hneg])); (with_reducible refine at_mk ?_); with_reducible first | refine br_t ?_ | refine br_f ?_))
  exact .int _ _

theorem markEnd {h : Hp} {v : AV} {e : EndV} {ns : List Nm} (ho : ∀ b, OwnV h.rows b v (.agg (e.cells b)) ns) (hns : ∀ n ∈ ns, n.1 < h.tick) (k : Int) (hk : 0 ≤ k) (hl : k + e.Out.length ≤ 2 ^ 62) :
    Sound Try.prog 19 [v, .int .i64 k] h fun r h' => r = .int .i64 (k + e.Out.length) ∧ (∀ b, OwnV h'.rows b v (.agg (EndV.cells b ⟨e.Code, e.Val, marks k e.Out.length⟩)) ns) ∧ (∀ n, n ∉ ns → n.1 < h.tick → h'.rows n = h.rows n) ∧ h.tick ≤ h'.tick := by
  obtain ⟨w, rfl, ow⟩ := ownV_end (ho true)
  have q := own_one ow
  refine enter mixed MU7 Try.func19 rfl (by kernel_rfl) rfl ?_
  repeat' (first
    | (with_reducible first | refine st_seq ?_ | refine st_reg ?_ | refine st_block ?_ | refine st_nil ?_ | refine st_skip ?_ | refine st_ret ?_ | refine st_exit ?_ | refine fr_nil ?_ | refine k_seq_n ?_ | refine k_seq_r ?_ | refine k_seq_e ?_ | refine k_blk_n ?_ | refine k_blk_r ?_ | refine k_blk_s ?_ | refine k_blk_o rfl ?_ | refine k_fn_r ?_ | refine k_fn_n ?_ | refine k_lp_r ?_ | refine k_lp_e ?_)
    | ((with_reducible first | refine st_move ?_ | refine st_asg ?_ | refine st_c ?_ | refine fr_c ?_); (try (conv => arg 1; simp [q.1])); (with_reducible refine at_mk ?_))
    | ((with_reducible first | refine st_g ?_ | refine fr_g ?_); (try (conv => arg 1; simp [q.1])); (with_reducible refine at_mk ?_); with_reducible first | refine gd_tt ?_ | refine gd_ff ?_ | refine gd_tf ?_ | refine gd_ft ?_ | refine gd_no ?_)
    | ((with_reducible refine st_m rfl ?_); (try (conv => arg 1; simp [q.1])); (with_reducible refine ev2_some ?_))
    | ((with_reducible refine fr_n rfl ?_); (try (conv => arg 1; simp [q.1])); (with_reducible refine evn_some ?_))
    | ((with_reducible first | refine st_cv ?_ | refine fr_cv ?_); (try (conv => arg 1; simp [q.1])); (with_reducible refine at_mk ?_); (with_reducible refine fn_mk ?_); (try (conv => arg 1; simp [q.1])); (with_reducible refine at_mk ?_))
    | ((with_reducible refine fr_a ?_); (try (conv => arg 1; simp [q.1])); (with_reducible refine at_mk ?_); (try (conv => arg 1; simp [q.1])); (with_reducible refine at_mk ?_); refine ⟨?names, ?_⟩; (case names => (simp [appNames, ints, intss] <;> first | kernel_rfl | (refine ⟨?_, ?_⟩ <;> kernel_rfl))); (try (conv => arg 1; simp [q.1])); (with_reducible refine ev2_some ?_))
    | ((with_reducible first | refine st_q ?_ | refine fr_q ?_ | refine st_res ?_); (try (conv => arg 1; simp [q.1])); (with_reducible refine ev_some ?_))
    | ((with_reducible refine st_if ?_); (try (conv => arg 1; simp [q.1])); (with_reducible refine at_mk ?_); with_reducible first | refine br_t ?_ | refine br_f ?_))
  refine st_heap rfl (markIntS (ow.congr fun n hn => ?_) (fun n hn => ?_) k hk hl) ?_
  · have := hns n hn
    have hne : n ≠ (h.tick, 0, 0) := fun e => by rw [e] at this; simp at this
    simp [hp_next_rows, hp_rows_put, hne]
  · have := hns n hn
    simp [hp_next_tick, hp_put_tick]; omega
  rintro r h' ⟨rfl, o1, p1, t1⟩
  simp only [hp_next_tick, hp_put_tick] at t1
  repeat' (first
    | (with_reducible first | refine st_seq ?_ | refine st_reg ?_ | refine st_block ?_ | refine st_nil ?_ | refine st_skip ?_ | refine st_ret ?_ | refine st_exit ?_ | refine fr_nil ?_ | refine k_seq_n ?_ | refine k_seq_r ?_ | refine k_seq_e ?_ | refine k_blk_n ?_ | refine k_blk_r ?_ | refine k_blk_s ?_ | refine k_blk_o rfl ?_ | refine k_fn_r ?_ | refine k_fn_n ?_ | refine k_lp_r ?_ | refine k_lp_e ?_)
    | ((with_reducible first | refine st_move ?_ | refine st_asg ?_ | refine st_c ?_ | refine fr_c ?_); (try (conv => arg 1; simp [q.1])); (with_reducible refine at_mk ?_))
    | ((with_reducible first | refine st_g ?_ | refine fr_g ?_); (try (conv => arg 1; simp [q.1])); (with_reducible refine at_mk ?_); with_reducible first | refine gd_tt ?_ | refine gd_ff ?_ | refine gd_tf ?_ | refine gd_ft ?_ | refine gd_no ?_)
    | ((with_reducible refine st_m rfl ?_); (try (conv => arg 1; simp [q.1])); (with_reducible refine ev2_some ?_))
    | ((with_reducible refine fr_n rfl ?_); (try (conv => arg 1; simp [q.1])); (with_reducible refine evn_some ?_))
    | ((with_reducible first | refine st_cv ?_ | refine fr_cv ?_); (try (conv => arg 1; simp [q.1])); (with_reducible refine at_mk ?_); (with_reducible refine fn_mk ?_); (try (conv => arg 1; simp [q.1])); (with_reducible refine at_mk ?_))
    | ((with_reducible refine fr_a ?_); (try (conv => arg 1; simp [q.1])); (with_reducible refine at_mk ?_); (try (conv => arg 1; simp [q.1])); (with_reducible refine at_mk ?_); refine ⟨?names, ?_⟩; (case names => (simp [appNames, ints, intss] <;> first | kernel_rfl | (refine ⟨?_, ?_⟩ <;> kernel_rfl))); (try (conv => arg 1; simp [q.1])); (with_reducible refine ev2_some ?_))
    | ((with_reducible first | refine st_q ?_ | refine fr_q ?_ | refine st_res ?_); (try (conv => arg 1; simp [q.1])); (with_reducible refine ev_some ?_))
    | ((with_reducible refine st_if ?_); (try (conv => arg 1; simp [q.1])); (with_reducible refine at_mk ?_); with_reducible first | refine br_t ?_ | refine br_f ?_))
  refine ⟨rfl, fun b => .agg (.int _ _ (.int _ _ ((o1 b).congr fun n hn => by simp [hp_next_rows]))), fun n hn hlt => ?_, by simp [hp_next_tick]; omega⟩
  have hne : n ≠ (h.tick, 0, 0) := fun e => by rw [e] at hlt; simp at hlt
  simp only [hp_next_rows]
  rw [p1 n hn]
  simp [hp_next_rows, hp_rows_put, hne]
end Go.Proofs.Ytfgaoojogididaa.AM

/-
  A stepper's state: its size, equal.
-/
set_option linter.unusedVariables false
set_option linter.unusedSimpArgs false
set_option maxRecDepth 4000
namespace Go.Proofs.Ytfgaoojogididaa.AM
open Go.RowKit

private def MU8 : FuncId → Mode := fun f => if f = 27 ∨ f = 49 then .fresh else if f = 33 ∨ f = 52 then .heap else .tree

structure Cpu.Small (c : Cpu) : Prop where
  regs : c.Regs.length ≤ 2 ^ 20
  slots : c.Slots.length ≤ 2 ^ 20
  mem : wtSS c.Mem ≤ 2 ^ 20
  input : c.Input.length ≤ 2 ^ 20
  out : c.Out.length ≤ 2 ^ 20

theorem mem_small {xs : List (List Int)} {n : Nat} (h : wtSS xs ≤ n) : xs.length ≤ n ∧ ∀ x ∈ xs, x.length ≤ n := by
  simp only [wtSS] at h
  refine ⟨by omega, fun x hx => ?_⟩
  obtain ⟨i, hi, rfl⟩ := List.getElem_of_mem hx
  have a1 := psum_succ xs i hi
  have a2 := psum_le xs (i + 1)
  omega

theorem eqCpu (c : Cpu) (hs : c.Small) : Pure Try.prog 17 [.agg (c.cells true), .agg (c.cells true)] (.bool true) := by
  intro T
  have k1 := eqIntS c.Regs (by have := hs.regs; omega)
  have k2 := eqIntS c.Slots (by have := hs.slots; omega)
  have k3 := eqIntSS c.Mem (by have := (mem_small hs.mem).1; omega) (fun x hx => by have := (mem_small hs.mem).2 x hx; omega)
  have k4 := eqIntS c.Input (by have := hs.input; omega)
  have k5 := eqIntS c.Out (by have := hs.out; omega)
  refine enter mixed MU8 Try.func17 rfl (by kernel_rfl) rfl ?_
  repeat' (first
    | (with_reducible first | refine st_seq ?_ | refine st_reg ?_ | refine st_block ?_ | refine st_nil ?_ | refine st_skip ?_ | refine st_ret ?_ | refine st_exit ?_ | refine fr_nil ?_ | refine k_seq_n ?_ | refine k_seq_r ?_ | refine k_seq_e ?_ | refine k_blk_n ?_ | refine k_blk_r ?_ | refine k_blk_s ?_ | refine k_blk_o rfl ?_ | refine k_fn_r ?_ | refine k_fn_n ?_ | refine k_lp_r ?_ | refine k_lp_e ?_)
    | ((with_reducible first | refine st_move ?_ | refine st_asg ?_ | refine st_c ?_ | refine fr_c ?_); (try (conv => arg 1; simp [Cpu.cells])); (with_reducible refine at_mk ?_))
    | ((with_reducible first | refine st_g ?_ | refine fr_g ?_); (try (conv => arg 1; simp [Cpu.cells])); (with_reducible refine at_mk ?_); with_reducible first | refine gd_tt ?_ | refine gd_ff ?_ | refine gd_tf ?_ | refine gd_ft ?_ | refine gd_no ?_)
    | ((with_reducible refine st_m rfl ?_); (try (conv => arg 1; simp [Cpu.cells])); (with_reducible refine ev2_some ?_))
    | ((with_reducible refine fr_n rfl ?_); (try (conv => arg 1; simp [Cpu.cells])); (with_reducible refine evn_some ?_))
    | ((with_reducible first | refine st_cv ?_ | refine fr_cv ?_); (try (conv => arg 1; simp [Cpu.cells])); (with_reducible refine at_mk ?_); (with_reducible refine fn_mk ?_); (try (conv => arg 1; simp [Cpu.cells])); (with_reducible refine at_mk ?_))
    | ((with_reducible refine fr_a ?_); (try (conv => arg 1; simp [Cpu.cells])); (with_reducible refine at_mk ?_); (try (conv => arg 1; simp [Cpu.cells])); (with_reducible refine at_mk ?_); refine ⟨?names, ?_⟩; (case names => (simp [appNames, ints, intss] <;> first | kernel_rfl | (refine ⟨?_, ?_⟩ <;> kernel_rfl))); (try (conv => arg 1; simp [Cpu.cells])); (with_reducible refine ev2_some ?_))
    | ((with_reducible first | refine st_q ?_ | refine fr_q ?_ | refine st_res ?_); (try (conv => arg 1; simp [Cpu.cells])); (with_reducible refine ev_some ?_))
    | ((with_reducible refine st_if ?_); (try (conv => arg 1; simp [Cpu.cells])); (with_reducible refine at_mk ?_); with_reducible first | refine br_t ?_ | refine br_f ?_))
  refine st_tree rfl k1 (.cons (dr_ints (fun h => h) _) (.cons (dr_ints (fun h => h) _) .nil)) ?_
  repeat' (first
    | (with_reducible first | refine st_seq ?_ | refine st_reg ?_ | refine st_block ?_ | refine st_nil ?_ | refine st_skip ?_ | refine st_ret ?_ | refine st_exit ?_ | refine fr_nil ?_ | refine k_seq_n ?_ | refine k_seq_r ?_ | refine k_seq_e ?_ | refine k_blk_n ?_ | refine k_blk_r ?_ | refine k_blk_s ?_ | refine k_blk_o rfl ?_ | refine k_fn_r ?_ | refine k_fn_n ?_ | refine k_lp_r ?_ | refine k_lp_e ?_)
    | ((with_reducible first | refine st_move ?_ | refine st_asg ?_ | refine st_c ?_ | refine fr_c ?_); (try (conv => arg 1; simp [Cpu.cells])); (with_reducible refine at_mk ?_))
    | ((with_reducible first | refine st_g ?_ | refine fr_g ?_); (try (conv => arg 1; simp [Cpu.cells])); (with_reducible refine at_mk ?_); with_reducible first | refine gd_tt ?_ | refine gd_ff ?_ | refine gd_tf ?_ | refine gd_ft ?_ | refine gd_no ?_)
    | ((with_reducible refine st_m rfl ?_); (try (conv => arg 1; simp [Cpu.cells])); (with_reducible refine ev2_some ?_))
    | ((with_reducible refine fr_n rfl ?_); (try (conv => arg 1; simp [Cpu.cells])); (with_reducible refine evn_some ?_))
    | ((with_reducible first | refine st_cv ?_ | refine fr_cv ?_); (try (conv => arg 1; simp [Cpu.cells])); (with_reducible refine at_mk ?_); (with_reducible refine fn_mk ?_); (try (conv => arg 1; simp [Cpu.cells])); (with_reducible refine at_mk ?_))
    | ((with_reducible refine fr_a ?_); (try (conv => arg 1; simp [Cpu.cells])); (with_reducible refine at_mk ?_); (try (conv => arg 1; simp [Cpu.cells])); (with_reducible refine at_mk ?_); refine ⟨?names, ?_⟩; (case names => (simp [appNames, ints, intss] <;> first | kernel_rfl | (refine ⟨?_, ?_⟩ <;> kernel_rfl))); (try (conv => arg 1; simp [Cpu.cells])); (with_reducible refine ev2_some ?_))
    | ((with_reducible first | refine st_q ?_ | refine fr_q ?_ | refine st_res ?_); (try (conv => arg 1; simp [Cpu.cells])); (with_reducible refine ev_some ?_))
    | ((with_reducible refine st_if ?_); (try (conv => arg 1; simp [Cpu.cells])); (with_reducible refine at_mk ?_); with_reducible first | refine br_t ?_ | refine br_f ?_))
  refine st_tree rfl k2 (.cons (dr_ints (fun h => h) _) (.cons (dr_ints (fun h => h) _) .nil)) ?_
  repeat' (first
    | (with_reducible first | refine st_seq ?_ | refine st_reg ?_ | refine st_block ?_ | refine st_nil ?_ | refine st_skip ?_ | refine st_ret ?_ | refine st_exit ?_ | refine fr_nil ?_ | refine k_seq_n ?_ | refine k_seq_r ?_ | refine k_seq_e ?_ | refine k_blk_n ?_ | refine k_blk_r ?_ | refine k_blk_s ?_ | refine k_blk_o rfl ?_ | refine k_fn_r ?_ | refine k_fn_n ?_ | refine k_lp_r ?_ | refine k_lp_e ?_)
    | ((with_reducible first | refine st_move ?_ | refine st_asg ?_ | refine st_c ?_ | refine fr_c ?_); (try (conv => arg 1; simp [Cpu.cells])); (with_reducible refine at_mk ?_))
    | ((with_reducible first | refine st_g ?_ | refine fr_g ?_); (try (conv => arg 1; simp [Cpu.cells])); (with_reducible refine at_mk ?_); with_reducible first | refine gd_tt ?_ | refine gd_ff ?_ | refine gd_tf ?_ | refine gd_ft ?_ | refine gd_no ?_)
    | ((with_reducible refine st_m rfl ?_); (try (conv => arg 1; simp [Cpu.cells])); (with_reducible refine ev2_some ?_))
    | ((with_reducible refine fr_n rfl ?_); (try (conv => arg 1; simp [Cpu.cells])); (with_reducible refine evn_some ?_))
    | ((with_reducible first | refine st_cv ?_ | refine fr_cv ?_); (try (conv => arg 1; simp [Cpu.cells])); (with_reducible refine at_mk ?_); (with_reducible refine fn_mk ?_); (try (conv => arg 1; simp [Cpu.cells])); (with_reducible refine at_mk ?_))
    | ((with_reducible refine fr_a ?_); (try (conv => arg 1; simp [Cpu.cells])); (with_reducible refine at_mk ?_); (try (conv => arg 1; simp [Cpu.cells])); (with_reducible refine at_mk ?_); refine ⟨?names, ?_⟩; (case names => (simp [appNames, ints, intss] <;> first | kernel_rfl | (refine ⟨?_, ?_⟩ <;> kernel_rfl))); (try (conv => arg 1; simp [Cpu.cells])); (with_reducible refine ev2_some ?_))
    | ((with_reducible first | refine st_q ?_ | refine fr_q ?_ | refine st_res ?_); (try (conv => arg 1; simp [Cpu.cells])); (with_reducible refine ev_some ?_))
    | ((with_reducible refine st_if ?_); (try (conv => arg 1; simp [Cpu.cells])); (with_reducible refine at_mk ?_); with_reducible first | refine br_t ?_ | refine br_f ?_))
  refine st_tree rfl k3 (.cons (dr_intss (fun h => h) _) (.cons (dr_intss (fun h => h) _) .nil)) ?_
  repeat' (first
    | (with_reducible first | refine st_seq ?_ | refine st_reg ?_ | refine st_block ?_ | refine st_nil ?_ | refine st_skip ?_ | refine st_ret ?_ | refine st_exit ?_ | refine fr_nil ?_ | refine k_seq_n ?_ | refine k_seq_r ?_ | refine k_seq_e ?_ | refine k_blk_n ?_ | refine k_blk_r ?_ | refine k_blk_s ?_ | refine k_blk_o rfl ?_ | refine k_fn_r ?_ | refine k_fn_n ?_ | refine k_lp_r ?_ | refine k_lp_e ?_)
    | ((with_reducible first | refine st_move ?_ | refine st_asg ?_ | refine st_c ?_ | refine fr_c ?_); (try (conv => arg 1; simp [Cpu.cells])); (with_reducible refine at_mk ?_))
    | ((with_reducible first | refine st_g ?_ | refine fr_g ?_); (try (conv => arg 1; simp [Cpu.cells])); (with_reducible refine at_mk ?_); with_reducible first | refine gd_tt ?_ | refine gd_ff ?_ | refine gd_tf ?_ | refine gd_ft ?_ | refine gd_no ?_)
    | ((with_reducible refine st_m rfl ?_); (try (conv => arg 1; simp [Cpu.cells])); (with_reducible refine ev2_some ?_))
    | ((with_reducible refine fr_n rfl ?_); (try (conv => arg 1; simp [Cpu.cells])); (with_reducible refine evn_some ?_))
    | ((with_reducible first | refine st_cv ?_ | refine fr_cv ?_); (try (conv => arg 1; simp [Cpu.cells])); (with_reducible refine at_mk ?_); (with_reducible refine fn_mk ?_); (try (conv => arg 1; simp [Cpu.cells])); (with_reducible refine at_mk ?_))
    | ((with_reducible refine fr_a ?_); (try (conv => arg 1; simp [Cpu.cells])); (with_reducible refine at_mk ?_); (try (conv => arg 1; simp [Cpu.cells])); (with_reducible refine at_mk ?_); refine ⟨?names, ?_⟩; (case names => (simp [appNames, ints, intss] <;> first | kernel_rfl | (refine ⟨?_, ?_⟩ <;> kernel_rfl))); (try (conv => arg 1; simp [Cpu.cells])); (with_reducible refine ev2_some ?_))
    | ((with_reducible first | refine st_q ?_ | refine fr_q ?_ | refine st_res ?_); (try (conv => arg 1; simp [Cpu.cells])); (with_reducible refine ev_some ?_))
    | ((with_reducible refine st_if ?_); (try (conv => arg 1; simp [Cpu.cells])); (with_reducible refine at_mk ?_); with_reducible first | refine br_t ?_ | refine br_f ?_))
  refine st_tree rfl k4 (.cons (dr_ints (fun h => h) _) (.cons (dr_ints (fun h => h) _) .nil)) ?_
  repeat' (first
    | (with_reducible first | refine st_seq ?_ | refine st_reg ?_ | refine st_block ?_ | refine st_nil ?_ | refine st_skip ?_ | refine st_ret ?_ | refine st_exit ?_ | refine fr_nil ?_ | refine k_seq_n ?_ | refine k_seq_r ?_ | refine k_seq_e ?_ | refine k_blk_n ?_ | refine k_blk_r ?_ | refine k_blk_s ?_ | refine k_blk_o rfl ?_ | refine k_fn_r ?_ | refine k_fn_n ?_ | refine k_lp_r ?_ | refine k_lp_e ?_)
    | ((with_reducible first | refine st_move ?_ | refine st_asg ?_ | refine st_c ?_ | refine fr_c ?_); (try (conv => arg 1; simp [Cpu.cells])); (with_reducible refine at_mk ?_))
    | ((with_reducible first | refine st_g ?_ | refine fr_g ?_); (try (conv => arg 1; simp [Cpu.cells])); (with_reducible refine at_mk ?_); with_reducible first | refine gd_tt ?_ | refine gd_ff ?_ | refine gd_tf ?_ | refine gd_ft ?_ | refine gd_no ?_)
    | ((with_reducible refine st_m rfl ?_); (try (conv => arg 1; simp [Cpu.cells])); (with_reducible refine ev2_some ?_))
    | ((with_reducible refine fr_n rfl ?_); (try (conv => arg 1; simp [Cpu.cells])); (with_reducible refine evn_some ?_))
    | ((with_reducible first | refine st_cv ?_ | refine fr_cv ?_); (try (conv => arg 1; simp [Cpu.cells])); (with_reducible refine at_mk ?_); (with_reducible refine fn_mk ?_); (try (conv => arg 1; simp [Cpu.cells])); (with_reducible refine at_mk ?_))
    | ((with_reducible refine fr_a ?_); (try (conv => arg 1; simp [Cpu.cells])); (with_reducible refine at_mk ?_); (try (conv => arg 1; simp [Cpu.cells])); (with_reducible refine at_mk ?_); refine ⟨?names, ?_⟩; (case names => (simp [appNames, ints, intss] <;> first | kernel_rfl | (refine ⟨?_, ?_⟩ <;> kernel_rfl))); (try (conv => arg 1; simp [Cpu.cells])); (with_reducible refine ev2_some ?_))
    | ((with_reducible first | refine st_q ?_ | refine fr_q ?_ | refine st_res ?_); (try (conv => arg 1; simp [Cpu.cells])); (with_reducible refine ev_some ?_))
    | ((with_reducible refine st_if ?_); (try (conv => arg 1; simp [Cpu.cells])); (with_reducible refine at_mk ?_); with_reducible first | refine br_t ?_ | refine br_f ?_))
  refine st_tree rfl k5 (.cons (dr_ints (fun h => h) _) (.cons (dr_ints (fun h => h) _) .nil)) ?_
  by_cases ho : c.Over = true
  all_goals
    repeat' (first
      | (with_reducible first | refine st_seq ?_ | refine st_reg ?_ | refine st_block ?_ | refine st_nil ?_ | refine st_skip ?_ | refine st_ret ?_ | refine st_exit ?_ | refine fr_nil ?_ | refine k_seq_n ?_ | refine k_seq_r ?_ | refine k_seq_e ?_ | refine k_blk_n ?_ | refine k_blk_r ?_ | refine k_blk_s ?_ | refine k_blk_o rfl ?_ | refine k_fn_r ?_ | refine k_fn_n ?_ | refine k_lp_r ?_ | refine k_lp_e ?_)
      | ((with_reducible first | refine st_move ?_ | refine st_asg ?_ | refine st_c ?_ | refine fr_c ?_); (try (conv => arg 1; simp [Cpu.cells, ho])); (with_reducible refine at_mk ?_))
      | ((with_reducible first | refine st_g ?_ | refine fr_g ?_); (try (conv => arg 1; simp [Cpu.cells, ho])); (with_reducible refine at_mk ?_); with_reducible first | refine gd_tt ?_ | refine gd_ff ?_ | refine gd_tf ?_ | refine gd_ft ?_ | refine gd_no ?_)
      | ((with_reducible refine st_m rfl ?_); (try (conv => arg 1; simp [Cpu.cells, ho])); (with_reducible refine ev2_some ?_))
      | ((with_reducible refine fr_n rfl ?_); (try (conv => arg 1; simp [Cpu.cells, ho])); (with_reducible refine evn_some ?_))
      | ((with_reducible first | refine st_cv ?_ | refine fr_cv ?_); (try (conv => arg 1; simp [Cpu.cells, ho])); (with_reducible refine at_mk ?_); (with_reducible refine fn_mk ?_); (try (conv => arg 1; simp [Cpu.cells, ho])); (with_reducible refine at_mk ?_))
      | ((with_reducible refine fr_a ?_); (try (conv => arg 1; simp [Cpu.cells, ho])); (with_reducible refine at_mk ?_); (try (conv => arg 1; simp [Cpu.cells, ho])); (with_reducible refine at_mk ?_); refine ⟨?names, ?_⟩; (case names => (simp [appNames, ints, intss] <;> first | kernel_rfl | (refine ⟨?_, ?_⟩ <;> kernel_rfl))); (try (conv => arg 1; simp [Cpu.cells, ho])); (with_reducible refine ev2_some ?_))
      | ((with_reducible first | refine st_q ?_ | refine fr_q ?_ | refine st_res ?_); (try (conv => arg 1; simp [Cpu.cells, ho])); (with_reducible refine ev_some ?_))
      | ((with_reducible refine st_if ?_); (try (conv => arg 1; simp [Cpu.cells, ho])); (with_reducible refine at_mk ?_); with_reducible first | refine br_t ?_ | refine br_f ?_))
    exact .bool true
end Go.Proofs.Ytfgaoojogididaa.AM

/-
  A stepper's state: its size.
-/
set_option linter.unusedVariables false
set_option linter.unusedSimpArgs false
set_option maxRecDepth 4000
namespace Go.Proofs.Ytfgaoojogididaa.AM
open Go.RowKit

private def MU9 : FuncId → Mode := fun f => if f = 27 ∨ f = 49 then .fresh else if f = 33 ∨ f = 52 then .heap else .tree

theorem szCpu (c : Cpu) (left : Int) (l0 : 0 ≤ left) (l1 : left ≤ 2 ^ 20) (m1 : c.Regs.length ≤ maxLen) (m2 : c.Slots.length ≤ maxLen) (m3 : c.Mem.length ≤ maxLen) (m3' : ∀ x ∈ c.Mem, x.length ≤ maxLen) (m4 : c.Input.length ≤ maxLen) (m5 : c.Out.length ≤ maxLen) :
    ∃ r : Int, Pure Try.prog 12 [.agg (c.cells true), .int .i64 left] (.int .i64 r) ∧ (r < 0 ∨ c.Small) := by
  by_cases h1 : left < (c.Regs.length : Int)
  · refine ⟨-1, ?_, .inl (by omega)⟩
    intro T
    refine enter mixed MU9 Try.func12 rfl (by kernel_rfl) rfl ?_
    repeat' (first
      | (with_reducible first | refine st_seq ?_ | refine st_reg ?_ | refine st_block ?_ | refine st_nil ?_ | refine st_skip ?_ | refine st_ret ?_ | refine st_exit ?_ | refine fr_nil ?_ | refine k_seq_n ?_ | refine k_seq_r ?_ | refine k_seq_e ?_ | refine k_blk_n ?_ | refine k_blk_r ?_ | refine k_blk_s ?_ | refine k_blk_o rfl ?_ | refine k_fn_r ?_ | refine k_fn_n ?_ | refine k_lp_r ?_ | refine k_lp_e ?_)
      | ((with_reducible first | refine st_move ?_ | refine st_asg ?_ | refine st_c ?_ | refine fr_c ?_); (try (conv => arg 1; simp [Cpu.cells])); (with_reducible refine at_mk ?_))
      | ((with_reducible first | refine st_g ?_ | refine fr_g ?_); (try (conv => arg 1; simp [Cpu.cells])); (with_reducible refine at_mk ?_); with_reducible first | refine gd_tt ?_ | refine gd_ff ?_ | refine gd_tf ?_ | refine gd_ft ?_ | refine gd_no ?_)
      | ((with_reducible refine st_m rfl ?_); (try (conv => arg 1; simp [Cpu.cells])); (with_reducible refine ev2_some ?_))
      | ((with_reducible refine fr_n rfl ?_); (try (conv => arg 1; simp [Cpu.cells])); (with_reducible refine evn_some ?_))
      | ((with_reducible first | refine st_cv ?_ | refine fr_cv ?_); (try (conv => arg 1; simp [Cpu.cells])); (with_reducible refine at_mk ?_); (with_reducible refine fn_mk ?_); (try (conv => arg 1; simp [Cpu.cells])); (with_reducible refine at_mk ?_))
      | ((with_reducible refine fr_a ?_); (try (conv => arg 1; simp [Cpu.cells])); (with_reducible refine at_mk ?_); (try (conv => arg 1; simp [Cpu.cells])); (with_reducible refine at_mk ?_); refine ⟨?names, ?_⟩; (case names => (simp [appNames, ints, intss] <;> first | kernel_rfl | (refine ⟨?_, ?_⟩ <;> kernel_rfl))); (try (conv => arg 1; simp [Cpu.cells])); (with_reducible refine ev2_some ?_))
      | ((with_reducible first | refine st_q ?_ | refine fr_q ?_ | refine st_res ?_); (try (conv => arg 1; simp [Cpu.cells])); (with_reducible refine ev_some ?_))
      | ((with_reducible refine st_if ?_); (try (conv => arg 1; simp [Cpu.cells])); (with_reducible refine at_mk ?_); with_reducible first | refine br_t ?_ | refine br_f ?_))
    refine st_tree rfl (szIntS c.Regs (left) (by omega) (by omega) m1) (.cons (dr_ints (fun h => h) _) (.cons (.int _ _) .nil)) ?_
    rw [if_pos h1]
    repeat' (first
      | (with_reducible first | refine st_seq ?_ | refine st_reg ?_ | refine st_block ?_ | refine st_nil ?_ | refine st_skip ?_ | refine st_ret ?_ | refine st_exit ?_ | refine fr_nil ?_ | refine k_seq_n ?_ | refine k_seq_r ?_ | refine k_seq_e ?_ | refine k_blk_n ?_ | refine k_blk_r ?_ | refine k_blk_s ?_ | refine k_blk_o rfl ?_ | refine k_fn_r ?_ | refine k_fn_n ?_ | refine k_lp_r ?_ | refine k_lp_e ?_)
      | ((with_reducible first | refine st_move ?_ | refine st_asg ?_ | refine st_c ?_ | refine fr_c ?_); (try (conv => arg 1; simp [Cpu.cells])); (with_reducible refine at_mk ?_))
      | ((with_reducible first | refine st_g ?_ | refine fr_g ?_); (try (conv => arg 1; simp [Cpu.cells])); (with_reducible refine at_mk ?_); with_reducible first | refine gd_tt ?_ | refine gd_ff ?_ | refine gd_tf ?_ | refine gd_ft ?_ | refine gd_no ?_)
      | ((with_reducible refine st_m rfl ?_); (try (conv => arg 1; simp [Cpu.cells])); (with_reducible refine ev2_some ?_))
      | ((with_reducible refine fr_n rfl ?_); (try (conv => arg 1; simp [Cpu.cells])); (with_reducible refine evn_some ?_))
      | ((with_reducible first | refine st_cv ?_ | refine fr_cv ?_); (try (conv => arg 1; simp [Cpu.cells])); (with_reducible refine at_mk ?_); (with_reducible refine fn_mk ?_); (try (conv => arg 1; simp [Cpu.cells])); (with_reducible refine at_mk ?_))
      | ((with_reducible refine fr_a ?_); (try (conv => arg 1; simp [Cpu.cells])); (with_reducible refine at_mk ?_); (try (conv => arg 1; simp [Cpu.cells])); (with_reducible refine at_mk ?_); refine ⟨?names, ?_⟩; (case names => (simp [appNames, ints, intss] <;> first | kernel_rfl | (refine ⟨?_, ?_⟩ <;> kernel_rfl))); (try (conv => arg 1; simp [Cpu.cells])); (with_reducible refine ev2_some ?_))
      | ((with_reducible first | refine st_q ?_ | refine fr_q ?_ | refine st_res ?_); (try (conv => arg 1; simp [Cpu.cells])); (with_reducible refine ev_some ?_))
      | ((with_reducible refine st_if ?_); (try (conv => arg 1; simp [Cpu.cells])); (with_reducible refine at_mk ?_); with_reducible first | refine br_t ?_ | refine br_f ?_))
    exact .int _ _
  by_cases h2 : left - (c.Regs.length : Int) < (c.Slots.length : Int)
  · refine ⟨-1, ?_, .inl (by omega)⟩
    intro T
    refine enter mixed MU9 Try.func12 rfl (by kernel_rfl) rfl ?_
    repeat' (first
      | (with_reducible first | refine st_seq ?_ | refine st_reg ?_ | refine st_block ?_ | refine st_nil ?_ | refine st_skip ?_ | refine st_ret ?_ | refine st_exit ?_ | refine fr_nil ?_ | refine k_seq_n ?_ | refine k_seq_r ?_ | refine k_seq_e ?_ | refine k_blk_n ?_ | refine k_blk_r ?_ | refine k_blk_s ?_ | refine k_blk_o rfl ?_ | refine k_fn_r ?_ | refine k_fn_n ?_ | refine k_lp_r ?_ | refine k_lp_e ?_)
      | ((with_reducible first | refine st_move ?_ | refine st_asg ?_ | refine st_c ?_ | refine fr_c ?_); (try (conv => arg 1; simp [Cpu.cells])); (with_reducible refine at_mk ?_))
      | ((with_reducible first | refine st_g ?_ | refine fr_g ?_); (try (conv => arg 1; simp [Cpu.cells])); (with_reducible refine at_mk ?_); with_reducible first | refine gd_tt ?_ | refine gd_ff ?_ | refine gd_tf ?_ | refine gd_ft ?_ | refine gd_no ?_)
      | ((with_reducible refine st_m rfl ?_); (try (conv => arg 1; simp [Cpu.cells])); (with_reducible refine ev2_some ?_))
      | ((with_reducible refine fr_n rfl ?_); (try (conv => arg 1; simp [Cpu.cells])); (with_reducible refine evn_some ?_))
      | ((with_reducible first | refine st_cv ?_ | refine fr_cv ?_); (try (conv => arg 1; simp [Cpu.cells])); (with_reducible refine at_mk ?_); (with_reducible refine fn_mk ?_); (try (conv => arg 1; simp [Cpu.cells])); (with_reducible refine at_mk ?_))
      | ((with_reducible refine fr_a ?_); (try (conv => arg 1; simp [Cpu.cells])); (with_reducible refine at_mk ?_); (try (conv => arg 1; simp [Cpu.cells])); (with_reducible refine at_mk ?_); refine ⟨?names, ?_⟩; (case names => (simp [appNames, ints, intss] <;> first | kernel_rfl | (refine ⟨?_, ?_⟩ <;> kernel_rfl))); (try (conv => arg 1; simp [Cpu.cells])); (with_reducible refine ev2_some ?_))
      | ((with_reducible first | refine st_q ?_ | refine fr_q ?_ | refine st_res ?_); (try (conv => arg 1; simp [Cpu.cells])); (with_reducible refine ev_some ?_))
      | ((with_reducible refine st_if ?_); (try (conv => arg 1; simp [Cpu.cells])); (with_reducible refine at_mk ?_); with_reducible first | refine br_t ?_ | refine br_f ?_))
    refine st_tree rfl (szIntS c.Regs (left) (by omega) (by omega) m1) (.cons (dr_ints (fun h => h) _) (.cons (.int _ _) .nil)) ?_
    rw [if_neg h1]
    have e1 : ¬ left - (c.Regs.length : Int) < 0 := by omega
    repeat' (first
      | (with_reducible first | refine st_seq ?_ | refine st_reg ?_ | refine st_block ?_ | refine st_nil ?_ | refine st_skip ?_ | refine st_ret ?_ | refine st_exit ?_ | refine fr_nil ?_ | refine k_seq_n ?_ | refine k_seq_r ?_ | refine k_seq_e ?_ | refine k_blk_n ?_ | refine k_blk_r ?_ | refine k_blk_s ?_ | refine k_blk_o rfl ?_ | refine k_fn_r ?_ | refine k_fn_n ?_ | refine k_lp_r ?_ | refine k_lp_e ?_)
      | ((with_reducible first | refine st_move ?_ | refine st_asg ?_ | refine st_c ?_ | refine fr_c ?_); (try (conv => arg 1; simp [Cpu.cells, e1])); (with_reducible refine at_mk ?_))
      | ((with_reducible first | refine st_g ?_ | refine fr_g ?_); (try (conv => arg 1; simp [Cpu.cells, e1])); (with_reducible refine at_mk ?_); with_reducible first | refine gd_tt ?_ | refine gd_ff ?_ | refine gd_tf ?_ | refine gd_ft ?_ | refine gd_no ?_)
      | ((with_reducible refine st_m rfl ?_); (try (conv => arg 1; simp [Cpu.cells, e1])); (with_reducible refine ev2_some ?_))
      | ((with_reducible refine fr_n rfl ?_); (try (conv => arg 1; simp [Cpu.cells, e1])); (with_reducible refine evn_some ?_))
      | ((with_reducible first | refine st_cv ?_ | refine fr_cv ?_); (try (conv => arg 1; simp [Cpu.cells, e1])); (with_reducible refine at_mk ?_); (with_reducible refine fn_mk ?_); (try (conv => arg 1; simp [Cpu.cells, e1])); (with_reducible refine at_mk ?_))
      | ((with_reducible refine fr_a ?_); (try (conv => arg 1; simp [Cpu.cells, e1])); (with_reducible refine at_mk ?_); (try (conv => arg 1; simp [Cpu.cells, e1])); (with_reducible refine at_mk ?_); refine ⟨?names, ?_⟩; (case names => (simp [appNames, ints, intss] <;> first | kernel_rfl | (refine ⟨?_, ?_⟩ <;> kernel_rfl))); (try (conv => arg 1; simp [Cpu.cells, e1])); (with_reducible refine ev2_some ?_))
      | ((with_reducible first | refine st_q ?_ | refine fr_q ?_ | refine st_res ?_); (try (conv => arg 1; simp [Cpu.cells, e1])); (with_reducible refine ev_some ?_))
      | ((with_reducible refine st_if ?_); (try (conv => arg 1; simp [Cpu.cells, e1])); (with_reducible refine at_mk ?_); with_reducible first | refine br_t ?_ | refine br_f ?_))
    refine st_tree rfl (szIntS c.Slots (left - (c.Regs.length : Int)) (by omega) (by omega) m2) (.cons (dr_ints (fun h => h) _) (.cons (.int _ _) .nil)) ?_
    rw [if_pos h2]
    repeat' (first
      | (with_reducible first | refine st_seq ?_ | refine st_reg ?_ | refine st_block ?_ | refine st_nil ?_ | refine st_skip ?_ | refine st_ret ?_ | refine st_exit ?_ | refine fr_nil ?_ | refine k_seq_n ?_ | refine k_seq_r ?_ | refine k_seq_e ?_ | refine k_blk_n ?_ | refine k_blk_r ?_ | refine k_blk_s ?_ | refine k_blk_o rfl ?_ | refine k_fn_r ?_ | refine k_fn_n ?_ | refine k_lp_r ?_ | refine k_lp_e ?_)
      | ((with_reducible first | refine st_move ?_ | refine st_asg ?_ | refine st_c ?_ | refine fr_c ?_); (try (conv => arg 1; simp [Cpu.cells])); (with_reducible refine at_mk ?_))
      | ((with_reducible first | refine st_g ?_ | refine fr_g ?_); (try (conv => arg 1; simp [Cpu.cells])); (with_reducible refine at_mk ?_); with_reducible first | refine gd_tt ?_ | refine gd_ff ?_ | refine gd_tf ?_ | refine gd_ft ?_ | refine gd_no ?_)
      | ((with_reducible refine st_m rfl ?_); (try (conv => arg 1; simp [Cpu.cells])); (with_reducible refine ev2_some ?_))
      | ((with_reducible refine fr_n rfl ?_); (try (conv => arg 1; simp [Cpu.cells])); (with_reducible refine evn_some ?_))
      | ((with_reducible first | refine st_cv ?_ | refine fr_cv ?_); (try (conv => arg 1; simp [Cpu.cells])); (with_reducible refine at_mk ?_); (with_reducible refine fn_mk ?_); (try (conv => arg 1; simp [Cpu.cells])); (with_reducible refine at_mk ?_))
      | ((with_reducible refine fr_a ?_); (try (conv => arg 1; simp [Cpu.cells])); (with_reducible refine at_mk ?_); (try (conv => arg 1; simp [Cpu.cells])); (with_reducible refine at_mk ?_); refine ⟨?names, ?_⟩; (case names => (simp [appNames, ints, intss] <;> first | kernel_rfl | (refine ⟨?_, ?_⟩ <;> kernel_rfl))); (try (conv => arg 1; simp [Cpu.cells])); (with_reducible refine ev2_some ?_))
      | ((with_reducible first | refine st_q ?_ | refine fr_q ?_ | refine st_res ?_); (try (conv => arg 1; simp [Cpu.cells])); (with_reducible refine ev_some ?_))
      | ((with_reducible refine st_if ?_); (try (conv => arg 1; simp [Cpu.cells])); (with_reducible refine at_mk ?_); with_reducible first | refine br_t ?_ | refine br_f ?_))
    exact .int _ _
  by_cases h3 : left - (c.Regs.length : Int) - (c.Slots.length : Int) < (wtSS c.Mem : Int)
  · refine ⟨-1, ?_, .inl (by omega)⟩
    intro T
    refine enter mixed MU9 Try.func12 rfl (by kernel_rfl) rfl ?_
    repeat' (first
      | (with_reducible first | refine st_seq ?_ | refine st_reg ?_ | refine st_block ?_ | refine st_nil ?_ | refine st_skip ?_ | refine st_ret ?_ | refine st_exit ?_ | refine fr_nil ?_ | refine k_seq_n ?_ | refine k_seq_r ?_ | refine k_seq_e ?_ | refine k_blk_n ?_ | refine k_blk_r ?_ | refine k_blk_s ?_ | refine k_blk_o rfl ?_ | refine k_fn_r ?_ | refine k_fn_n ?_ | refine k_lp_r ?_ | refine k_lp_e ?_)
      | ((with_reducible first | refine st_move ?_ | refine st_asg ?_ | refine st_c ?_ | refine fr_c ?_); (try (conv => arg 1; simp [Cpu.cells])); (with_reducible refine at_mk ?_))
      | ((with_reducible first | refine st_g ?_ | refine fr_g ?_); (try (conv => arg 1; simp [Cpu.cells])); (with_reducible refine at_mk ?_); with_reducible first | refine gd_tt ?_ | refine gd_ff ?_ | refine gd_tf ?_ | refine gd_ft ?_ | refine gd_no ?_)
      | ((with_reducible refine st_m rfl ?_); (try (conv => arg 1; simp [Cpu.cells])); (with_reducible refine ev2_some ?_))
      | ((with_reducible refine fr_n rfl ?_); (try (conv => arg 1; simp [Cpu.cells])); (with_reducible refine evn_some ?_))
      | ((with_reducible first | refine st_cv ?_ | refine fr_cv ?_); (try (conv => arg 1; simp [Cpu.cells])); (with_reducible refine at_mk ?_); (with_reducible refine fn_mk ?_); (try (conv => arg 1; simp [Cpu.cells])); (with_reducible refine at_mk ?_))
      | ((with_reducible refine fr_a ?_); (try (conv => arg 1; simp [Cpu.cells])); (with_reducible refine at_mk ?_); (try (conv => arg 1; simp [Cpu.cells])); (with_reducible refine at_mk ?_); refine ⟨?names, ?_⟩; (case names => (simp [appNames, ints, intss] <;> first | kernel_rfl | (refine ⟨?_, ?_⟩ <;> kernel_rfl))); (try (conv => arg 1; simp [Cpu.cells])); (with_reducible refine ev2_some ?_))
      | ((with_reducible first | refine st_q ?_ | refine fr_q ?_ | refine st_res ?_); (try (conv => arg 1; simp [Cpu.cells])); (with_reducible refine ev_some ?_))
      | ((with_reducible refine st_if ?_); (try (conv => arg 1; simp [Cpu.cells])); (with_reducible refine at_mk ?_); with_reducible first | refine br_t ?_ | refine br_f ?_))
    refine st_tree rfl (szIntS c.Regs (left) (by omega) (by omega) m1) (.cons (dr_ints (fun h => h) _) (.cons (.int _ _) .nil)) ?_
    rw [if_neg h1]
    have e1 : ¬ left - (c.Regs.length : Int) < 0 := by omega
    repeat' (first
      | (with_reducible first | refine st_seq ?_ | refine st_reg ?_ | refine st_block ?_ | refine st_nil ?_ | refine st_skip ?_ | refine st_ret ?_ | refine st_exit ?_ | refine fr_nil ?_ | refine k_seq_n ?_ | refine k_seq_r ?_ | refine k_seq_e ?_ | refine k_blk_n ?_ | refine k_blk_r ?_ | refine k_blk_s ?_ | refine k_blk_o rfl ?_ | refine k_fn_r ?_ | refine k_fn_n ?_ | refine k_lp_r ?_ | refine k_lp_e ?_)
      | ((with_reducible first | refine st_move ?_ | refine st_asg ?_ | refine st_c ?_ | refine fr_c ?_); (try (conv => arg 1; simp [Cpu.cells, e1])); (with_reducible refine at_mk ?_))
      | ((with_reducible first | refine st_g ?_ | refine fr_g ?_); (try (conv => arg 1; simp [Cpu.cells, e1])); (with_reducible refine at_mk ?_); with_reducible first | refine gd_tt ?_ | refine gd_ff ?_ | refine gd_tf ?_ | refine gd_ft ?_ | refine gd_no ?_)
      | ((with_reducible refine st_m rfl ?_); (try (conv => arg 1; simp [Cpu.cells, e1])); (with_reducible refine ev2_some ?_))
      | ((with_reducible refine fr_n rfl ?_); (try (conv => arg 1; simp [Cpu.cells, e1])); (with_reducible refine evn_some ?_))
      | ((with_reducible first | refine st_cv ?_ | refine fr_cv ?_); (try (conv => arg 1; simp [Cpu.cells, e1])); (with_reducible refine at_mk ?_); (with_reducible refine fn_mk ?_); (try (conv => arg 1; simp [Cpu.cells, e1])); (with_reducible refine at_mk ?_))
      | ((with_reducible refine fr_a ?_); (try (conv => arg 1; simp [Cpu.cells, e1])); (with_reducible refine at_mk ?_); (try (conv => arg 1; simp [Cpu.cells, e1])); (with_reducible refine at_mk ?_); refine ⟨?names, ?_⟩; (case names => (simp [appNames, ints, intss] <;> first | kernel_rfl | (refine ⟨?_, ?_⟩ <;> kernel_rfl))); (try (conv => arg 1; simp [Cpu.cells, e1])); (with_reducible refine ev2_some ?_))
      | ((with_reducible first | refine st_q ?_ | refine fr_q ?_ | refine st_res ?_); (try (conv => arg 1; simp [Cpu.cells, e1])); (with_reducible refine ev_some ?_))
      | ((with_reducible refine st_if ?_); (try (conv => arg 1; simp [Cpu.cells, e1])); (with_reducible refine at_mk ?_); with_reducible first | refine br_t ?_ | refine br_f ?_))
    refine st_tree rfl (szIntS c.Slots (left - (c.Regs.length : Int)) (by omega) (by omega) m2) (.cons (dr_ints (fun h => h) _) (.cons (.int _ _) .nil)) ?_
    rw [if_neg h2]
    have e2 : ¬ left - (c.Regs.length : Int) - (c.Slots.length : Int) < 0 := by omega
    repeat' (first
      | (with_reducible first | refine st_seq ?_ | refine st_reg ?_ | refine st_block ?_ | refine st_nil ?_ | refine st_skip ?_ | refine st_ret ?_ | refine st_exit ?_ | refine fr_nil ?_ | refine k_seq_n ?_ | refine k_seq_r ?_ | refine k_seq_e ?_ | refine k_blk_n ?_ | refine k_blk_r ?_ | refine k_blk_s ?_ | refine k_blk_o rfl ?_ | refine k_fn_r ?_ | refine k_fn_n ?_ | refine k_lp_r ?_ | refine k_lp_e ?_)
      | ((with_reducible first | refine st_move ?_ | refine st_asg ?_ | refine st_c ?_ | refine fr_c ?_); (try (conv => arg 1; simp [Cpu.cells, e2])); (with_reducible refine at_mk ?_))
      | ((with_reducible first | refine st_g ?_ | refine fr_g ?_); (try (conv => arg 1; simp [Cpu.cells, e2])); (with_reducible refine at_mk ?_); with_reducible first | refine gd_tt ?_ | refine gd_ff ?_ | refine gd_tf ?_ | refine gd_ft ?_ | refine gd_no ?_)
      | ((with_reducible refine st_m rfl ?_); (try (conv => arg 1; simp [Cpu.cells, e2])); (with_reducible refine ev2_some ?_))
      | ((with_reducible refine fr_n rfl ?_); (try (conv => arg 1; simp [Cpu.cells, e2])); (with_reducible refine evn_some ?_))
      | ((with_reducible first | refine st_cv ?_ | refine fr_cv ?_); (try (conv => arg 1; simp [Cpu.cells, e2])); (with_reducible refine at_mk ?_); (with_reducible refine fn_mk ?_); (try (conv => arg 1; simp [Cpu.cells, e2])); (with_reducible refine at_mk ?_))
      | ((with_reducible refine fr_a ?_); (try (conv => arg 1; simp [Cpu.cells, e2])); (with_reducible refine at_mk ?_); (try (conv => arg 1; simp [Cpu.cells, e2])); (with_reducible refine at_mk ?_); refine ⟨?names, ?_⟩; (case names => (simp [appNames, ints, intss] <;> first | kernel_rfl | (refine ⟨?_, ?_⟩ <;> kernel_rfl))); (try (conv => arg 1; simp [Cpu.cells, e2])); (with_reducible refine ev2_some ?_))
      | ((with_reducible first | refine st_q ?_ | refine fr_q ?_ | refine st_res ?_); (try (conv => arg 1; simp [Cpu.cells, e2])); (with_reducible refine ev_some ?_))
      | ((with_reducible refine st_if ?_); (try (conv => arg 1; simp [Cpu.cells, e2])); (with_reducible refine at_mk ?_); with_reducible first | refine br_t ?_ | refine br_f ?_))
    refine st_tree rfl (szIntSS c.Mem (left - (c.Regs.length : Int) - (c.Slots.length : Int)) (by omega) (by omega) m3 m3') (.cons (dr_intss (fun h => h) _) (.cons (.int _ _) .nil)) ?_
    rw [if_pos h3]
    repeat' (first
      | (with_reducible first | refine st_seq ?_ | refine st_reg ?_ | refine st_block ?_ | refine st_nil ?_ | refine st_skip ?_ | refine st_ret ?_ | refine st_exit ?_ | refine fr_nil ?_ | refine k_seq_n ?_ | refine k_seq_r ?_ | refine k_seq_e ?_ | refine k_blk_n ?_ | refine k_blk_r ?_ | refine k_blk_s ?_ | refine k_blk_o rfl ?_ | refine k_fn_r ?_ | refine k_fn_n ?_ | refine k_lp_r ?_ | refine k_lp_e ?_)
      | ((with_reducible first | refine st_move ?_ | refine st_asg ?_ | refine st_c ?_ | refine fr_c ?_); (try (conv => arg 1; simp [Cpu.cells])); (with_reducible refine at_mk ?_))
      | ((with_reducible first | refine st_g ?_ | refine fr_g ?_); (try (conv => arg 1; simp [Cpu.cells])); (with_reducible refine at_mk ?_); with_reducible first | refine gd_tt ?_ | refine gd_ff ?_ | refine gd_tf ?_ | refine gd_ft ?_ | refine gd_no ?_)
      | ((with_reducible refine st_m rfl ?_); (try (conv => arg 1; simp [Cpu.cells])); (with_reducible refine ev2_some ?_))
      | ((with_reducible refine fr_n rfl ?_); (try (conv => arg 1; simp [Cpu.cells])); (with_reducible refine evn_some ?_))
      | ((with_reducible first | refine st_cv ?_ | refine fr_cv ?_); (try (conv => arg 1; simp [Cpu.cells])); (with_reducible refine at_mk ?_); (with_reducible refine fn_mk ?_); (try (conv => arg 1; simp [Cpu.cells])); (with_reducible refine at_mk ?_))
      | ((with_reducible refine fr_a ?_); (try (conv => arg 1; simp [Cpu.cells])); (with_reducible refine at_mk ?_); (try (conv => arg 1; simp [Cpu.cells])); (with_reducible refine at_mk ?_); refine ⟨?names, ?_⟩; (case names => (simp [appNames, ints, intss] <;> first | kernel_rfl | (refine ⟨?_, ?_⟩ <;> kernel_rfl))); (try (conv => arg 1; simp [Cpu.cells])); (with_reducible refine ev2_some ?_))
      | ((with_reducible first | refine st_q ?_ | refine fr_q ?_ | refine st_res ?_); (try (conv => arg 1; simp [Cpu.cells])); (with_reducible refine ev_some ?_))
      | ((with_reducible refine st_if ?_); (try (conv => arg 1; simp [Cpu.cells])); (with_reducible refine at_mk ?_); with_reducible first | refine br_t ?_ | refine br_f ?_))
    exact .int _ _
  by_cases h4 : left - (c.Regs.length : Int) - (c.Slots.length : Int) - (wtSS c.Mem : Int) < (c.Input.length : Int)
  · refine ⟨-1, ?_, .inl (by omega)⟩
    intro T
    refine enter mixed MU9 Try.func12 rfl (by kernel_rfl) rfl ?_
    repeat' (first
      | (with_reducible first | refine st_seq ?_ | refine st_reg ?_ | refine st_block ?_ | refine st_nil ?_ | refine st_skip ?_ | refine st_ret ?_ | refine st_exit ?_ | refine fr_nil ?_ | refine k_seq_n ?_ | refine k_seq_r ?_ | refine k_seq_e ?_ | refine k_blk_n ?_ | refine k_blk_r ?_ | refine k_blk_s ?_ | refine k_blk_o rfl ?_ | refine k_fn_r ?_ | refine k_fn_n ?_ | refine k_lp_r ?_ | refine k_lp_e ?_)
      | ((with_reducible first | refine st_move ?_ | refine st_asg ?_ | refine st_c ?_ | refine fr_c ?_); (try (conv => arg 1; simp [Cpu.cells])); (with_reducible refine at_mk ?_))
      | ((with_reducible first | refine st_g ?_ | refine fr_g ?_); (try (conv => arg 1; simp [Cpu.cells])); (with_reducible refine at_mk ?_); with_reducible first | refine gd_tt ?_ | refine gd_ff ?_ | refine gd_tf ?_ | refine gd_ft ?_ | refine gd_no ?_)
      | ((with_reducible refine st_m rfl ?_); (try (conv => arg 1; simp [Cpu.cells])); (with_reducible refine ev2_some ?_))
      | ((with_reducible refine fr_n rfl ?_); (try (conv => arg 1; simp [Cpu.cells])); (with_reducible refine evn_some ?_))
      | ((with_reducible first | refine st_cv ?_ | refine fr_cv ?_); (try (conv => arg 1; simp [Cpu.cells])); (with_reducible refine at_mk ?_); (with_reducible refine fn_mk ?_); (try (conv => arg 1; simp [Cpu.cells])); (with_reducible refine at_mk ?_))
      | ((with_reducible refine fr_a ?_); (try (conv => arg 1; simp [Cpu.cells])); (with_reducible refine at_mk ?_); (try (conv => arg 1; simp [Cpu.cells])); (with_reducible refine at_mk ?_); refine ⟨?names, ?_⟩; (case names => (simp [appNames, ints, intss] <;> first | kernel_rfl | (refine ⟨?_, ?_⟩ <;> kernel_rfl))); (try (conv => arg 1; simp [Cpu.cells])); (with_reducible refine ev2_some ?_))
      | ((with_reducible first | refine st_q ?_ | refine fr_q ?_ | refine st_res ?_); (try (conv => arg 1; simp [Cpu.cells])); (with_reducible refine ev_some ?_))
      | ((with_reducible refine st_if ?_); (try (conv => arg 1; simp [Cpu.cells])); (with_reducible refine at_mk ?_); with_reducible first | refine br_t ?_ | refine br_f ?_))
    refine st_tree rfl (szIntS c.Regs (left) (by omega) (by omega) m1) (.cons (dr_ints (fun h => h) _) (.cons (.int _ _) .nil)) ?_
    rw [if_neg h1]
    have e1 : ¬ left - (c.Regs.length : Int) < 0 := by omega
    repeat' (first
      | (with_reducible first | refine st_seq ?_ | refine st_reg ?_ | refine st_block ?_ | refine st_nil ?_ | refine st_skip ?_ | refine st_ret ?_ | refine st_exit ?_ | refine fr_nil ?_ | refine k_seq_n ?_ | refine k_seq_r ?_ | refine k_seq_e ?_ | refine k_blk_n ?_ | refine k_blk_r ?_ | refine k_blk_s ?_ | refine k_blk_o rfl ?_ | refine k_fn_r ?_ | refine k_fn_n ?_ | refine k_lp_r ?_ | refine k_lp_e ?_)
      | ((with_reducible first | refine st_move ?_ | refine st_asg ?_ | refine st_c ?_ | refine fr_c ?_); (try (conv => arg 1; simp [Cpu.cells, e1])); (with_reducible refine at_mk ?_))
      | ((with_reducible first | refine st_g ?_ | refine fr_g ?_); (try (conv => arg 1; simp [Cpu.cells, e1])); (with_reducible refine at_mk ?_); with_reducible first | refine gd_tt ?_ | refine gd_ff ?_ | refine gd_tf ?_ | refine gd_ft ?_ | refine gd_no ?_)
      | ((with_reducible refine st_m rfl ?_); (try (conv => arg 1; simp [Cpu.cells, e1])); (with_reducible refine ev2_some ?_))
      | ((with_reducible refine fr_n rfl ?_); (try (conv => arg 1; simp [Cpu.cells, e1])); (with_reducible refine evn_some ?_))
      | ((with_reducible first | refine st_cv ?_ | refine fr_cv ?_); (try (conv => arg 1; simp [Cpu.cells, e1])); (with_reducible refine at_mk ?_); (with_reducible refine fn_mk ?_); (try (conv => arg 1; simp [Cpu.cells, e1])); (with_reducible refine at_mk ?_))
      | ((with_reducible refine fr_a ?_); (try (conv => arg 1; simp [Cpu.cells, e1])); (with_reducible refine at_mk ?_); (try (conv => arg 1; simp [Cpu.cells, e1])); (with_reducible refine at_mk ?_); refine ⟨?names, ?_⟩; (case names => (simp [appNames, ints, intss] <;> first | kernel_rfl | (refine ⟨?_, ?_⟩ <;> kernel_rfl))); (try (conv => arg 1; simp [Cpu.cells, e1])); (with_reducible refine ev2_some ?_))
      | ((with_reducible first | refine st_q ?_ | refine fr_q ?_ | refine st_res ?_); (try (conv => arg 1; simp [Cpu.cells, e1])); (with_reducible refine ev_some ?_))
      | ((with_reducible refine st_if ?_); (try (conv => arg 1; simp [Cpu.cells, e1])); (with_reducible refine at_mk ?_); with_reducible first | refine br_t ?_ | refine br_f ?_))
    refine st_tree rfl (szIntS c.Slots (left - (c.Regs.length : Int)) (by omega) (by omega) m2) (.cons (dr_ints (fun h => h) _) (.cons (.int _ _) .nil)) ?_
    rw [if_neg h2]
    have e2 : ¬ left - (c.Regs.length : Int) - (c.Slots.length : Int) < 0 := by omega
    repeat' (first
      | (with_reducible first | refine st_seq ?_ | refine st_reg ?_ | refine st_block ?_ | refine st_nil ?_ | refine st_skip ?_ | refine st_ret ?_ | refine st_exit ?_ | refine fr_nil ?_ | refine k_seq_n ?_ | refine k_seq_r ?_ | refine k_seq_e ?_ | refine k_blk_n ?_ | refine k_blk_r ?_ | refine k_blk_s ?_ | refine k_blk_o rfl ?_ | refine k_fn_r ?_ | refine k_fn_n ?_ | refine k_lp_r ?_ | refine k_lp_e ?_)
      | ((with_reducible first | refine st_move ?_ | refine st_asg ?_ | refine st_c ?_ | refine fr_c ?_); (try (conv => arg 1; simp [Cpu.cells, e2])); (with_reducible refine at_mk ?_))
      | ((with_reducible first | refine st_g ?_ | refine fr_g ?_); (try (conv => arg 1; simp [Cpu.cells, e2])); (with_reducible refine at_mk ?_); with_reducible first | refine gd_tt ?_ | refine gd_ff ?_ | refine gd_tf ?_ | refine gd_ft ?_ | refine gd_no ?_)
      | ((with_reducible refine st_m rfl ?_); (try (conv => arg 1; simp [Cpu.cells, e2])); (with_reducible refine ev2_some ?_))
      | ((with_reducible refine fr_n rfl ?_); (try (conv => arg 1; simp [Cpu.cells, e2])); (with_reducible refine evn_some ?_))
      | ((with_reducible first | refine st_cv ?_ | refine fr_cv ?_); (try (conv => arg 1; simp [Cpu.cells, e2])); (with_reducible refine at_mk ?_); (with_reducible refine fn_mk ?_); (try (conv => arg 1; simp [Cpu.cells, e2])); (with_reducible refine at_mk ?_))
      | ((with_reducible refine fr_a ?_); (try (conv => arg 1; simp [Cpu.cells, e2])); (with_reducible refine at_mk ?_); (try (conv => arg 1; simp [Cpu.cells, e2])); (with_reducible refine at_mk ?_); refine ⟨?names, ?_⟩; (case names => (simp [appNames, ints, intss] <;> first | kernel_rfl | (refine ⟨?_, ?_⟩ <;> kernel_rfl))); (try (conv => arg 1; simp [Cpu.cells, e2])); (with_reducible refine ev2_some ?_))
      | ((with_reducible first | refine st_q ?_ | refine fr_q ?_ | refine st_res ?_); (try (conv => arg 1; simp [Cpu.cells, e2])); (with_reducible refine ev_some ?_))
      | ((with_reducible refine st_if ?_); (try (conv => arg 1; simp [Cpu.cells, e2])); (with_reducible refine at_mk ?_); with_reducible first | refine br_t ?_ | refine br_f ?_))
    refine st_tree rfl (szIntSS c.Mem (left - (c.Regs.length : Int) - (c.Slots.length : Int)) (by omega) (by omega) m3 m3') (.cons (dr_intss (fun h => h) _) (.cons (.int _ _) .nil)) ?_
    rw [if_neg h3]
    have e3 : ¬ left - (c.Regs.length : Int) - (c.Slots.length : Int) - (wtSS c.Mem : Int) < 0 := by omega
    repeat' (first
      | (with_reducible first | refine st_seq ?_ | refine st_reg ?_ | refine st_block ?_ | refine st_nil ?_ | refine st_skip ?_ | refine st_ret ?_ | refine st_exit ?_ | refine fr_nil ?_ | refine k_seq_n ?_ | refine k_seq_r ?_ | refine k_seq_e ?_ | refine k_blk_n ?_ | refine k_blk_r ?_ | refine k_blk_s ?_ | refine k_blk_o rfl ?_ | refine k_fn_r ?_ | refine k_fn_n ?_ | refine k_lp_r ?_ | refine k_lp_e ?_)
      | ((with_reducible first | refine st_move ?_ | refine st_asg ?_ | refine st_c ?_ | refine fr_c ?_); (try (conv => arg 1; simp [Cpu.cells, e3])); (with_reducible refine at_mk ?_))
      | ((with_reducible first | refine st_g ?_ | refine fr_g ?_); (try (conv => arg 1; simp [Cpu.cells, e3])); (with_reducible refine at_mk ?_); with_reducible first | refine gd_tt ?_ | refine gd_ff ?_ | refine gd_tf ?_ | refine gd_ft ?_ | refine gd_no ?_)
      | ((with_reducible refine st_m rfl ?_); (try (conv => arg 1; simp [Cpu.cells, e3])); (with_reducible refine ev2_some ?_))
      | ((with_reducible refine fr_n rfl ?_); (try (conv => arg 1; simp [Cpu.cells, e3])); (with_reducible refine evn_some ?_))
      | ((with_reducible first | refine st_cv ?_ | refine fr_cv ?_); (try (conv => arg 1; simp [Cpu.cells, e3])); (with_reducible refine at_mk ?_); (with_reducible refine fn_mk ?_); (try (conv => arg 1; simp [Cpu.cells, e3])); (with_reducible refine at_mk ?_))
      | ((with_reducible refine fr_a ?_); (try (conv => arg 1; simp [Cpu.cells, e3])); (with_reducible refine at_mk ?_); (try (conv => arg 1; simp [Cpu.cells, e3])); (with_reducible refine at_mk ?_); refine ⟨?names, ?_⟩; (case names => (simp [appNames, ints, intss] <;> first | kernel_rfl | (refine ⟨?_, ?_⟩ <;> kernel_rfl))); (try (conv => arg 1; simp [Cpu.cells, e3])); (with_reducible refine ev2_some ?_))
      | ((with_reducible first | refine st_q ?_ | refine fr_q ?_ | refine st_res ?_); (try (conv => arg 1; simp [Cpu.cells, e3])); (with_reducible refine ev_some ?_))
      | ((with_reducible refine st_if ?_); (try (conv => arg 1; simp [Cpu.cells, e3])); (with_reducible refine at_mk ?_); with_reducible first | refine br_t ?_ | refine br_f ?_))
    refine st_tree rfl (szIntS c.Input (left - (c.Regs.length : Int) - (c.Slots.length : Int) - (wtSS c.Mem : Int)) (by omega) (by omega) m4) (.cons (dr_ints (fun h => h) _) (.cons (.int _ _) .nil)) ?_
    rw [if_pos h4]
    repeat' (first
      | (with_reducible first | refine st_seq ?_ | refine st_reg ?_ | refine st_block ?_ | refine st_nil ?_ | refine st_skip ?_ | refine st_ret ?_ | refine st_exit ?_ | refine fr_nil ?_ | refine k_seq_n ?_ | refine k_seq_r ?_ | refine k_seq_e ?_ | refine k_blk_n ?_ | refine k_blk_r ?_ | refine k_blk_s ?_ | refine k_blk_o rfl ?_ | refine k_fn_r ?_ | refine k_fn_n ?_ | refine k_lp_r ?_ | refine k_lp_e ?_)
      | ((with_reducible first | refine st_move ?_ | refine st_asg ?_ | refine st_c ?_ | refine fr_c ?_); (try (conv => arg 1; simp [Cpu.cells])); (with_reducible refine at_mk ?_))
      | ((with_reducible first | refine st_g ?_ | refine fr_g ?_); (try (conv => arg 1; simp [Cpu.cells])); (with_reducible refine at_mk ?_); with_reducible first | refine gd_tt ?_ | refine gd_ff ?_ | refine gd_tf ?_ | refine gd_ft ?_ | refine gd_no ?_)
      | ((with_reducible refine st_m rfl ?_); (try (conv => arg 1; simp [Cpu.cells])); (with_reducible refine ev2_some ?_))
      | ((with_reducible refine fr_n rfl ?_); (try (conv => arg 1; simp [Cpu.cells])); (with_reducible refine evn_some ?_))
      | ((with_reducible first | refine st_cv ?_ | refine fr_cv ?_); (try (conv => arg 1; simp [Cpu.cells])); (with_reducible refine at_mk ?_); (with_reducible refine fn_mk ?_); (try (conv => arg 1; simp [Cpu.cells])); (with_reducible refine at_mk ?_))
      | ((with_reducible refine fr_a ?_); (try (conv => arg 1; simp [Cpu.cells])); (with_reducible refine at_mk ?_); (try (conv => arg 1; simp [Cpu.cells])); (with_reducible refine at_mk ?_); refine ⟨?names, ?_⟩; (case names => (simp [appNames, ints, intss] <;> first | kernel_rfl | (refine ⟨?_, ?_⟩ <;> kernel_rfl))); (try (conv => arg 1; simp [Cpu.cells])); (with_reducible refine ev2_some ?_))
      | ((with_reducible first | refine st_q ?_ | refine fr_q ?_ | refine st_res ?_); (try (conv => arg 1; simp [Cpu.cells])); (with_reducible refine ev_some ?_))
      | ((with_reducible refine st_if ?_); (try (conv => arg 1; simp [Cpu.cells])); (with_reducible refine at_mk ?_); with_reducible first | refine br_t ?_ | refine br_f ?_))
    exact .int _ _
  by_cases h5 : left - (c.Regs.length : Int) - (c.Slots.length : Int) - (wtSS c.Mem : Int) - (c.Input.length : Int) < (c.Out.length : Int)
  · refine ⟨-1, ?_, .inl (by omega)⟩
    intro T
    refine enter mixed MU9 Try.func12 rfl (by kernel_rfl) rfl ?_
    repeat' (first
      | (with_reducible first | refine st_seq ?_ | refine st_reg ?_ | refine st_block ?_ | refine st_nil ?_ | refine st_skip ?_ | refine st_ret ?_ | refine st_exit ?_ | refine fr_nil ?_ | refine k_seq_n ?_ | refine k_seq_r ?_ | refine k_seq_e ?_ | refine k_blk_n ?_ | refine k_blk_r ?_ | refine k_blk_s ?_ | refine k_blk_o rfl ?_ | refine k_fn_r ?_ | refine k_fn_n ?_ | refine k_lp_r ?_ | refine k_lp_e ?_)
      | ((with_reducible first | refine st_move ?_ | refine st_asg ?_ | refine st_c ?_ | refine fr_c ?_); (try (conv => arg 1; simp [Cpu.cells])); (with_reducible refine at_mk ?_))
      | ((with_reducible first | refine st_g ?_ | refine fr_g ?_); (try (conv => arg 1; simp [Cpu.cells])); (with_reducible refine at_mk ?_); with_reducible first | refine gd_tt ?_ | refine gd_ff ?_ | refine gd_tf ?_ | refine gd_ft ?_ | refine gd_no ?_)
      | ((with_reducible refine st_m rfl ?_); (try (conv => arg 1; simp [Cpu.cells])); (with_reducible refine ev2_some ?_))
      | ((with_reducible refine fr_n rfl ?_); (try (conv => arg 1; simp [Cpu.cells])); (with_reducible refine evn_some ?_))
      | ((with_reducible first | refine st_cv ?_ | refine fr_cv ?_); (try (conv => arg 1; simp [Cpu.cells])); (with_reducible refine at_mk ?_); (with_reducible refine fn_mk ?_); (try (conv => arg 1; simp [Cpu.cells])); (with_reducible refine at_mk ?_))
      | ((with_reducible refine fr_a ?_); (try (conv => arg 1; simp [Cpu.cells])); (with_reducible refine at_mk ?_); (try (conv => arg 1; simp [Cpu.cells])); (with_reducible refine at_mk ?_); refine ⟨?names, ?_⟩; (case names => (simp [appNames, ints, intss] <;> first | kernel_rfl | (refine ⟨?_, ?_⟩ <;> kernel_rfl))); (try (conv => arg 1; simp [Cpu.cells])); (with_reducible refine ev2_some ?_))
      | ((with_reducible first | refine st_q ?_ | refine fr_q ?_ | refine st_res ?_); (try (conv => arg 1; simp [Cpu.cells])); (with_reducible refine ev_some ?_))
      | ((with_reducible refine st_if ?_); (try (conv => arg 1; simp [Cpu.cells])); (with_reducible refine at_mk ?_); with_reducible first | refine br_t ?_ | refine br_f ?_))
    refine st_tree rfl (szIntS c.Regs (left) (by omega) (by omega) m1) (.cons (dr_ints (fun h => h) _) (.cons (.int _ _) .nil)) ?_
    rw [if_neg h1]
    have e1 : ¬ left - (c.Regs.length : Int) < 0 := by omega
    repeat' (first
      | (with_reducible first | refine st_seq ?_ | refine st_reg ?_ | refine st_block ?_ | refine st_nil ?_ | refine st_skip ?_ | refine st_ret ?_ | refine st_exit ?_ | refine fr_nil ?_ | refine k_seq_n ?_ | refine k_seq_r ?_ | refine k_seq_e ?_ | refine k_blk_n ?_ | refine k_blk_r ?_ | refine k_blk_s ?_ | refine k_blk_o rfl ?_ | refine k_fn_r ?_ | refine k_fn_n ?_ | refine k_lp_r ?_ | refine k_lp_e ?_)
      | ((with_reducible first | refine st_move ?_ | refine st_asg ?_ | refine st_c ?_ | refine fr_c ?_); (try (conv => arg 1; simp [Cpu.cells, e1])); (with_reducible refine at_mk ?_))
      | ((with_reducible first | refine st_g ?_ | refine fr_g ?_); (try (conv => arg 1; simp [Cpu.cells, e1])); (with_reducible refine at_mk ?_); with_reducible first | refine gd_tt ?_ | refine gd_ff ?_ | refine gd_tf ?_ | refine gd_ft ?_ | refine gd_no ?_)
      | ((with_reducible refine st_m rfl ?_); (try (conv => arg 1; simp [Cpu.cells, e1])); (with_reducible refine ev2_some ?_))
      | ((with_reducible refine fr_n rfl ?_); (try (conv => arg 1; simp [Cpu.cells, e1])); (with_reducible refine evn_some ?_))
      | ((with_reducible first | refine st_cv ?_ | refine fr_cv ?_); (try (conv => arg 1; simp [Cpu.cells, e1])); (with_reducible refine at_mk ?_); (with_reducible refine fn_mk ?_); (try (conv => arg 1; simp [Cpu.cells, e1])); (with_reducible refine at_mk ?_))
      | ((with_reducible refine fr_a ?_); (try (conv => arg 1; simp [Cpu.cells, e1])); (with_reducible refine at_mk ?_); (try (conv => arg 1; simp [Cpu.cells, e1])); (with_reducible refine at_mk ?_); refine ⟨?names, ?_⟩; (case names => (simp [appNames, ints, intss] <;> first | kernel_rfl | (refine ⟨?_, ?_⟩ <;> kernel_rfl))); (try (conv => arg 1; simp [Cpu.cells, e1])); (with_reducible refine ev2_some ?_))
      | ((with_reducible first | refine st_q ?_ | refine fr_q ?_ | refine st_res ?_); (try (conv => arg 1; simp [Cpu.cells, e1])); (with_reducible refine ev_some ?_))
      | ((with_reducible refine st_if ?_); (try (conv => arg 1; simp [Cpu.cells, e1])); (with_reducible refine at_mk ?_); with_reducible first | refine br_t ?_ | refine br_f ?_))
    refine st_tree rfl (szIntS c.Slots (left - (c.Regs.length : Int)) (by omega) (by omega) m2) (.cons (dr_ints (fun h => h) _) (.cons (.int _ _) .nil)) ?_
    rw [if_neg h2]
    have e2 : ¬ left - (c.Regs.length : Int) - (c.Slots.length : Int) < 0 := by omega
    repeat' (first
      | (with_reducible first | refine st_seq ?_ | refine st_reg ?_ | refine st_block ?_ | refine st_nil ?_ | refine st_skip ?_ | refine st_ret ?_ | refine st_exit ?_ | refine fr_nil ?_ | refine k_seq_n ?_ | refine k_seq_r ?_ | refine k_seq_e ?_ | refine k_blk_n ?_ | refine k_blk_r ?_ | refine k_blk_s ?_ | refine k_blk_o rfl ?_ | refine k_fn_r ?_ | refine k_fn_n ?_ | refine k_lp_r ?_ | refine k_lp_e ?_)
      | ((with_reducible first | refine st_move ?_ | refine st_asg ?_ | refine st_c ?_ | refine fr_c ?_); (try (conv => arg 1; simp [Cpu.cells, e2])); (with_reducible refine at_mk ?_))
      | ((with_reducible first | refine st_g ?_ | refine fr_g ?_); (try (conv => arg 1; simp [Cpu.cells, e2])); (with_reducible refine at_mk ?_); with_reducible first | refine gd_tt ?_ | refine gd_ff ?_ | refine gd_tf ?_ | refine gd_ft ?_ | refine gd_no ?_)
      | ((with_reducible refine st_m rfl ?_); (try (conv => arg 1; simp [Cpu.cells, e2])); (with_reducible refine ev2_some ?_))
      | ((with_reducible refine fr_n rfl ?_); (try (conv => arg 1; simp [Cpu.cells, e2])); (with_reducible refine evn_some ?_))
      | ((with_reducible first | refine st_cv ?_ | refine fr_cv ?_); (try (conv => arg 1; simp [Cpu.cells, e2])); (with_reducible refine at_mk ?_); (with_reducible refine fn_mk ?_); (try (conv => arg 1; simp [Cpu.cells, e2])); (with_reducible refine at_mk ?_))
      | ((with_reducible refine fr_a ?_); (try (conv => arg 1; simp [Cpu.cells, e2])); (with_reducible refine at_mk ?_); (try (conv => arg 1; simp [Cpu.cells, e2])); (with_reducible refine at_mk ?_); refine ⟨?names, ?_⟩; (case names => (simp [appNames, ints, intss] <;> first | kernel_rfl | (refine ⟨?_, ?_⟩ <;> kernel_rfl))); (try (conv => arg 1; simp [Cpu.cells, e2])); (with_reducible refine ev2_some ?_))
      | ((with_reducible first | refine st_q ?_ | refine fr_q ?_ | refine st_res ?_); (try (conv => arg 1; simp [Cpu.cells, e2])); (with_reducible refine ev_some ?_))
      | ((with_reducible refine st_if ?_); (try (conv => arg 1; simp [Cpu.cells, e2])); (with_reducible refine at_mk ?_); with_reducible first | refine br_t ?_ | refine br_f ?_))
    refine st_tree rfl (szIntSS c.Mem (left - (c.Regs.length : Int) - (c.Slots.length : Int)) (by omega) (by omega) m3 m3') (.cons (dr_intss (fun h => h) _) (.cons (.int _ _) .nil)) ?_
    rw [if_neg h3]
    have e3 : ¬ left - (c.Regs.length : Int) - (c.Slots.length : Int) - (wtSS c.Mem : Int) < 0 := by omega
    repeat' (first
      | (with_reducible first | refine st_seq ?_ | refine st_reg ?_ | refine st_block ?_ | refine st_nil ?_ | refine st_skip ?_ | refine st_ret ?_ | refine st_exit ?_ | refine fr_nil ?_ | refine k_seq_n ?_ | refine k_seq_r ?_ | refine k_seq_e ?_ | refine k_blk_n ?_ | refine k_blk_r ?_ | refine k_blk_s ?_ | refine k_blk_o rfl ?_ | refine k_fn_r ?_ | refine k_fn_n ?_ | refine k_lp_r ?_ | refine k_lp_e ?_)
      | ((with_reducible first | refine st_move ?_ | refine st_asg ?_ | refine st_c ?_ | refine fr_c ?_); (try (conv => arg 1; simp [Cpu.cells, e3])); (with_reducible refine at_mk ?_))
      | ((with_reducible first | refine st_g ?_ | refine fr_g ?_); (try (conv => arg 1; simp [Cpu.cells, e3])); (with_reducible refine at_mk ?_); with_reducible first | refine gd_tt ?_ | refine gd_ff ?_ | refine gd_tf ?_ | refine gd_ft ?_ | refine gd_no ?_)
      | ((with_reducible refine st_m rfl ?_); (try (conv => arg 1; simp [Cpu.cells, e3])); (with_reducible refine ev2_some ?_))
      | ((with_reducible refine fr_n rfl ?_); (try (conv => arg 1; simp [Cpu.cells, e3])); (with_reducible refine evn_some ?_))
      | ((with_reducible first | refine st_cv ?_ | refine fr_cv ?_); (try (conv => arg 1; simp [Cpu.cells, e3])); (with_reducible refine at_mk ?_); (with_reducible refine fn_mk ?_); (try (conv => arg 1; simp [Cpu.cells, e3])); (with_reducible refine at_mk ?_))
      | ((with_reducible refine fr_a ?_); (try (conv => arg 1; simp [Cpu.cells, e3])); (with_reducible refine at_mk ?_); (try (conv => arg 1; simp [Cpu.cells, e3])); (with_reducible refine at_mk ?_); refine ⟨?names, ?_⟩; (case names => (simp [appNames, ints, intss] <;> first | kernel_rfl | (refine ⟨?_, ?_⟩ <;> kernel_rfl))); (try (conv => arg 1; simp [Cpu.cells, e3])); (with_reducible refine ev2_some ?_))
      | ((with_reducible first | refine st_q ?_ | refine fr_q ?_ | refine st_res ?_); (try (conv => arg 1; simp [Cpu.cells, e3])); (with_reducible refine ev_some ?_))
      | ((with_reducible refine st_if ?_); (try (conv => arg 1; simp [Cpu.cells, e3])); (with_reducible refine at_mk ?_); with_reducible first | refine br_t ?_ | refine br_f ?_))
    refine st_tree rfl (szIntS c.Input (left - (c.Regs.length : Int) - (c.Slots.length : Int) - (wtSS c.Mem : Int)) (by omega) (by omega) m4) (.cons (dr_ints (fun h => h) _) (.cons (.int _ _) .nil)) ?_
    rw [if_neg h4]
    have e4 : ¬ left - (c.Regs.length : Int) - (c.Slots.length : Int) - (wtSS c.Mem : Int) - (c.Input.length : Int) < 0 := by omega
    repeat' (first
      | (with_reducible first | refine st_seq ?_ | refine st_reg ?_ | refine st_block ?_ | refine st_nil ?_ | refine st_skip ?_ | refine st_ret ?_ | refine st_exit ?_ | refine fr_nil ?_ | refine k_seq_n ?_ | refine k_seq_r ?_ | refine k_seq_e ?_ | refine k_blk_n ?_ | refine k_blk_r ?_ | refine k_blk_s ?_ | refine k_blk_o rfl ?_ | refine k_fn_r ?_ | refine k_fn_n ?_ | refine k_lp_r ?_ | refine k_lp_e ?_)
      | ((with_reducible first | refine st_move ?_ | refine st_asg ?_ | refine st_c ?_ | refine fr_c ?_); (try (conv => arg 1; simp [Cpu.cells, e4])); (with_reducible refine at_mk ?_))
      | ((with_reducible first | refine st_g ?_ | refine fr_g ?_); (try (conv => arg 1; simp [Cpu.cells, e4])); (with_reducible refine at_mk ?_); with_reducible first | refine gd_tt ?_ | refine gd_ff ?_ | refine gd_tf ?_ | refine gd_ft ?_ | refine gd_no ?_)
      | ((with_reducible refine st_m rfl ?_); (try (conv => arg 1; simp [Cpu.cells, e4])); (with_reducible refine ev2_some ?_))
      | ((with_reducible refine fr_n rfl ?_); (try (conv => arg 1; simp [Cpu.cells, e4])); (with_reducible refine evn_some ?_))
      | ((with_reducible first | refine st_cv ?_ | refine fr_cv ?_); (try (conv => arg 1; simp [Cpu.cells, e4])); (with_reducible refine at_mk ?_); (with_reducible refine fn_mk ?_); (try (conv => arg 1; simp [Cpu.cells, e4])); (with_reducible refine at_mk ?_))
      | ((with_reducible refine fr_a ?_); (try (conv => arg 1; simp [Cpu.cells, e4])); (with_reducible refine at_mk ?_); (try (conv => arg 1; simp [Cpu.cells, e4])); (with_reducible refine at_mk ?_); refine ⟨?names, ?_⟩; (case names => (simp [appNames, ints, intss] <;> first | kernel_rfl | (refine ⟨?_, ?_⟩ <;> kernel_rfl))); (try (conv => arg 1; simp [Cpu.cells, e4])); (with_reducible refine ev2_some ?_))
      | ((with_reducible first | refine st_q ?_ | refine fr_q ?_ | refine st_res ?_); (try (conv => arg 1; simp [Cpu.cells, e4])); (with_reducible refine ev_some ?_))
      | ((with_reducible refine st_if ?_); (try (conv => arg 1; simp [Cpu.cells, e4])); (with_reducible refine at_mk ?_); with_reducible first | refine br_t ?_ | refine br_f ?_))
    refine st_tree rfl (szIntS c.Out (left - (c.Regs.length : Int) - (c.Slots.length : Int) - (wtSS c.Mem : Int) - (c.Input.length : Int)) (by omega) (by omega) m5) (.cons (dr_ints (fun h => h) _) (.cons (.int _ _) .nil)) ?_
    rw [if_pos h5]
    repeat' (first
      | (with_reducible first | refine st_seq ?_ | refine st_reg ?_ | refine st_block ?_ | refine st_nil ?_ | refine st_skip ?_ | refine st_ret ?_ | refine st_exit ?_ | refine fr_nil ?_ | refine k_seq_n ?_ | refine k_seq_r ?_ | refine k_seq_e ?_ | refine k_blk_n ?_ | refine k_blk_r ?_ | refine k_blk_s ?_ | refine k_blk_o rfl ?_ | refine k_fn_r ?_ | refine k_fn_n ?_ | refine k_lp_r ?_ | refine k_lp_e ?_)
      | ((with_reducible first | refine st_move ?_ | refine st_asg ?_ | refine st_c ?_ | refine fr_c ?_); (try (conv => arg 1; simp [Cpu.cells])); (with_reducible refine at_mk ?_))
      | ((with_reducible first | refine st_g ?_ | refine fr_g ?_); (try (conv => arg 1; simp [Cpu.cells])); (with_reducible refine at_mk ?_); with_reducible first | refine gd_tt ?_ | refine gd_ff ?_ | refine gd_tf ?_ | refine gd_ft ?_ | refine gd_no ?_)
      | ((with_reducible refine st_m rfl ?_); (try (conv => arg 1; simp [Cpu.cells])); (with_reducible refine ev2_some ?_))
      | ((with_reducible refine fr_n rfl ?_); (try (conv => arg 1; simp [Cpu.cells])); (with_reducible refine evn_some ?_))
      | ((with_reducible first | refine st_cv ?_ | refine fr_cv ?_); (try (conv => arg 1; simp [Cpu.cells])); (with_reducible refine at_mk ?_); (with_reducible refine fn_mk ?_); (try (conv => arg 1; simp [Cpu.cells])); (with_reducible refine at_mk ?_))
      | ((with_reducible refine fr_a ?_); (try (conv => arg 1; simp [Cpu.cells])); (with_reducible refine at_mk ?_); (try (conv => arg 1; simp [Cpu.cells])); (with_reducible refine at_mk ?_); refine ⟨?names, ?_⟩; (case names => (simp [appNames, ints, intss] <;> first | kernel_rfl | (refine ⟨?_, ?_⟩ <;> kernel_rfl))); (try (conv => arg 1; simp [Cpu.cells])); (with_reducible refine ev2_some ?_))
      | ((with_reducible first | refine st_q ?_ | refine fr_q ?_ | refine st_res ?_); (try (conv => arg 1; simp [Cpu.cells])); (with_reducible refine ev_some ?_))
      | ((with_reducible refine st_if ?_); (try (conv => arg 1; simp [Cpu.cells])); (with_reducible refine at_mk ?_); with_reducible first | refine br_t ?_ | refine br_f ?_))
    exact .int _ _
  refine ⟨left - (c.Regs.length : Int) - (c.Slots.length : Int) - (wtSS c.Mem : Int) - (c.Input.length : Int) - (c.Out.length : Int), ?_, .inr ⟨by omega, by omega, by omega, by omega, by omega⟩⟩
  intro T
  refine enter mixed MU9 Try.func12 rfl (by kernel_rfl) rfl ?_
  repeat' (first
    | (with_reducible first | refine st_seq ?_ | refine st_reg ?_ | refine st_block ?_ | refine st_nil ?_ | refine st_skip ?_ | refine st_ret ?_ | refine st_exit ?_ | refine fr_nil ?_ | refine k_seq_n ?_ | refine k_seq_r ?_ | refine k_seq_e ?_ | refine k_blk_n ?_ | refine k_blk_r ?_ | refine k_blk_s ?_ | refine k_blk_o rfl ?_ | refine k_fn_r ?_ | refine k_fn_n ?_ | refine k_lp_r ?_ | refine k_lp_e ?_)
    | ((with_reducible first | refine st_move ?_ | refine st_asg ?_ | refine st_c ?_ | refine fr_c ?_); (try (conv => arg 1; simp [Cpu.cells])); (with_reducible refine at_mk ?_))
    | ((with_reducible first | refine st_g ?_ | refine fr_g ?_); (try (conv => arg 1; simp [Cpu.cells])); (with_reducible refine at_mk ?_); with_reducible first | refine gd_tt ?_ | refine gd_ff ?_ | refine gd_tf ?_ | refine gd_ft ?_ | refine gd_no ?_)
    | ((with_reducible refine st_m rfl ?_); (try (conv => arg 1; simp [Cpu.cells])); (with_reducible refine ev2_some ?_))
    | ((with_reducible refine fr_n rfl ?_); (try (conv => arg 1; simp [Cpu.cells])); (with_reducible refine evn_some ?_))
    | ((with_reducible first | refine st_cv ?_ | refine fr_cv ?_); (try (conv => arg 1; simp [Cpu.cells])); (with_reducible refine at_mk ?_); (with_reducible refine fn_mk ?_); (try (conv => arg 1; simp [Cpu.cells])); (with_reducible refine at_mk ?_))
    | ((with_reducible refine fr_a ?_); (try (conv => arg 1; simp [Cpu.cells])); (with_reducible refine at_mk ?_); (try (conv => arg 1; simp [Cpu.cells])); (with_reducible refine at_mk ?_); refine ⟨?names, ?_⟩; (case names => (simp [appNames, ints, intss] <;> first | kernel_rfl | (refine ⟨?_, ?_⟩ <;> kernel_rfl))); (try (conv => arg 1; simp [Cpu.cells])); (with_reducible refine ev2_some ?_))
    | ((with_reducible first | refine st_q ?_ | refine fr_q ?_ | refine st_res ?_); (try (conv => arg 1; simp [Cpu.cells])); (with_reducible refine ev_some ?_))
    | ((with_reducible refine st_if ?_); (try (conv => arg 1; simp [Cpu.cells])); (with_reducible refine at_mk ?_); with_reducible first | refine br_t ?_ | refine br_f ?_))
  refine st_tree rfl (szIntS c.Regs (left) (by omega) (by omega) m1) (.cons (dr_ints (fun h => h) _) (.cons (.int _ _) .nil)) ?_
  rw [if_neg h1]
  have e1 : ¬ left - (c.Regs.length : Int) < 0 := by omega
  repeat' (first
    | (with_reducible first | refine st_seq ?_ | refine st_reg ?_ | refine st_block ?_ | refine st_nil ?_ | refine st_skip ?_ | refine st_ret ?_ | refine st_exit ?_ | refine fr_nil ?_ | refine k_seq_n ?_ | refine k_seq_r ?_ | refine k_seq_e ?_ | refine k_blk_n ?_ | refine k_blk_r ?_ | refine k_blk_s ?_ | refine k_blk_o rfl ?_ | refine k_fn_r ?_ | refine k_fn_n ?_ | refine k_lp_r ?_ | refine k_lp_e ?_)
    | ((with_reducible first | refine st_move ?_ | refine st_asg ?_ | refine st_c ?_ | refine fr_c ?_); (try (conv => arg 1; simp [Cpu.cells, e1])); (with_reducible refine at_mk ?_))
    | ((with_reducible first | refine st_g ?_ | refine fr_g ?_); (try (conv => arg 1; simp [Cpu.cells, e1])); (with_reducible refine at_mk ?_); with_reducible first | refine gd_tt ?_ | refine gd_ff ?_ | refine gd_tf ?_ | refine gd_ft ?_ | refine gd_no ?_)
    | ((with_reducible refine st_m rfl ?_); (try (conv => arg 1; simp [Cpu.cells, e1])); (with_reducible refine ev2_some ?_))
    | ((with_reducible refine fr_n rfl ?_); (try (conv => arg 1; simp [Cpu.cells, e1])); (with_reducible refine evn_some ?_))
    | ((with_reducible first | refine st_cv ?_ | refine fr_cv ?_); (try (conv => arg 1; simp [Cpu.cells, e1])); (with_reducible refine at_mk ?_); (with_reducible refine fn_mk ?_); (try (conv => arg 1; simp [Cpu.cells, e1])); (with_reducible refine at_mk ?_))
    | ((with_reducible refine fr_a ?_); (try (conv => arg 1; simp [Cpu.cells, e1])); (with_reducible refine at_mk ?_); (try (conv => arg 1; simp [Cpu.cells, e1])); (with_reducible refine at_mk ?_); refine ⟨?names, ?_⟩; (case names => (simp [appNames, ints, intss] <;> first | kernel_rfl | (refine ⟨?_, ?_⟩ <;> kernel_rfl))); (try (conv => arg 1; simp [Cpu.cells, e1])); (with_reducible refine ev2_some ?_))
    | ((with_reducible first | refine st_q ?_ | refine fr_q ?_ | refine st_res ?_); (try (conv => arg 1; simp [Cpu.cells, e1])); (with_reducible refine ev_some ?_))
    | ((with_reducible refine st_if ?_); (try (conv => arg 1; simp [Cpu.cells, e1])); (with_reducible refine at_mk ?_); with_reducible first | refine br_t ?_ | refine br_f ?_))
  refine st_tree rfl (szIntS c.Slots (left - (c.Regs.length : Int)) (by omega) (by omega) m2) (.cons (dr_ints (fun h => h) _) (.cons (.int _ _) .nil)) ?_
  rw [if_neg h2]
  have e2 : ¬ left - (c.Regs.length : Int) - (c.Slots.length : Int) < 0 := by omega
  repeat' (first
    | (with_reducible first | refine st_seq ?_ | refine st_reg ?_ | refine st_block ?_ | refine st_nil ?_ | refine st_skip ?_ | refine st_ret ?_ | refine st_exit ?_ | refine fr_nil ?_ | refine k_seq_n ?_ | refine k_seq_r ?_ | refine k_seq_e ?_ | refine k_blk_n ?_ | refine k_blk_r ?_ | refine k_blk_s ?_ | refine k_blk_o rfl ?_ | refine k_fn_r ?_ | refine k_fn_n ?_ | refine k_lp_r ?_ | refine k_lp_e ?_)
    | ((with_reducible first | refine st_move ?_ | refine st_asg ?_ | refine st_c ?_ | refine fr_c ?_); (try (conv => arg 1; simp [Cpu.cells, e2])); (with_reducible refine at_mk ?_))
    | ((with_reducible first | refine st_g ?_ | refine fr_g ?_); (try (conv => arg 1; simp [Cpu.cells, e2])); (with_reducible refine at_mk ?_); with_reducible first | refine gd_tt ?_ | refine gd_ff ?_ | refine gd_tf ?_ | refine gd_ft ?_ | refine gd_no ?_)
    | ((with_reducible refine st_m rfl ?_); (try (conv => arg 1; simp [Cpu.cells, e2])); (with_reducible refine ev2_some ?_))
    | ((with_reducible refine fr_n rfl ?_); (try (conv => arg 1; simp [Cpu.cells, e2])); (with_reducible refine evn_some ?_))
    | ((with_reducible first | refine st_cv ?_ | refine fr_cv ?_); (try (conv => arg 1; simp [Cpu.cells, e2])); (with_reducible refine at_mk ?_); (with_reducible refine fn_mk ?_); (try (conv => arg 1; simp [Cpu.cells, e2])); (with_reducible refine at_mk ?_))
    | ((with_reducible refine fr_a ?_); (try (conv => arg 1; simp [Cpu.cells, e2])); (with_reducible refine at_mk ?_); (try (conv => arg 1; simp [Cpu.cells, e2])); (with_reducible refine at_mk ?_); refine ⟨?names, ?_⟩; (case names => (simp [appNames, ints, intss] <;> first | kernel_rfl | (refine ⟨?_, ?_⟩ <;> kernel_rfl))); (try (conv => arg 1; simp [Cpu.cells, e2])); (with_reducible refine ev2_some ?_))
    | ((with_reducible first | refine st_q ?_ | refine fr_q ?_ | refine st_res ?_); (try (conv => arg 1; simp [Cpu.cells, e2])); (with_reducible refine ev_some ?_))
    | ((with_reducible refine st_if ?_); (try (conv => arg 1; simp [Cpu.cells, e2])); (with_reducible refine at_mk ?_); with_reducible first | refine br_t ?_ | refine br_f ?_))
  refine st_tree rfl (szIntSS c.Mem (left - (c.Regs.length : Int) - (c.Slots.length : Int)) (by omega) (by omega) m3 m3') (.cons (dr_intss (fun h => h) _) (.cons (.int _ _) .nil)) ?_
  rw [if_neg h3]
  have e3 : ¬ left - (c.Regs.length : Int) - (c.Slots.length : Int) - (wtSS c.Mem : Int) < 0 := by omega
  repeat' (first
    | (with_reducible first | refine st_seq ?_ | refine st_reg ?_ | refine st_block ?_ | refine st_nil ?_ | refine st_skip ?_ | refine st_ret ?_ | refine st_exit ?_ | refine fr_nil ?_ | refine k_seq_n ?_ | refine k_seq_r ?_ | refine k_seq_e ?_ | refine k_blk_n ?_ | refine k_blk_r ?_ | refine k_blk_s ?_ | refine k_blk_o rfl ?_ | refine k_fn_r ?_ | refine k_fn_n ?_ | refine k_lp_r ?_ | refine k_lp_e ?_)
    | ((with_reducible first | refine st_move ?_ | refine st_asg ?_ | refine st_c ?_ | refine fr_c ?_); (try (conv => arg 1; simp [Cpu.cells, e3])); (with_reducible refine at_mk ?_))
    | ((with_reducible first | refine st_g ?_ | refine fr_g ?_); (try (conv => arg 1; simp [Cpu.cells, e3])); (with_reducible refine at_mk ?_); with_reducible first | refine gd_tt ?_ | refine gd_ff ?_ | refine gd_tf ?_ | refine gd_ft ?_ | refine gd_no ?_)
    | ((with_reducible refine st_m rfl ?_); (try (conv => arg 1; simp [Cpu.cells, e3])); (with_reducible refine ev2_some ?_))
    | ((with_reducible refine fr_n rfl ?_); (try (conv => arg 1; simp [Cpu.cells, e3])); (with_reducible refine evn_some ?_))
    | ((with_reducible first | refine st_cv ?_ | refine fr_cv ?_); (try (conv => arg 1; simp [Cpu.cells, e3])); (with_reducible refine at_mk ?_); (with_reducible refine fn_mk ?_); (try (conv => arg 1; simp [Cpu.cells, e3])); (with_reducible refine at_mk ?_))
    | ((with_reducible refine fr_a ?_); (try (conv => arg 1; simp [Cpu.cells, e3])); (with_reducible refine at_mk ?_); (try (conv => arg 1; simp [Cpu.cells, e3])); (with_reducible refine at_mk ?_); refine ⟨?names, ?_⟩; (case names => (simp [appNames, ints, intss] <;> first | kernel_rfl | (refine ⟨?_, ?_⟩ <;> kernel_rfl))); (try (conv => arg 1; simp [Cpu.cells, e3])); (with_reducible refine ev2_some ?_))
    | ((with_reducible first | refine st_q ?_ | refine fr_q ?_ | refine st_res ?_); (try (conv => arg 1; simp [Cpu.cells, e3])); (with_reducible refine ev_some ?_))
    | ((with_reducible refine st_if ?_); (try (conv => arg 1; simp [Cpu.cells, e3])); (with_reducible refine at_mk ?_); with_reducible first | refine br_t ?_ | refine br_f ?_))
  refine st_tree rfl (szIntS c.Input (left - (c.Regs.length : Int) - (c.Slots.length : Int) - (wtSS c.Mem : Int)) (by omega) (by omega) m4) (.cons (dr_ints (fun h => h) _) (.cons (.int _ _) .nil)) ?_
  rw [if_neg h4]
  have e4 : ¬ left - (c.Regs.length : Int) - (c.Slots.length : Int) - (wtSS c.Mem : Int) - (c.Input.length : Int) < 0 := by omega
  repeat' (first
    | (with_reducible first | refine st_seq ?_ | refine st_reg ?_ | refine st_block ?_ | refine st_nil ?_ | refine st_skip ?_ | refine st_ret ?_ | refine st_exit ?_ | refine fr_nil ?_ | refine k_seq_n ?_ | refine k_seq_r ?_ | refine k_seq_e ?_ | refine k_blk_n ?_ | refine k_blk_r ?_ | refine k_blk_s ?_ | refine k_blk_o rfl ?_ | refine k_fn_r ?_ | refine k_fn_n ?_ | refine k_lp_r ?_ | refine k_lp_e ?_)
    | ((with_reducible first | refine st_move ?_ | refine st_asg ?_ | refine st_c ?_ | refine fr_c ?_); (try (conv => arg 1; simp [Cpu.cells, e4])); (with_reducible refine at_mk ?_))
    | ((with_reducible first | refine st_g ?_ | refine fr_g ?_); (try (conv => arg 1; simp [Cpu.cells, e4])); (with_reducible refine at_mk ?_); with_reducible first | refine gd_tt ?_ | refine gd_ff ?_ | refine gd_tf ?_ | refine gd_ft ?_ | refine gd_no ?_)
    | ((with_reducible refine st_m rfl ?_); (try (conv => arg 1; simp [Cpu.cells, e4])); (with_reducible refine ev2_some ?_))
    | ((with_reducible refine fr_n rfl ?_); (try (conv => arg 1; simp [Cpu.cells, e4])); (with_reducible refine evn_some ?_))
    | ((with_reducible first | refine st_cv ?_ | refine fr_cv ?_); (try (conv => arg 1; simp [Cpu.cells, e4])); (with_reducible refine at_mk ?_); (with_reducible refine fn_mk ?_); (try (conv => arg 1; simp [Cpu.cells, e4])); (with_reducible refine at_mk ?_))
    | ((with_reducible refine fr_a ?_); (try (conv => arg 1; simp [Cpu.cells, e4])); (with_reducible refine at_mk ?_); (try (conv => arg 1; simp [Cpu.cells, e4])); (with_reducible refine at_mk ?_); refine ⟨?names, ?_⟩; (case names => (simp [appNames, ints, intss] <;> first | kernel_rfl | (refine ⟨?_, ?_⟩ <;> kernel_rfl))); (try (conv => arg 1; simp [Cpu.cells, e4])); (with_reducible refine ev2_some ?_))
    | ((with_reducible first | refine st_q ?_ | refine fr_q ?_ | refine st_res ?_); (try (conv => arg 1; simp [Cpu.cells, e4])); (with_reducible refine ev_some ?_))
    | ((with_reducible refine st_if ?_); (try (conv => arg 1; simp [Cpu.cells, e4])); (with_reducible refine at_mk ?_); with_reducible first | refine br_t ?_ | refine br_f ?_))
  refine st_tree rfl (szIntS c.Out (left - (c.Regs.length : Int) - (c.Slots.length : Int) - (wtSS c.Mem : Int) - (c.Input.length : Int)) (by omega) (by omega) m5) (.cons (dr_ints (fun h => h) _) (.cons (.int _ _) .nil)) ?_
  rw [if_neg h5]
  have e5 : ¬ left - (c.Regs.length : Int) - (c.Slots.length : Int) - (wtSS c.Mem : Int) - (c.Input.length : Int) - (c.Out.length : Int) < 0 := by omega
  repeat' (first
    | (with_reducible first | refine st_seq ?_ | refine st_reg ?_ | refine st_block ?_ | refine st_nil ?_ | refine st_skip ?_ | refine st_ret ?_ | refine st_exit ?_ | refine fr_nil ?_ | refine k_seq_n ?_ | refine k_seq_r ?_ | refine k_seq_e ?_ | refine k_blk_n ?_ | refine k_blk_r ?_ | refine k_blk_s ?_ | refine k_blk_o rfl ?_ | refine k_fn_r ?_ | refine k_fn_n ?_ | refine k_lp_r ?_ | refine k_lp_e ?_)
    | ((with_reducible first | refine st_move ?_ | refine st_asg ?_ | refine st_c ?_ | refine fr_c ?_); (try (conv => arg 1; simp [Cpu.cells, e5])); (with_reducible refine at_mk ?_))
    | ((with_reducible first | refine st_g ?_ | refine fr_g ?_); (try (conv => arg 1; simp [Cpu.cells, e5])); (with_reducible refine at_mk ?_); with_reducible first | refine gd_tt ?_ | refine gd_ff ?_ | refine gd_tf ?_ | refine gd_ft ?_ | refine gd_no ?_)
    | ((with_reducible refine st_m rfl ?_); (try (conv => arg 1; simp [Cpu.cells, e5])); (with_reducible refine ev2_some ?_))
    | ((with_reducible refine fr_n rfl ?_); (try (conv => arg 1; simp [Cpu.cells, e5])); (with_reducible refine evn_some ?_))
    | ((with_reducible first | refine st_cv ?_ | refine fr_cv ?_); (try (conv => arg 1; simp [Cpu.cells, e5])); (with_reducible refine at_mk ?_); (with_reducible refine fn_mk ?_); (try (conv => arg 1; simp [Cpu.cells, e5])); (with_reducible refine at_mk ?_))
    | ((with_reducible refine fr_a ?_); (try (conv => arg 1; simp [Cpu.cells, e5])); (with_reducible refine at_mk ?_); (try (conv => arg 1; simp [Cpu.cells, e5])); (with_reducible refine at_mk ?_); refine ⟨?names, ?_⟩; (case names => (simp [appNames, ints, intss] <;> first | kernel_rfl | (refine ⟨?_, ?_⟩ <;> kernel_rfl))); (try (conv => arg 1; simp [Cpu.cells, e5])); (with_reducible refine ev2_some ?_))
    | ((with_reducible first | refine st_q ?_ | refine fr_q ?_ | refine st_res ?_); (try (conv => arg 1; simp [Cpu.cells, e5])); (with_reducible refine ev_some ?_))
    | ((with_reducible refine st_if ?_); (try (conv => arg 1; simp [Cpu.cells, e5])); (with_reducible refine at_mk ?_); with_reducible first | refine br_t ?_ | refine br_f ?_))
  exact .int _ _
end Go.Proofs.Ytfgaoojogididaa.AM

/-
  A stepper's state: a copy.
-/
set_option linter.unusedVariables false
set_option linter.unusedSimpArgs false
set_option maxRecDepth 4000
namespace Go.Proofs.Ytfgaoojogididaa.AM
open Go.RowKit

private def MU10 : FuncId → Mode := fun f => if f = 27 ∨ f = 49 then .fresh else .tree

theorem toCpu (c : Cpu) (hs : c.Small) : Fresh Try.prog 14 [.agg (c.cells true)] (fun b => .agg (c.cells b)) := by
  intro T
  refine enter mixed MU10 Try.func14 rfl (by kernel_rfl) rfl ?_
  repeat' (first
    | (with_reducible first | refine st_seq ?_ | refine st_reg ?_ | refine st_block ?_ | refine st_nil ?_ | refine st_skip ?_ | refine st_ret ?_ | refine st_exit ?_ | refine fr_nil ?_ | refine k_seq_n ?_ | refine k_seq_r ?_ | refine k_seq_e ?_ | refine k_blk_n ?_ | refine k_blk_r ?_ | refine k_blk_s ?_ | refine k_blk_o rfl ?_ | refine k_fn_r ?_ | refine k_fn_n ?_ | refine k_lp_r ?_ | refine k_lp_e ?_)
    | ((with_reducible first | refine st_move ?_ | refine st_asg ?_ | refine st_c ?_ | refine fr_c ?_); (try (conv => arg 1; simp [Cpu.cells])); (with_reducible refine at_mk ?_))
    | ((with_reducible first | refine st_g ?_ | refine fr_g ?_); (try (conv => arg 1; simp [Cpu.cells])); (with_reducible refine at_mk ?_); with_reducible first | refine gd_tt ?_ | refine gd_ff ?_ | refine gd_tf ?_ | refine gd_ft ?_ | refine gd_no ?_)
    | ((with_reducible refine st_m rfl ?_); (try (conv => arg 1; simp [Cpu.cells])); (with_reducible refine ev2_some ?_))
    | ((with_reducible refine fr_n rfl ?_); (try (conv => arg 1; simp [Cpu.cells])); (with_reducible refine evn_some ?_))
    | ((with_reducible first | refine st_cv ?_ | refine fr_cv ?_); (try (conv => arg 1; simp [Cpu.cells])); (with_reducible refine at_mk ?_); (with_reducible refine fn_mk ?_); (try (conv => arg 1; simp [Cpu.cells])); (with_reducible refine at_mk ?_))
    | ((with_reducible refine fr_a ?_); (try (conv => arg 1; simp [Cpu.cells])); (with_reducible refine at_mk ?_); (try (conv => arg 1; simp [Cpu.cells])); (with_reducible refine at_mk ?_); refine ⟨?names, ?_⟩; (case names => (simp [appNames, ints, intss] <;> first | kernel_rfl | (refine ⟨?_, ?_⟩ <;> kernel_rfl))); (try (conv => arg 1; simp [Cpu.cells])); (with_reducible refine ev2_some ?_))
    | ((with_reducible first | refine st_q ?_ | refine fr_q ?_ | refine st_res ?_); (try (conv => arg 1; simp [Cpu.cells])); (with_reducible refine ev_some ?_))
    | ((with_reducible refine st_if ?_); (try (conv => arg 1; simp [Cpu.cells])); (with_reducible refine at_mk ?_); with_reducible first | refine br_t ?_ | refine br_f ?_))
  refine st_fresh rfl (toIntS c.Regs hs.regs) (.cons (dr_ints (fun h => h) _) .nil) ?_
  intro v1 h1 ns1 o1 d1 f1 p1 t1
  have q1 := own_one (ownV_ints (o1 true))
  simp only [hp_next_tick, hp_put_tick, hp_mt_tick] at f1 p1 t1
  have ra1 : h1.rows (T, 0, 0) = some ⟨0, 9, [c.cells true]⟩ := by
    rw [p1 (T, 0, 0) (by simp <;> omega)]
    simp [hp_next_rows, hp_rows_put, Cpu.cells]
  have rb1 : h1.rows (T, 1, 0) = some ⟨0, 9, [[.int .i64 0, .nilsl, .nilsl, .nilsl, .nilsl, .nilsl, .int .i64 0, .bool false, .int .i64 0]]⟩ := by
    rw [p1 (T, 1, 0) (by simp <;> omega)]
    simp [hp_next_rows, hp_rows_put]
  have rc1 : h1.rows (T + 1, 0, 0) = some ⟨0, 9, [[.int .i64 c.At, .nilsl, .nilsl, .nilsl, .nilsl, .nilsl, .int .i64 0, .bool false, .int .i64 0]]⟩ := by
    rw [p1 (T + 1, 0, 0) (by simp <;> omega)]
    simp [hp_next_rows, hp_rows_put]
  have tt1 : T + 1 < h1.tick := by omega
  have tu1 : T < h1.tick := by omega
  repeat' (first
    | (with_reducible first | refine st_seq ?_ | refine st_reg ?_ | refine st_block ?_ | refine st_nil ?_ | refine st_skip ?_ | refine st_ret ?_ | refine st_exit ?_ | refine fr_nil ?_ | refine k_seq_n ?_ | refine k_seq_r ?_ | refine k_seq_e ?_ | refine k_blk_n ?_ | refine k_blk_r ?_ | refine k_blk_s ?_ | refine k_blk_o rfl ?_ | refine k_fn_r ?_ | refine k_fn_n ?_ | refine k_lp_r ?_ | refine k_lp_e ?_)
    | ((with_reducible first | refine st_move ?_ | refine st_asg ?_ | refine st_c ?_ | refine fr_c ?_); (try (conv => arg 1; simp [Cpu.cells, ra1, rb1, rc1, tt1, tu1, q1.1, q1.2.1, q1.2.2, q1.1])); (with_reducible refine at_mk ?_))
    | ((with_reducible first | refine st_g ?_ | refine fr_g ?_); (try (conv => arg 1; simp [Cpu.cells, ra1, rb1, rc1, tt1, tu1, q1.1, q1.2.1, q1.2.2, q1.1])); (with_reducible refine at_mk ?_); with_reducible first | refine gd_tt ?_ | refine gd_ff ?_ | refine gd_tf ?_ | refine gd_ft ?_ | refine gd_no ?_)
    | ((with_reducible refine st_m rfl ?_); (try (conv => arg 1; simp [Cpu.cells, ra1, rb1, rc1, tt1, tu1, q1.1, q1.2.1, q1.2.2, q1.1])); (with_reducible refine ev2_some ?_))
    | ((with_reducible refine fr_n rfl ?_); (try (conv => arg 1; simp [Cpu.cells, ra1, rb1, rc1, tt1, tu1, q1.1, q1.2.1, q1.2.2, q1.1])); (with_reducible refine evn_some ?_))
    | ((with_reducible first | refine st_cv ?_ | refine fr_cv ?_); (try (conv => arg 1; simp [Cpu.cells, ra1, rb1, rc1, tt1, tu1, q1.1, q1.2.1, q1.2.2, q1.1])); (with_reducible refine at_mk ?_); (with_reducible refine fn_mk ?_); (try (conv => arg 1; simp [Cpu.cells, ra1, rb1, rc1, tt1, tu1, q1.1, q1.2.1, q1.2.2, q1.1])); (with_reducible refine at_mk ?_))
    | ((with_reducible refine fr_a ?_); (try (conv => arg 1; simp [Cpu.cells, ra1, rb1, rc1, tt1, tu1, q1.1, q1.2.1, q1.2.2, q1.1])); (with_reducible refine at_mk ?_); (try (conv => arg 1; simp [Cpu.cells, ra1, rb1, rc1, tt1, tu1, q1.1, q1.2.1, q1.2.2, q1.1])); (with_reducible refine at_mk ?_); refine ⟨?names, ?_⟩; (case names => (simp [appNames, ints, intss] <;> first | kernel_rfl | (refine ⟨?_, ?_⟩ <;> kernel_rfl))); (try (conv => arg 1; simp [Cpu.cells, ra1, rb1, rc1, tt1, tu1, q1.1, q1.2.1, q1.2.2, q1.1])); (with_reducible refine ev2_some ?_))
    | ((with_reducible first | refine st_q ?_ | refine fr_q ?_ | refine st_res ?_); (try (conv => arg 1; simp [Cpu.cells, ra1, rb1, rc1, tt1, tu1, q1.1, q1.2.1, q1.2.2, q1.1])); (with_reducible refine ev_some ?_))
    | ((with_reducible refine st_if ?_); (try (conv => arg 1; simp [Cpu.cells, ra1, rb1, rc1, tt1, tu1, q1.1, q1.2.1, q1.2.2, q1.1])); (with_reducible refine at_mk ?_); with_reducible first | refine br_t ?_ | refine br_f ?_))
  refine st_fresh rfl (toIntS c.Slots hs.slots) (.cons (dr_ints (fun h => h) _) .nil) ?_
  intro v2 h2 ns2 o2 d2 f2 p2 t2
  have q2 := own_one (ownV_ints (o2 true))
  simp only [hp_next_tick, hp_put_tick, hp_mt_tick] at f2 p2 t2
  have ra2 : h2.rows (T, 0, 0) = some ⟨0, 9, [c.cells true]⟩ := by
    rw [p2 (T, 0, 0) (by simp <;> omega)]
    simp [hp_next_rows, hp_rows_put, ra1, rb1, rc1, Cpu.cells]
  have rb2 : h2.rows (T, 1, 0) = some ⟨0, 9, [[.int .i64 0, .nilsl, .nilsl, .nilsl, .nilsl, .nilsl, .int .i64 0, .bool false, .int .i64 0]]⟩ := by
    rw [p2 (T, 1, 0) (by simp <;> omega)]
    simp [hp_next_rows, hp_rows_put, ra1, rb1, rc1]
  have rc2 : h2.rows (T + 1, 0, 0) = some ⟨0, 9, [[.int .i64 c.At, v1, .nilsl, .nilsl, .nilsl, .nilsl, .int .i64 0, .bool false, .int .i64 0]]⟩ := by
    rw [p2 (T + 1, 0, 0) (by simp <;> omega)]
    simp [hp_next_rows, hp_rows_put, ra1, rb1, rc1]
  have tt2 : T + 1 < h2.tick := by omega
  have tu2 : T < h2.tick := by omega
  have c1_2 : ∀ n ∈ ns1, h2.rows n = h1.rows n := fun n hn => by
    have b1 := f1 n hn
    have hne : n ≠ (T + 1, 0, 0) := fun e => by rw [e] at b1; simp at b1; omega
    rw [p2 n (by omega)]
    simp [hp_next_rows, hp_rows_put, hne]
  repeat' (first
    | (with_reducible first | refine st_seq ?_ | refine st_reg ?_ | refine st_block ?_ | refine st_nil ?_ | refine st_skip ?_ | refine st_ret ?_ | refine st_exit ?_ | refine fr_nil ?_ | refine k_seq_n ?_ | refine k_seq_r ?_ | refine k_seq_e ?_ | refine k_blk_n ?_ | refine k_blk_r ?_ | refine k_blk_s ?_ | refine k_blk_o rfl ?_ | refine k_fn_r ?_ | refine k_fn_n ?_ | refine k_lp_r ?_ | refine k_lp_e ?_)
    | ((with_reducible first | refine st_move ?_ | refine st_asg ?_ | refine st_c ?_ | refine fr_c ?_); (try (conv => arg 1; simp [Cpu.cells, ra2, rb2, rc2, tt2, tu2, q2.1, q2.2.1, q2.2.2, q1.1, q2.1])); (with_reducible refine at_mk ?_))
    | ((with_reducible first | refine st_g ?_ | refine fr_g ?_); (try (conv => arg 1; simp [Cpu.cells, ra2, rb2, rc2, tt2, tu2, q2.1, q2.2.1, q2.2.2, q1.1, q2.1])); (with_reducible refine at_mk ?_); with_reducible first | refine gd_tt ?_ | refine gd_ff ?_ | refine gd_tf ?_ | refine gd_ft ?_ | refine gd_no ?_)
    | ((with_reducible refine st_m rfl ?_); (try (conv => arg 1; simp [Cpu.cells, ra2, rb2, rc2, tt2, tu2, q2.1, q2.2.1, q2.2.2, q1.1, q2.1])); (with_reducible refine ev2_some ?_))
    | ((with_reducible refine fr_n rfl ?_); (try (conv => arg 1; simp [Cpu.cells, ra2, rb2, rc2, tt2, tu2, q2.1, q2.2.1, q2.2.2, q1.1, q2.1])); (with_reducible refine evn_some ?_))
    | ((with_reducible first | refine st_cv ?_ | refine fr_cv ?_); (try (conv => arg 1; simp [Cpu.cells, ra2, rb2, rc2, tt2, tu2, q2.1, q2.2.1, q2.2.2, q1.1, q2.1])); (with_reducible refine at_mk ?_); (with_reducible refine fn_mk ?_); (try (conv => arg 1; simp [Cpu.cells, ra2, rb2, rc2, tt2, tu2, q2.1, q2.2.1, q2.2.2, q1.1, q2.1])); (with_reducible refine at_mk ?_))
    | ((with_reducible refine fr_a ?_); (try (conv => arg 1; simp [Cpu.cells, ra2, rb2, rc2, tt2, tu2, q2.1, q2.2.1, q2.2.2, q1.1, q2.1])); (with_reducible refine at_mk ?_); (try (conv => arg 1; simp [Cpu.cells, ra2, rb2, rc2, tt2, tu2, q2.1, q2.2.1, q2.2.2, q1.1, q2.1])); (with_reducible refine at_mk ?_); refine ⟨?names, ?_⟩; (case names => (simp [appNames, ints, intss] <;> first | kernel_rfl | (refine ⟨?_, ?_⟩ <;> kernel_rfl))); (try (conv => arg 1; simp [Cpu.cells, ra2, rb2, rc2, tt2, tu2, q2.1, q2.2.1, q2.2.2, q1.1, q2.1])); (with_reducible refine ev2_some ?_))
    | ((with_reducible first | refine st_q ?_ | refine fr_q ?_ | refine st_res ?_); (try (conv => arg 1; simp [Cpu.cells, ra2, rb2, rc2, tt2, tu2, q2.1, q2.2.1, q2.2.2, q1.1, q2.1])); (with_reducible refine ev_some ?_))
    | ((with_reducible refine st_if ?_); (try (conv => arg 1; simp [Cpu.cells, ra2, rb2, rc2, tt2, tu2, q2.1, q2.2.1, q2.2.2, q1.1, q2.1])); (with_reducible refine at_mk ?_); with_reducible first | refine br_t ?_ | refine br_f ?_))
  refine st_fresh rfl (toIntSS c.Mem (mem_small hs.mem).1 (mem_small hs.mem).2) (.cons (dr_intss (fun h => h) _) .nil) ?_
  intro v3 h3 ns3 o3 d3 f3 p3 t3
  have q3 := own_one (ownV_intss (o3 true))
  simp only [hp_next_tick, hp_put_tick, hp_mt_tick] at f3 p3 t3
  have ra3 : h3.rows (T, 0, 0) = some ⟨0, 9, [c.cells true]⟩ := by
    rw [p3 (T, 0, 0) (by simp <;> omega)]
    simp [hp_next_rows, hp_rows_put, ra2, rb2, rc2, Cpu.cells]
  have rb3 : h3.rows (T, 1, 0) = some ⟨0, 9, [[.int .i64 0, .nilsl, .nilsl, .nilsl, .nilsl, .nilsl, .int .i64 0, .bool false, .int .i64 0]]⟩ := by
    rw [p3 (T, 1, 0) (by simp <;> omega)]
    simp [hp_next_rows, hp_rows_put, ra2, rb2, rc2]
  have rc3 : h3.rows (T + 1, 0, 0) = some ⟨0, 9, [[.int .i64 c.At, v1, v2, .nilsl, .nilsl, .nilsl, .int .i64 0, .bool false, .int .i64 0]]⟩ := by
    rw [p3 (T + 1, 0, 0) (by simp <;> omega)]
    simp [hp_next_rows, hp_rows_put, ra2, rb2, rc2]
  have tt3 : T + 1 < h3.tick := by omega
  have tu3 : T < h3.tick := by omega
  have c1_3 : ∀ n ∈ ns1, h3.rows n = h2.rows n := fun n hn => by
    have b1 := f1 n hn
    have hne : n ≠ (T + 1, 0, 0) := fun e => by rw [e] at b1; simp at b1; omega
    rw [p3 n (by omega)]
    simp [hp_next_rows, hp_rows_put, hne]
  have c2_3 : ∀ n ∈ ns2, h3.rows n = h2.rows n := fun n hn => by
    have b1 := f2 n hn
    have hne : n ≠ (T + 1, 0, 0) := fun e => by rw [e] at b1; simp at b1; omega
    rw [p3 n (by omega)]
    simp [hp_next_rows, hp_rows_put, hne]
  repeat' (first
    | (with_reducible first | refine st_seq ?_ | refine st_reg ?_ | refine st_block ?_ | refine st_nil ?_ | refine st_skip ?_ | refine st_ret ?_ | refine st_exit ?_ | refine fr_nil ?_ | refine k_seq_n ?_ | refine k_seq_r ?_ | refine k_seq_e ?_ | refine k_blk_n ?_ | refine k_blk_r ?_ | refine k_blk_s ?_ | refine k_blk_o rfl ?_ | refine k_fn_r ?_ | refine k_fn_n ?_ | refine k_lp_r ?_ | refine k_lp_e ?_)
    | ((with_reducible first | refine st_move ?_ | refine st_asg ?_ | refine st_c ?_ | refine fr_c ?_); (try (conv => arg 1; simp [Cpu.cells, ra3, rb3, rc3, tt3, tu3, q3.1, q3.2.1, q3.2.2, q1.1, q2.1, q3.1])); (with_reducible refine at_mk ?_))
    | ((with_reducible first | refine st_g ?_ | refine fr_g ?_); (try (conv => arg 1; simp [Cpu.cells, ra3, rb3, rc3, tt3, tu3, q3.1, q3.2.1, q3.2.2, q1.1, q2.1, q3.1])); (with_reducible refine at_mk ?_); with_reducible first | refine gd_tt ?_ | refine gd_ff ?_ | refine gd_tf ?_ | refine gd_ft ?_ | refine gd_no ?_)
    | ((with_reducible refine st_m rfl ?_); (try (conv => arg 1; simp [Cpu.cells, ra3, rb3, rc3, tt3, tu3, q3.1, q3.2.1, q3.2.2, q1.1, q2.1, q3.1])); (with_reducible refine ev2_some ?_))
    | ((with_reducible refine fr_n rfl ?_); (try (conv => arg 1; simp [Cpu.cells, ra3, rb3, rc3, tt3, tu3, q3.1, q3.2.1, q3.2.2, q1.1, q2.1, q3.1])); (with_reducible refine evn_some ?_))
    | ((with_reducible first | refine st_cv ?_ | refine fr_cv ?_); (try (conv => arg 1; simp [Cpu.cells, ra3, rb3, rc3, tt3, tu3, q3.1, q3.2.1, q3.2.2, q1.1, q2.1, q3.1])); (with_reducible refine at_mk ?_); (with_reducible refine fn_mk ?_); (try (conv => arg 1; simp [Cpu.cells, ra3, rb3, rc3, tt3, tu3, q3.1, q3.2.1, q3.2.2, q1.1, q2.1, q3.1])); (with_reducible refine at_mk ?_))
    | ((with_reducible refine fr_a ?_); (try (conv => arg 1; simp [Cpu.cells, ra3, rb3, rc3, tt3, tu3, q3.1, q3.2.1, q3.2.2, q1.1, q2.1, q3.1])); (with_reducible refine at_mk ?_); (try (conv => arg 1; simp [Cpu.cells, ra3, rb3, rc3, tt3, tu3, q3.1, q3.2.1, q3.2.2, q1.1, q2.1, q3.1])); (with_reducible refine at_mk ?_); refine ⟨?names, ?_⟩; (case names => (simp [appNames, ints, intss] <;> first | kernel_rfl | (refine ⟨?_, ?_⟩ <;> kernel_rfl))); (try (conv => arg 1; simp [Cpu.cells, ra3, rb3, rc3, tt3, tu3, q3.1, q3.2.1, q3.2.2, q1.1, q2.1, q3.1])); (with_reducible refine ev2_some ?_))
    | ((with_reducible first | refine st_q ?_ | refine fr_q ?_ | refine st_res ?_); (try (conv => arg 1; simp [Cpu.cells, ra3, rb3, rc3, tt3, tu3, q3.1, q3.2.1, q3.2.2, q1.1, q2.1, q3.1])); (with_reducible refine ev_some ?_))
    | ((with_reducible refine st_if ?_); (try (conv => arg 1; simp [Cpu.cells, ra3, rb3, rc3, tt3, tu3, q3.1, q3.2.1, q3.2.2, q1.1, q2.1, q3.1])); (with_reducible refine at_mk ?_); with_reducible first | refine br_t ?_ | refine br_f ?_))
  refine st_fresh rfl (toIntS c.Input hs.input) (.cons (dr_ints (fun h => h) _) .nil) ?_
  intro v4 h4 ns4 o4 d4 f4 p4 t4
  have q4 := own_one (ownV_ints (o4 true))
  simp only [hp_next_tick, hp_put_tick, hp_mt_tick] at f4 p4 t4
  have ra4 : h4.rows (T, 0, 0) = some ⟨0, 9, [c.cells true]⟩ := by
    rw [p4 (T, 0, 0) (by simp <;> omega)]
    simp [hp_next_rows, hp_rows_put, ra3, rb3, rc3, Cpu.cells]
  have rb4 : h4.rows (T, 1, 0) = some ⟨0, 9, [[.int .i64 0, .nilsl, .nilsl, .nilsl, .nilsl, .nilsl, .int .i64 0, .bool false, .int .i64 0]]⟩ := by
    rw [p4 (T, 1, 0) (by simp <;> omega)]
    simp [hp_next_rows, hp_rows_put, ra3, rb3, rc3]
  have rc4 : h4.rows (T + 1, 0, 0) = some ⟨0, 9, [[.int .i64 c.At, v1, v2, v3, .nilsl, .nilsl, .int .i64 0, .bool false, .int .i64 0]]⟩ := by
    rw [p4 (T + 1, 0, 0) (by simp <;> omega)]
    simp [hp_next_rows, hp_rows_put, ra3, rb3, rc3]
  have tt4 : T + 1 < h4.tick := by omega
  have tu4 : T < h4.tick := by omega
  have c1_4 : ∀ n ∈ ns1, h4.rows n = h3.rows n := fun n hn => by
    have b1 := f1 n hn
    have hne : n ≠ (T + 1, 0, 0) := fun e => by rw [e] at b1; simp at b1; omega
    rw [p4 n (by omega)]
    simp [hp_next_rows, hp_rows_put, hne]
  have c2_4 : ∀ n ∈ ns2, h4.rows n = h3.rows n := fun n hn => by
    have b1 := f2 n hn
    have hne : n ≠ (T + 1, 0, 0) := fun e => by rw [e] at b1; simp at b1; omega
    rw [p4 n (by omega)]
    simp [hp_next_rows, hp_rows_put, hne]
  have c3_4 : ∀ n ∈ ns3, h4.rows n = h3.rows n := fun n hn => by
    have b1 := f3 n hn
    have hne : n ≠ (T + 1, 0, 0) := fun e => by rw [e] at b1; simp at b1; omega
    rw [p4 n (by omega)]
    simp [hp_next_rows, hp_rows_put, hne]
  repeat' (first
    | (with_reducible first | refine st_seq ?_ | refine st_reg ?_ | refine st_block ?_ | refine st_nil ?_ | refine st_skip ?_ | refine st_ret ?_ | refine st_exit ?_ | refine fr_nil ?_ | refine k_seq_n ?_ | refine k_seq_r ?_ | refine k_seq_e ?_ | refine k_blk_n ?_ | refine k_blk_r ?_ | refine k_blk_s ?_ | refine k_blk_o rfl ?_ | refine k_fn_r ?_ | refine k_fn_n ?_ | refine k_lp_r ?_ | refine k_lp_e ?_)
    | ((with_reducible first | refine st_move ?_ | refine st_asg ?_ | refine st_c ?_ | refine fr_c ?_); (try (conv => arg 1; simp [Cpu.cells, ra4, rb4, rc4, tt4, tu4, q4.1, q4.2.1, q4.2.2, q1.1, q2.1, q3.1, q4.1])); (with_reducible refine at_mk ?_))
    | ((with_reducible first | refine st_g ?_ | refine fr_g ?_); (try (conv => arg 1; simp [Cpu.cells, ra4, rb4, rc4, tt4, tu4, q4.1, q4.2.1, q4.2.2, q1.1, q2.1, q3.1, q4.1])); (with_reducible refine at_mk ?_); with_reducible first | refine gd_tt ?_ | refine gd_ff ?_ | refine gd_tf ?_ | refine gd_ft ?_ | refine gd_no ?_)
    | ((with_reducible refine st_m rfl ?_); (try (conv => arg 1; simp [Cpu.cells, ra4, rb4, rc4, tt4, tu4, q4.1, q4.2.1, q4.2.2, q1.1, q2.1, q3.1, q4.1])); (with_reducible refine ev2_some ?_))
    | ((with_reducible refine fr_n rfl ?_); (try (conv => arg 1; simp [Cpu.cells, ra4, rb4, rc4, tt4, tu4, q4.1, q4.2.1, q4.2.2, q1.1, q2.1, q3.1, q4.1])); (with_reducible refine evn_some ?_))
    | ((with_reducible first | refine st_cv ?_ | refine fr_cv ?_); (try (conv => arg 1; simp [Cpu.cells, ra4, rb4, rc4, tt4, tu4, q4.1, q4.2.1, q4.2.2, q1.1, q2.1, q3.1, q4.1])); (with_reducible refine at_mk ?_); (with_reducible refine fn_mk ?_); (try (conv => arg 1; simp [Cpu.cells, ra4, rb4, rc4, tt4, tu4, q4.1, q4.2.1, q4.2.2, q1.1, q2.1, q3.1, q4.1])); (with_reducible refine at_mk ?_))
    | ((with_reducible refine fr_a ?_); (try (conv => arg 1; simp [Cpu.cells, ra4, rb4, rc4, tt4, tu4, q4.1, q4.2.1, q4.2.2, q1.1, q2.1, q3.1, q4.1])); (with_reducible refine at_mk ?_); (try (conv => arg 1; simp [Cpu.cells, ra4, rb4, rc4, tt4, tu4, q4.1, q4.2.1, q4.2.2, q1.1, q2.1, q3.1, q4.1])); (with_reducible refine at_mk ?_); refine ⟨?names, ?_⟩; (case names => (simp [appNames, ints, intss] <;> first | kernel_rfl | (refine ⟨?_, ?_⟩ <;> kernel_rfl))); (try (conv => arg 1; simp [Cpu.cells, ra4, rb4, rc4, tt4, tu4, q4.1, q4.2.1, q4.2.2, q1.1, q2.1, q3.1, q4.1])); (with_reducible refine ev2_some ?_))
    | ((with_reducible first | refine st_q ?_ | refine fr_q ?_ | refine st_res ?_); (try (conv => arg 1; simp [Cpu.cells, ra4, rb4, rc4, tt4, tu4, q4.1, q4.2.1, q4.2.2, q1.1, q2.1, q3.1, q4.1])); (with_reducible refine ev_some ?_))
    | ((with_reducible refine st_if ?_); (try (conv => arg 1; simp [Cpu.cells, ra4, rb4, rc4, tt4, tu4, q4.1, q4.2.1, q4.2.2, q1.1, q2.1, q3.1, q4.1])); (with_reducible refine at_mk ?_); with_reducible first | refine br_t ?_ | refine br_f ?_))
  refine st_fresh rfl (toIntS c.Out hs.out) (.cons (dr_ints (fun h => h) _) .nil) ?_
  intro v5 h5 ns5 o5 d5 f5 p5 t5
  have q5 := own_one (ownV_ints (o5 true))
  simp only [hp_next_tick, hp_put_tick, hp_mt_tick] at f5 p5 t5
  have ra5 : h5.rows (T, 0, 0) = some ⟨0, 9, [c.cells true]⟩ := by
    rw [p5 (T, 0, 0) (by simp <;> omega)]
    simp [hp_next_rows, hp_rows_put, ra4, rb4, rc4, Cpu.cells]
  have rb5 : h5.rows (T, 1, 0) = some ⟨0, 9, [[.int .i64 0, .nilsl, .nilsl, .nilsl, .nilsl, .nilsl, .int .i64 0, .bool false, .int .i64 0]]⟩ := by
    rw [p5 (T, 1, 0) (by simp <;> omega)]
    simp [hp_next_rows, hp_rows_put, ra4, rb4, rc4]
  have rc5 : h5.rows (T + 1, 0, 0) = some ⟨0, 9, [[.int .i64 c.At, v1, v2, v3, v4, .nilsl, .int .i64 0, .bool false, .int .i64 0]]⟩ := by
    rw [p5 (T + 1, 0, 0) (by simp <;> omega)]
    simp [hp_next_rows, hp_rows_put, ra4, rb4, rc4]
  have tt5 : T + 1 < h5.tick := by omega
  have tu5 : T < h5.tick := by omega
  have c1_5 : ∀ n ∈ ns1, h5.rows n = h4.rows n := fun n hn => by
    have b1 := f1 n hn
    have hne : n ≠ (T + 1, 0, 0) := fun e => by rw [e] at b1; simp at b1; omega
    rw [p5 n (by omega)]
    simp [hp_next_rows, hp_rows_put, hne]
  have c2_5 : ∀ n ∈ ns2, h5.rows n = h4.rows n := fun n hn => by
    have b1 := f2 n hn
    have hne : n ≠ (T + 1, 0, 0) := fun e => by rw [e] at b1; simp at b1; omega
    rw [p5 n (by omega)]
    simp [hp_next_rows, hp_rows_put, hne]
  have c3_5 : ∀ n ∈ ns3, h5.rows n = h4.rows n := fun n hn => by
    have b1 := f3 n hn
    have hne : n ≠ (T + 1, 0, 0) := fun e => by rw [e] at b1; simp at b1; omega
    rw [p5 n (by omega)]
    simp [hp_next_rows, hp_rows_put, hne]
  have c4_5 : ∀ n ∈ ns4, h5.rows n = h4.rows n := fun n hn => by
    have b1 := f4 n hn
    have hne : n ≠ (T + 1, 0, 0) := fun e => by rw [e] at b1; simp at b1; omega
    rw [p5 n (by omega)]
    simp [hp_next_rows, hp_rows_put, hne]
  repeat' (first
    | (with_reducible first | refine st_seq ?_ | refine st_reg ?_ | refine st_block ?_ | refine st_nil ?_ | refine st_skip ?_ | refine st_ret ?_ | refine st_exit ?_ | refine fr_nil ?_ | refine k_seq_n ?_ | refine k_seq_r ?_ | refine k_seq_e ?_ | refine k_blk_n ?_ | refine k_blk_r ?_ | refine k_blk_s ?_ | refine k_blk_o rfl ?_ | refine k_fn_r ?_ | refine k_fn_n ?_ | refine k_lp_r ?_ | refine k_lp_e ?_)
    | ((with_reducible first | refine st_move ?_ | refine st_asg ?_ | refine st_c ?_ | refine fr_c ?_); (try (conv => arg 1; simp [Cpu.cells, ra5, rb5, rc5, tt5, tu5, q5.1, q5.2.1, q5.2.2, q1.1, q2.1, q3.1, q4.1, q5.1])); (with_reducible refine at_mk ?_))
    | ((with_reducible first | refine st_g ?_ | refine fr_g ?_); (try (conv => arg 1; simp [Cpu.cells, ra5, rb5, rc5, tt5, tu5, q5.1, q5.2.1, q5.2.2, q1.1, q2.1, q3.1, q4.1, q5.1])); (with_reducible refine at_mk ?_); with_reducible first | refine gd_tt ?_ | refine gd_ff ?_ | refine gd_tf ?_ | refine gd_ft ?_ | refine gd_no ?_)
    | ((with_reducible refine st_m rfl ?_); (try (conv => arg 1; simp [Cpu.cells, ra5, rb5, rc5, tt5, tu5, q5.1, q5.2.1, q5.2.2, q1.1, q2.1, q3.1, q4.1, q5.1])); (with_reducible refine ev2_some ?_))
    | ((with_reducible refine fr_n rfl ?_); (try (conv => arg 1; simp [Cpu.cells, ra5, rb5, rc5, tt5, tu5, q5.1, q5.2.1, q5.2.2, q1.1, q2.1, q3.1, q4.1, q5.1])); (with_reducible refine evn_some ?_))
    | ((with_reducible first | refine st_cv ?_ | refine fr_cv ?_); (try (conv => arg 1; simp [Cpu.cells, ra5, rb5, rc5, tt5, tu5, q5.1, q5.2.1, q5.2.2, q1.1, q2.1, q3.1, q4.1, q5.1])); (with_reducible refine at_mk ?_); (with_reducible refine fn_mk ?_); (try (conv => arg 1; simp [Cpu.cells, ra5, rb5, rc5, tt5, tu5, q5.1, q5.2.1, q5.2.2, q1.1, q2.1, q3.1, q4.1, q5.1])); (with_reducible refine at_mk ?_))
    | ((with_reducible refine fr_a ?_); (try (conv => arg 1; simp [Cpu.cells, ra5, rb5, rc5, tt5, tu5, q5.1, q5.2.1, q5.2.2, q1.1, q2.1, q3.1, q4.1, q5.1])); (with_reducible refine at_mk ?_); (try (conv => arg 1; simp [Cpu.cells, ra5, rb5, rc5, tt5, tu5, q5.1, q5.2.1, q5.2.2, q1.1, q2.1, q3.1, q4.1, q5.1])); (with_reducible refine at_mk ?_); refine ⟨?names, ?_⟩; (case names => (simp [appNames, ints, intss] <;> first | kernel_rfl | (refine ⟨?_, ?_⟩ <;> kernel_rfl))); (try (conv => arg 1; simp [Cpu.cells, ra5, rb5, rc5, tt5, tu5, q5.1, q5.2.1, q5.2.2, q1.1, q2.1, q3.1, q4.1, q5.1])); (with_reducible refine ev2_some ?_))
    | ((with_reducible first | refine st_q ?_ | refine fr_q ?_ | refine st_res ?_); (try (conv => arg 1; simp [Cpu.cells, ra5, rb5, rc5, tt5, tu5, q5.1, q5.2.1, q5.2.2, q1.1, q2.1, q3.1, q4.1, q5.1])); (with_reducible refine ev_some ?_))
    | ((with_reducible refine st_if ?_); (try (conv => arg 1; simp [Cpu.cells, ra5, rb5, rc5, tt5, tu5, q5.1, q5.2.1, q5.2.2, q1.1, q2.1, q3.1, q4.1, q5.1])); (with_reducible refine at_mk ?_); with_reducible first | refine br_t ?_ | refine br_f ?_))
  refine ⟨by simp [hp_next_tick, hp_put_tick, hp_mt_tick] <;> omega, ns1 ++ (ns2 ++ (ns3 ++ (ns4 ++ (ns5 ++ [])))), fun b => ?_, ?_, ?_⟩
  · simp only [resV]
    refine .agg (.int _ _ ?_)
    refine @Own.append _ b [v1] [ints b c.Regs] _ _ _ _ ((ownV_ints (o1 b)).congr fun n hn => ?_) ?_
    · have b1 := f1 n hn
      have hne : n ≠ (T + 1, 0, 0) := fun e => by rw [e] at b1; simp at b1; omega
      have hne2 : n ≠ (T, 1, 0) := fun e => by rw [e] at b1; simp at b1; omega
      simp only [hp_next_rows, hp_rows_put, if_neg hne, if_neg hne2]
      rw [c1_5 n hn, c1_4 n hn, c1_3 n hn, c1_2 n hn]
    refine @Own.append _ b [v2] [ints b c.Slots] _ _ _ _ ((ownV_ints (o2 b)).congr fun n hn => ?_) ?_
    · have b1 := f2 n hn
      have hne : n ≠ (T + 1, 0, 0) := fun e => by rw [e] at b1; simp at b1; omega
      have hne2 : n ≠ (T, 1, 0) := fun e => by rw [e] at b1; simp at b1; omega
      simp only [hp_next_rows, hp_rows_put, if_neg hne, if_neg hne2]
      rw [c2_5 n hn, c2_4 n hn, c2_3 n hn]
    refine @Own.append _ b [v3] [intss b c.Mem] _ _ _ _ ((ownV_intss (o3 b)).congr fun n hn => ?_) ?_
    · have b1 := f3 n hn
      have hne : n ≠ (T + 1, 0, 0) := fun e => by rw [e] at b1; simp at b1; omega
      have hne2 : n ≠ (T, 1, 0) := fun e => by rw [e] at b1; simp at b1; omega
      simp only [hp_next_rows, hp_rows_put, if_neg hne, if_neg hne2]
      rw [c3_5 n hn, c3_4 n hn]
    refine @Own.append _ b [v4] [ints b c.Input] _ _ _ _ ((ownV_ints (o4 b)).congr fun n hn => ?_) ?_
    · have b1 := f4 n hn
      have hne : n ≠ (T + 1, 0, 0) := fun e => by rw [e] at b1; simp at b1; omega
      have hne2 : n ≠ (T, 1, 0) := fun e => by rw [e] at b1; simp at b1; omega
      simp only [hp_next_rows, hp_rows_put, if_neg hne, if_neg hne2]
      rw [c4_5 n hn]
    refine @Own.append _ b [v5] [ints b c.Out] _ _ _ _ ((ownV_ints (o5 b)).congr fun n hn => ?_) ?_
    · have b1 := f5 n hn
      have hne : n ≠ (T + 1, 0, 0) := fun e => by rw [e] at b1; simp at b1; omega
      have hne2 : n ≠ (T, 1, 0) := fun e => by rw [e] at b1; simp at b1; omega
      simp only [hp_next_rows, hp_rows_put, if_neg hne, if_neg hne2]
    exact .int _ _ (.bool _ (.int _ _ .nil))
  · have D : ∀ {l m : List Nm} {B : Nat}, l.Nodup → m.Nodup → (∀ n ∈ l, n.1 < B) → (∀ n ∈ m, B ≤ n.1) → (l ++ m).Nodup := fun h1 h2 h3 h4 => List.nodup_append.2 ⟨h1, h2, fun a ha b hb e => by subst e; have := h3 a ha; have := h4 a hb; omega⟩
    refine D d1 (D d2 (D d3 (D d4 (D d5 (by simp) (B := h5.tick) (fun n hn => (f5 n hn).2) (by simp)) (B := h4.tick) (fun n hn => (f4 n hn).2) ?_) (B := h3.tick) (fun n hn => (f3 n hn).2) ?_) (B := h2.tick) (fun n hn => (f2 n hn).2) ?_) (B := h1.tick) (fun n hn => (f1 n hn).2) ?_
    all_goals
      intro n hn
      simp only [List.append_nil, List.mem_append] at hn
      have g2 := f2 n
      have g3 := f3 n
      have g4 := f4 n
      have g5 := f5 n
      iterate 4 (all_goals (try (refine Or.elim hn (fun hn => ?_) (fun hn => ?_))))
      all_goals first | (have := (g2 hn).1; omega) | (have := (g3 hn).1; omega) | (have := (g4 hn).1; omega) | (have := (g5 hn).1; omega)
  · intro n hn
    simp only [List.mem_append, List.not_mem_nil, or_false] at hn
    simp only [hp_next_tick, hp_put_tick, hp_mt_tick]
    rcases hn with hn | hn | hn | hn | hn
    all_goals first | (have := f1 n hn; omega) | (have := f2 n hn; omega) | (have := f3 n hn; omega) | (have := f4 n hn; omega) | (have := f5 n hn; omega)
end Go.Proofs.Ytfgaoojogididaa.AM

/-
  A stepper's state: marked.
-/
set_option linter.unusedVariables false
set_option linter.unusedSimpArgs false
set_option maxRecDepth 4000
namespace Go.Proofs.Ytfgaoojogididaa.AM
open Go.RowKit

private def MU11 : FuncId → Mode := fun f => if f = 33 ∨ f = 52 then .heap else .tree

theorem own_cons1 {rows : Nm → Option Row} {b : Bool} {l ts : List AV} {t : AV} {ns : List Nm} (h : Own rows b l (t :: ts) ns) : ∃ w l' n1 n2, l = w :: l' ∧ ns = n1 ++ n2 ∧ Own rows b [w] [t] n1 ∧ Own rows b l' ts n2 := by
  cases l with
  | nil => cases h
  | cons w l' =>
    obtain ⟨n1, n2, e, h1, h2⟩ := Own.split (as1 := [w]) (ts1 := [t]) h rfl
    exact ⟨w, l', n1, n2, rfl, e, h1, h2⟩

theorem ownV_cpu {rows : Nm → Option Row} {b : Bool} {v : AV} {c : Cpu} {ns : List Nm} (h : OwnV rows b v (.agg (c.cells b)) ns) : ∃ w1 w2 w3 w4 w5 n1 n2 n3 n4 n5, v = .agg [.int .i64 c.At, w1, w2, w3, w4, w5, .int .i64 c.Code, .bool c.Over, .int .i64 c.Val] ∧ ns = n1 ++ (n2 ++ (n3 ++ (n4 ++ n5))) ∧
    Own rows b [w1] [ints b c.Regs] n1 ∧ Own rows b [w2] [ints b c.Slots] n2 ∧ Own rows b [w3] [intss b c.Mem] n3 ∧ Own rows b [w4] [ints b c.Input] n4 ∧ Own rows b [w5] [ints b c.Out] n5 := by
  generalize ht : AV.agg (c.cells b) = t at h
  cases h with
  | one h => subst ht; unfold Cpu.cells at h; cases h
  | tup2 => cases ht
  | @agg l _ _ h =>
    cases ht
    unfold Cpu.cells at h
    cases h with
    | int _ _ h =>
      obtain ⟨w1, l1, n1, m1, rfl, rfl, o1, h⟩ := own_cons1 h
      obtain ⟨w2, l2, n2, m2, rfl, rfl, o2, h⟩ := own_cons1 h
      obtain ⟨w3, l3, n3, m3, rfl, rfl, o3, h⟩ := own_cons1 h
      obtain ⟨w4, l4, n4, m4, rfl, rfl, o4, h⟩ := own_cons1 h
      obtain ⟨w5, l5, n5, m5, rfl, rfl, o5, h⟩ := own_cons1 h
      cases h with
      | int _ _ h => cases h with
        | bool _ h => cases h with
          | int _ _ h => cases h with
            | nil => exact ⟨w1, w2, w3, w4, w5, n1, n2, n3, n4, n5, rfl, by simp, o1, o2, o3, o4, o5⟩
end Go.Proofs.Ytfgaoojogididaa.AM

/-
  A stepper's state: marked.
-/
set_option linter.unusedVariables false
set_option linter.unusedSimpArgs false
set_option maxRecDepth 4000
namespace Go.Proofs.Ytfgaoojogididaa.AM
open Go.RowKit

private def MU12 : FuncId → Mode := fun f => if f = 33 ∨ f = 52 then .heap else .tree

theorem markCpu {h : Hp} {v : AV} {c : Cpu} {ns : List Nm} (ho : OwnV h.rows true v (.agg (c.cells true)) ns) (hnd : ns.Nodup) (hns : ∀ n ∈ ns, n.1 < h.tick) (hs : c.Small) (k : Int) (hk : 0 ≤ k) (hk2 : k ≤ 2 ^ 40) :
    Sound Try.prog 18 [v, .int .i64 k] h fun r h' => (∃ k', r = .int .i64 k' ∧ 0 ≤ k') ∧ (∀ n, n ∉ ns → n.1 < h.tick → h'.rows n = h.rows n) ∧ h.tick ≤ h'.tick := by
  obtain ⟨w1, w2, w3, w4, w5, n1, n2, n3, n4, n5, rfl, rfl, o1, o2, o3, o4, o5⟩ := ownV_cpu ho
  have q1 := own_one o1
  have q2 := own_one o2
  have q3 := own_one o3
  have q4 := own_one o4
  have q5 := own_one o5
  have z1 := hs.regs
  have z2 := hs.slots
  have z3 := hs.mem
  have z4 := hs.input
  have z5 := hs.out
  have z6 : psum c.Mem c.Mem.length ≤ wtSS c.Mem := by simp only [wtSS]; omega
  simp only [List.nodup_append, List.mem_append] at hnd
  obtain ⟨e1, ⟨e2, ⟨e3, ⟨e4, e5, x4⟩, x3⟩, x2⟩, x1⟩ := hnd
  have b1 : ∀ n ∈ n1, n.1 < h.tick := fun n hn => hns n (by simp [hn])
  have b2 : ∀ n ∈ n2, n.1 < h.tick := fun n hn => hns n (by simp [hn])
  have b3 : ∀ n ∈ n3, n.1 < h.tick := fun n hn => hns n (by simp [hn])
  have b4 : ∀ n ∈ n4, n.1 < h.tick := fun n hn => hns n (by simp [hn])
  have b5 : ∀ n ∈ n5, n.1 < h.tick := fun n hn => hns n (by simp [hn])
  have bx : (h.tick, 0, 0) ∉ n1 ∧ (h.tick, 0, 0) ∉ n2 ∧ (h.tick, 0, 0) ∉ n3 ∧ (h.tick, 0, 0) ∉ n4 ∧ (h.tick, 0, 0) ∉ n5 := ⟨fun e => by have := b1 _ e; simp at this, fun e => by have := b2 _ e; simp at this, fun e => by have := b3 _ e; simp at this, fun e => by have := b4 _ e; simp at this, fun e => by have := b5 _ e; simp at this⟩
  refine enter mixed MU12 Try.func18 rfl (by kernel_rfl) rfl ?_
  repeat' (first
    | (with_reducible first | refine st_seq ?_ | refine st_reg ?_ | refine st_block ?_ | refine st_nil ?_ | refine st_skip ?_ | refine st_ret ?_ | refine st_exit ?_ | refine fr_nil ?_ | refine k_seq_n ?_ | refine k_seq_r ?_ | refine k_seq_e ?_ | refine k_blk_n ?_ | refine k_blk_r ?_ | refine k_blk_s ?_ | refine k_blk_o rfl ?_ | refine k_fn_r ?_ | refine k_fn_n ?_ | refine k_lp_r ?_ | refine k_lp_e ?_)
    | ((with_reducible first | refine st_move ?_ | refine st_asg ?_ | refine st_c ?_ | refine fr_c ?_); (try (conv => arg 1; simp [q1.1, q2.1, q3.1, q4.1, q5.1])); (with_reducible refine at_mk ?_))
    | ((with_reducible first | refine st_g ?_ | refine fr_g ?_); (try (conv => arg 1; simp [q1.1, q2.1, q3.1, q4.1, q5.1])); (with_reducible refine at_mk ?_); with_reducible first | refine gd_tt ?_ | refine gd_ff ?_ | refine gd_tf ?_ | refine gd_ft ?_ | refine gd_no ?_)
    | ((with_reducible refine st_m rfl ?_); (try (conv => arg 1; simp [q1.1, q2.1, q3.1, q4.1, q5.1])); (with_reducible refine ev2_some ?_))
    | ((with_reducible refine fr_n rfl ?_); (try (conv => arg 1; simp [q1.1, q2.1, q3.1, q4.1, q5.1])); (with_reducible refine evn_some ?_))
    | ((with_reducible first | refine st_cv ?_ | refine fr_cv ?_); (try (conv => arg 1; simp [q1.1, q2.1, q3.1, q4.1, q5.1])); (with_reducible refine at_mk ?_); (with_reducible refine fn_mk ?_); (try (conv => arg 1; simp [q1.1, q2.1, q3.1, q4.1, q5.1])); (with_reducible refine at_mk ?_))
    | ((with_reducible refine fr_a ?_); (try (conv => arg 1; simp [q1.1, q2.1, q3.1, q4.1, q5.1])); (with_reducible refine at_mk ?_); (try (conv => arg 1; simp [q1.1, q2.1, q3.1, q4.1, q5.1])); (with_reducible refine at_mk ?_); refine ⟨?names, ?_⟩; (case names => (simp [appNames, ints, intss] <;> first | kernel_rfl | (refine ⟨?_, ?_⟩ <;> kernel_rfl))); (try (conv => arg 1; simp [q1.1, q2.1, q3.1, q4.1, q5.1])); (with_reducible refine ev2_some ?_))
    | ((with_reducible first | refine st_q ?_ | refine fr_q ?_ | refine st_res ?_); (try (conv => arg 1; simp [q1.1, q2.1, q3.1, q4.1, q5.1])); (with_reducible refine ev_some ?_))
    | ((with_reducible refine st_if ?_); (try (conv => arg 1; simp [q1.1, q2.1, q3.1, q4.1, q5.1])); (with_reducible refine at_mk ?_); with_reducible first | refine br_t ?_ | refine br_f ?_))
  refine st_heap rfl (markIntS (o1.congr fun n hn => ?_) (fun n hn => ?_) (k) (by omega) (by omega)) ?_
  · have hb := b1 n hn
    have hne : n ≠ (h.tick, 0, 0) := fun e => by rw [e] at hb; simp at hb
    simp [hp_next_rows, hp_rows_put, hne]
  · have hb := b1 n hn
    simp only [hp_next_tick, hp_put_tick]
    omega
  rintro r h1 ⟨rfl, _, p1, t1⟩
  simp only [hp_next_tick, hp_put_tick] at t1
  have g1 : ∀ n, n.1 < h.tick → n ∉ n1 → h1.rows n = h.rows n := fun n hb y1 => by
    have hne : n ≠ (h.tick, 0, 0) := fun e => by rw [e] at hb; simp at hb
    rw [p1 n y1]
    simp [hp_next_rows, hp_rows_put, hne]
  have rb1 : h1.rows (h.tick, 0, 0) = some ⟨0, 9, [[.int .i64 c.At, w1, w2, w3, w4, w5, .int .i64 c.Code, .bool c.Over, .int .i64 c.Val]]⟩ := by
    rw [p1 _ (by simp [bx])]
    simp [hp_next_rows, hp_rows_put]
  repeat' (first
    | (with_reducible first | refine st_seq ?_ | refine st_reg ?_ | refine st_block ?_ | refine st_nil ?_ | refine st_skip ?_ | refine st_ret ?_ | refine st_exit ?_ | refine fr_nil ?_ | refine k_seq_n ?_ | refine k_seq_r ?_ | refine k_seq_e ?_ | refine k_blk_n ?_ | refine k_blk_r ?_ | refine k_blk_s ?_ | refine k_blk_o rfl ?_ | refine k_fn_r ?_ | refine k_fn_n ?_ | refine k_lp_r ?_ | refine k_lp_e ?_)
    | ((with_reducible first | refine st_move ?_ | refine st_asg ?_ | refine st_c ?_ | refine fr_c ?_); (try (conv => arg 1; simp [q1.1, q2.1, q3.1, q4.1, q5.1, rb1])); (with_reducible refine at_mk ?_))
    | ((with_reducible first | refine st_g ?_ | refine fr_g ?_); (try (conv => arg 1; simp [q1.1, q2.1, q3.1, q4.1, q5.1, rb1])); (with_reducible refine at_mk ?_); with_reducible first | refine gd_tt ?_ | refine gd_ff ?_ | refine gd_tf ?_ | refine gd_ft ?_ | refine gd_no ?_)
    | ((with_reducible refine st_m rfl ?_); (try (conv => arg 1; simp [q1.1, q2.1, q3.1, q4.1, q5.1, rb1])); (with_reducible refine ev2_some ?_))
    | ((with_reducible refine fr_n rfl ?_); (try (conv => arg 1; simp [q1.1, q2.1, q3.1, q4.1, q5.1, rb1])); (with_reducible refine evn_some ?_))
    | ((with_reducible first | refine st_cv ?_ | refine fr_cv ?_); (try (conv => arg 1; simp [q1.1, q2.1, q3.1, q4.1, q5.1, rb1])); (with_reducible refine at_mk ?_); (with_reducible refine fn_mk ?_); (try (conv => arg 1; simp [q1.1, q2.1, q3.1, q4.1, q5.1, rb1])); (with_reducible refine at_mk ?_))
    | ((with_reducible refine fr_a ?_); (try (conv => arg 1; simp [q1.1, q2.1, q3.1, q4.1, q5.1, rb1])); (with_reducible refine at_mk ?_); (try (conv => arg 1; simp [q1.1, q2.1, q3.1, q4.1, q5.1, rb1])); (with_reducible refine at_mk ?_); refine ⟨?names, ?_⟩; (case names => (simp [appNames, ints, intss] <;> first | kernel_rfl | (refine ⟨?_, ?_⟩ <;> kernel_rfl))); (try (conv => arg 1; simp [q1.1, q2.1, q3.1, q4.1, q5.1, rb1])); (with_reducible refine ev2_some ?_))
    | ((with_reducible first | refine st_q ?_ | refine fr_q ?_ | refine st_res ?_); (try (conv => arg 1; simp [q1.1, q2.1, q3.1, q4.1, q5.1, rb1])); (with_reducible refine ev_some ?_))
    | ((with_reducible refine st_if ?_); (try (conv => arg 1; simp [q1.1, q2.1, q3.1, q4.1, q5.1, rb1])); (with_reducible refine at_mk ?_); with_reducible first | refine br_t ?_ | refine br_f ?_))
  refine st_heap rfl (markIntS (o2.congr fun n hn => ?_) (fun n hn => ?_) (k + c.Regs.length) (by omega) (by omega)) ?_
  · have hb := b2 n hn
    have hne : n ≠ (h.tick, 0, 0) := fun e => by rw [e] at hb; simp at hb
    simp only [hp_next_rows]
    exact g1 n hb (fun e => absurd rfl (x1 n e n (by simp [hn])))
  · have hb := b2 n hn
    simp only [hp_next_tick, hp_put_tick]
    omega
  rintro r h2 ⟨rfl, _, p2, t2⟩
  simp only [hp_next_tick, hp_put_tick] at t2
  have g2 : ∀ n, n.1 < h.tick → n ∉ n1 → n ∉ n2 → h2.rows n = h.rows n := fun n hb y1 y2 => by
    have hne : n ≠ (h.tick, 0, 0) := fun e => by rw [e] at hb; simp at hb
    rw [p2 n y2]
    simp only [hp_next_rows]
    exact g1 n hb y1
  have rb2 : h2.rows (h.tick, 0, 0) = some ⟨0, 9, [[.int .i64 c.At, w1, w2, w3, w4, w5, .int .i64 c.Code, .bool c.Over, .int .i64 c.Val]]⟩ := by
    rw [p2 _ (by simp [bx])]
    simp [hp_next_rows, hp_rows_put, rb1]
  repeat' (first
    | (with_reducible first | refine st_seq ?_ | refine st_reg ?_ | refine st_block ?_ | refine st_nil ?_ | refine st_skip ?_ | refine st_ret ?_ | refine st_exit ?_ | refine fr_nil ?_ | refine k_seq_n ?_ | refine k_seq_r ?_ | refine k_seq_e ?_ | refine k_blk_n ?_ | refine k_blk_r ?_ | refine k_blk_s ?_ | refine k_blk_o rfl ?_ | refine k_fn_r ?_ | refine k_fn_n ?_ | refine k_lp_r ?_ | refine k_lp_e ?_)
    | ((with_reducible first | refine st_move ?_ | refine st_asg ?_ | refine st_c ?_ | refine fr_c ?_); (try (conv => arg 1; simp [q1.1, q2.1, q3.1, q4.1, q5.1, rb2])); (with_reducible refine at_mk ?_))
    | ((with_reducible first | refine st_g ?_ | refine fr_g ?_); (try (conv => arg 1; simp [q1.1, q2.1, q3.1, q4.1, q5.1, rb2])); (with_reducible refine at_mk ?_); with_reducible first | refine gd_tt ?_ | refine gd_ff ?_ | refine gd_tf ?_ | refine gd_ft ?_ | refine gd_no ?_)
    | ((with_reducible refine st_m rfl ?_); (try (conv => arg 1; simp [q1.1, q2.1, q3.1, q4.1, q5.1, rb2])); (with_reducible refine ev2_some ?_))
    | ((with_reducible refine fr_n rfl ?_); (try (conv => arg 1; simp [q1.1, q2.1, q3.1, q4.1, q5.1, rb2])); (with_reducible refine evn_some ?_))
    | ((with_reducible first | refine st_cv ?_ | refine fr_cv ?_); (try (conv => arg 1; simp [q1.1, q2.1, q3.1, q4.1, q5.1, rb2])); (with_reducible refine at_mk ?_); (with_reducible refine fn_mk ?_); (try (conv => arg 1; simp [q1.1, q2.1, q3.1, q4.1, q5.1, rb2])); (with_reducible refine at_mk ?_))
    | ((with_reducible refine fr_a ?_); (try (conv => arg 1; simp [q1.1, q2.1, q3.1, q4.1, q5.1, rb2])); (with_reducible refine at_mk ?_); (try (conv => arg 1; simp [q1.1, q2.1, q3.1, q4.1, q5.1, rb2])); (with_reducible refine at_mk ?_); refine ⟨?names, ?_⟩; (case names => (simp [appNames, ints, intss] <;> first | kernel_rfl | (refine ⟨?_, ?_⟩ <;> kernel_rfl))); (try (conv => arg 1; simp [q1.1, q2.1, q3.1, q4.1, q5.1, rb2])); (with_reducible refine ev2_some ?_))
    | ((with_reducible first | refine st_q ?_ | refine fr_q ?_ | refine st_res ?_); (try (conv => arg 1; simp [q1.1, q2.1, q3.1, q4.1, q5.1, rb2])); (with_reducible refine ev_some ?_))
    | ((with_reducible refine st_if ?_); (try (conv => arg 1; simp [q1.1, q2.1, q3.1, q4.1, q5.1, rb2])); (with_reducible refine at_mk ?_); with_reducible first | refine br_t ?_ | refine br_f ?_))
  refine st_heap rfl (markIntSS (o3.congr fun n hn => ?_) e3 (fun n hn => ?_) (k + c.Regs.length + c.Slots.length) (by omega) (by omega)) ?_
  · have hb := b3 n hn
    have hne : n ≠ (h.tick, 0, 0) := fun e => by rw [e] at hb; simp at hb
    simp only [hp_next_rows]
    exact g2 n hb (fun e => absurd rfl (x1 n e n (by simp [hn]))) (fun e => absurd rfl (x2 n e n (by simp [hn])))
  · have hb := b3 n hn
    simp only [hp_next_tick, hp_put_tick]
    omega
  rintro r h3 ⟨rfl, _, p3, t3⟩
  simp only [hp_next_tick, hp_put_tick] at t3
  have g3 : ∀ n, n.1 < h.tick → n ∉ n1 → n ∉ n2 → n ∉ n3 → h3.rows n = h.rows n := fun n hb y1 y2 y3 => by
    have hne : n ≠ (h.tick, 0, 0) := fun e => by rw [e] at hb; simp at hb
    rw [p3 n y3]
    simp only [hp_next_rows]
    exact g2 n hb y1 y2
  have rb3 : h3.rows (h.tick, 0, 0) = some ⟨0, 9, [[.int .i64 c.At, w1, w2, w3, w4, w5, .int .i64 c.Code, .bool c.Over, .int .i64 c.Val]]⟩ := by
    rw [p3 _ (by simp [bx])]
    simp [hp_next_rows, hp_rows_put, rb2]
  repeat' (first
    | (with_reducible first | refine st_seq ?_ | refine st_reg ?_ | refine st_block ?_ | refine st_nil ?_ | refine st_skip ?_ | refine st_ret ?_ | refine st_exit ?_ | refine fr_nil ?_ | refine k_seq_n ?_ | refine k_seq_r ?_ | refine k_seq_e ?_ | refine k_blk_n ?_ | refine k_blk_r ?_ | refine k_blk_s ?_ | refine k_blk_o rfl ?_ | refine k_fn_r ?_ | refine k_fn_n ?_ | refine k_lp_r ?_ | refine k_lp_e ?_)
    | ((with_reducible first | refine st_move ?_ | refine st_asg ?_ | refine st_c ?_ | refine fr_c ?_); (try (conv => arg 1; simp [q1.1, q2.1, q3.1, q4.1, q5.1, rb3])); (with_reducible refine at_mk ?_))
    | ((with_reducible first | refine st_g ?_ | refine fr_g ?_); (try (conv => arg 1; simp [q1.1, q2.1, q3.1, q4.1, q5.1, rb3])); (with_reducible refine at_mk ?_); with_reducible first | refine gd_tt ?_ | refine gd_ff ?_ | refine gd_tf ?_ | refine gd_ft ?_ | refine gd_no ?_)
    | ((with_reducible refine st_m rfl ?_); (try (conv => arg 1; simp [q1.1, q2.1, q3.1, q4.1, q5.1, rb3])); (with_reducible refine ev2_some ?_))
    | ((with_reducible refine fr_n rfl ?_); (try (conv => arg 1; simp [q1.1, q2.1, q3.1, q4.1, q5.1, rb3])); (with_reducible refine evn_some ?_))
    | ((with_reducible first | refine st_cv ?_ | refine fr_cv ?_); (try (conv => arg 1; simp [q1.1, q2.1, q3.1, q4.1, q5.1, rb3])); (with_reducible refine at_mk ?_); (with_reducible refine fn_mk ?_); (try (conv => arg 1; simp [q1.1, q2.1, q3.1, q4.1, q5.1, rb3])); (with_reducible refine at_mk ?_))
    | ((with_reducible refine fr_a ?_); (try (conv => arg 1; simp [q1.1, q2.1, q3.1, q4.1, q5.1, rb3])); (with_reducible refine at_mk ?_); (try (conv => arg 1; simp [q1.1, q2.1, q3.1, q4.1, q5.1, rb3])); (with_reducible refine at_mk ?_); refine ⟨?names, ?_⟩; (case names => (simp [appNames, ints, intss] <;> first | kernel_rfl | (refine ⟨?_, ?_⟩ <;> kernel_rfl))); (try (conv => arg 1; simp [q1.1, q2.1, q3.1, q4.1, q5.1, rb3])); (with_reducible refine ev2_some ?_))
    | ((with_reducible first | refine st_q ?_ | refine fr_q ?_ | refine st_res ?_); (try (conv => arg 1; simp [q1.1, q2.1, q3.1, q4.1, q5.1, rb3])); (with_reducible refine ev_some ?_))
    | ((with_reducible refine st_if ?_); (try (conv => arg 1; simp [q1.1, q2.1, q3.1, q4.1, q5.1, rb3])); (with_reducible refine at_mk ?_); with_reducible first | refine br_t ?_ | refine br_f ?_))
  refine st_heap rfl (markIntS (o4.congr fun n hn => ?_) (fun n hn => ?_) (k + c.Regs.length + c.Slots.length + psum c.Mem c.Mem.length) (by omega) (by omega)) ?_
  · have hb := b4 n hn
    have hne : n ≠ (h.tick, 0, 0) := fun e => by rw [e] at hb; simp at hb
    simp only [hp_next_rows]
    exact g3 n hb (fun e => absurd rfl (x1 n e n (by simp [hn]))) (fun e => absurd rfl (x2 n e n (by simp [hn]))) (fun e => absurd rfl (x3 n e n (by simp [hn])))
  · have hb := b4 n hn
    simp only [hp_next_tick, hp_put_tick]
    omega
  rintro r h4 ⟨rfl, _, p4, t4⟩
  simp only [hp_next_tick, hp_put_tick] at t4
  have g4 : ∀ n, n.1 < h.tick → n ∉ n1 → n ∉ n2 → n ∉ n3 → n ∉ n4 → h4.rows n = h.rows n := fun n hb y1 y2 y3 y4 => by
    have hne : n ≠ (h.tick, 0, 0) := fun e => by rw [e] at hb; simp at hb
    rw [p4 n y4]
    simp only [hp_next_rows]
    exact g3 n hb y1 y2 y3
  have rb4 : h4.rows (h.tick, 0, 0) = some ⟨0, 9, [[.int .i64 c.At, w1, w2, w3, w4, w5, .int .i64 c.Code, .bool c.Over, .int .i64 c.Val]]⟩ := by
    rw [p4 _ (by simp [bx])]
    simp [hp_next_rows, hp_rows_put, rb3]
  repeat' (first
    | (with_reducible first | refine st_seq ?_ | refine st_reg ?_ | refine st_block ?_ | refine st_nil ?_ | refine st_skip ?_ | refine st_ret ?_ | refine st_exit ?_ | refine fr_nil ?_ | refine k_seq_n ?_ | refine k_seq_r ?_ | refine k_seq_e ?_ | refine k_blk_n ?_ | refine k_blk_r ?_ | refine k_blk_s ?_ | refine k_blk_o rfl ?_ | refine k_fn_r ?_ | refine k_fn_n ?_ | refine k_lp_r ?_ | refine k_lp_e ?_)
    | ((with_reducible first | refine st_move ?_ | refine st_asg ?_ | refine st_c ?_ | refine fr_c ?_); (try (conv => arg 1; simp [q1.1, q2.1, q3.1, q4.1, q5.1, rb4])); (with_reducible refine at_mk ?_))
    | ((with_reducible first | refine st_g ?_ | refine fr_g ?_); (try (conv => arg 1; simp [q1.1, q2.1, q3.1, q4.1, q5.1, rb4])); (with_reducible refine at_mk ?_); with_reducible first | refine gd_tt ?_ | refine gd_ff ?_ | refine gd_tf ?_ | refine gd_ft ?_ | refine gd_no ?_)
    | ((with_reducible refine st_m rfl ?_); (try (conv => arg 1; simp [q1.1, q2.1, q3.1, q4.1, q5.1, rb4])); (with_reducible refine ev2_some ?_))
    | ((with_reducible refine fr_n rfl ?_); (try (conv => arg 1; simp [q1.1, q2.1, q3.1, q4.1, q5.1, rb4])); (with_reducible refine evn_some ?_))
    | ((with_reducible first | refine st_cv ?_ | refine fr_cv ?_); (try (conv => arg 1; simp [q1.1, q2.1, q3.1, q4.1, q5.1, rb4])); (with_reducible refine at_mk ?_); (with_reducible refine fn_mk ?_); (try (conv => arg 1; simp [q1.1, q2.1, q3.1, q4.1, q5.1, rb4])); (with_reducible refine at_mk ?_))
    | ((with_reducible refine fr_a ?_); (try (conv => arg 1; simp [q1.1, q2.1, q3.1, q4.1, q5.1, rb4])); (with_reducible refine at_mk ?_); (try (conv => arg 1; simp [q1.1, q2.1, q3.1, q4.1, q5.1, rb4])); (with_reducible refine at_mk ?_); refine ⟨?names, ?_⟩; (case names => (simp [appNames, ints, intss] <;> first | kernel_rfl | (refine ⟨?_, ?_⟩ <;> kernel_rfl))); (try (conv => arg 1; simp [q1.1, q2.1, q3.1, q4.1, q5.1, rb4])); (with_reducible refine ev2_some ?_))
    | ((with_reducible first | refine st_q ?_ | refine fr_q ?_ | refine st_res ?_); (try (conv => arg 1; simp [q1.1, q2.1, q3.1, q4.1, q5.1, rb4])); (with_reducible refine ev_some ?_))
    | ((with_reducible refine st_if ?_); (try (conv => arg 1; simp [q1.1, q2.1, q3.1, q4.1, q5.1, rb4])); (with_reducible refine at_mk ?_); with_reducible first | refine br_t ?_ | refine br_f ?_))
  refine st_heap rfl (markIntS (o5.congr fun n hn => ?_) (fun n hn => ?_) (k + c.Regs.length + c.Slots.length + psum c.Mem c.Mem.length + c.Input.length) (by omega) (by omega)) ?_
  · have hb := b5 n hn
    have hne : n ≠ (h.tick, 0, 0) := fun e => by rw [e] at hb; simp at hb
    simp only [hp_next_rows]
    exact g4 n hb (fun e => absurd rfl (x1 n e n (by simp [hn]))) (fun e => absurd rfl (x2 n e n (by simp [hn]))) (fun e => absurd rfl (x3 n e n (by simp [hn]))) (fun e => absurd rfl (x4 n e n (by simp [hn])))
  · have hb := b5 n hn
    simp only [hp_next_tick, hp_put_tick]
    omega
  rintro r h5 ⟨rfl, _, p5, t5⟩
  simp only [hp_next_tick, hp_put_tick] at t5
  have g5 : ∀ n, n.1 < h.tick → n ∉ n1 → n ∉ n2 → n ∉ n3 → n ∉ n4 → n ∉ n5 → h5.rows n = h.rows n := fun n hb y1 y2 y3 y4 y5 => by
    have hne : n ≠ (h.tick, 0, 0) := fun e => by rw [e] at hb; simp at hb
    rw [p5 n y5]
    simp only [hp_next_rows]
    exact g4 n hb y1 y2 y3 y4
  have rb5 : h5.rows (h.tick, 0, 0) = some ⟨0, 9, [[.int .i64 c.At, w1, w2, w3, w4, w5, .int .i64 c.Code, .bool c.Over, .int .i64 c.Val]]⟩ := by
    rw [p5 _ (by simp [bx])]
    simp [hp_next_rows, hp_rows_put, rb4]
  repeat' (first
    | (with_reducible first | refine st_seq ?_ | refine st_reg ?_ | refine st_block ?_ | refine st_nil ?_ | refine st_skip ?_ | refine st_ret ?_ | refine st_exit ?_ | refine fr_nil ?_ | refine k_seq_n ?_ | refine k_seq_r ?_ | refine k_seq_e ?_ | refine k_blk_n ?_ | refine k_blk_r ?_ | refine k_blk_s ?_ | refine k_blk_o rfl ?_ | refine k_fn_r ?_ | refine k_fn_n ?_ | refine k_lp_r ?_ | refine k_lp_e ?_)
    | ((with_reducible first | refine st_move ?_ | refine st_asg ?_ | refine st_c ?_ | refine fr_c ?_); (try (conv => arg 1; simp [q1.1, q2.1, q3.1, q4.1, q5.1, rb5])); (with_reducible refine at_mk ?_))
    | ((with_reducible first | refine st_g ?_ | refine fr_g ?_); (try (conv => arg 1; simp [q1.1, q2.1, q3.1, q4.1, q5.1, rb5])); (with_reducible refine at_mk ?_); with_reducible first | refine gd_tt ?_ | refine gd_ff ?_ | refine gd_tf ?_ | refine gd_ft ?_ | refine gd_no ?_)
    | ((with_reducible refine st_m rfl ?_); (try (conv => arg 1; simp [q1.1, q2.1, q3.1, q4.1, q5.1, rb5])); (with_reducible refine ev2_some ?_))
    | ((with_reducible refine fr_n rfl ?_); (try (conv => arg 1; simp [q1.1, q2.1, q3.1, q4.1, q5.1, rb5])); (with_reducible refine evn_some ?_))
    | ((with_reducible first | refine st_cv ?_ | refine fr_cv ?_); (try (conv => arg 1; simp [q1.1, q2.1, q3.1, q4.1, q5.1, rb5])); (with_reducible refine at_mk ?_); (with_reducible refine fn_mk ?_); (try (conv => arg 1; simp [q1.1, q2.1, q3.1, q4.1, q5.1, rb5])); (with_reducible refine at_mk ?_))
    | ((with_reducible refine fr_a ?_); (try (conv => arg 1; simp [q1.1, q2.1, q3.1, q4.1, q5.1, rb5])); (with_reducible refine at_mk ?_); (try (conv => arg 1; simp [q1.1, q2.1, q3.1, q4.1, q5.1, rb5])); (with_reducible refine at_mk ?_); refine ⟨?names, ?_⟩; (case names => (simp [appNames, ints, intss] <;> first | kernel_rfl | (refine ⟨?_, ?_⟩ <;> kernel_rfl))); (try (conv => arg 1; simp [q1.1, q2.1, q3.1, q4.1, q5.1, rb5])); (with_reducible refine ev2_some ?_))
    | ((with_reducible first | refine st_q ?_ | refine fr_q ?_ | refine st_res ?_); (try (conv => arg 1; simp [q1.1, q2.1, q3.1, q4.1, q5.1, rb5])); (with_reducible refine ev_some ?_))
    | ((with_reducible refine st_if ?_); (try (conv => arg 1; simp [q1.1, q2.1, q3.1, q4.1, q5.1, rb5])); (with_reducible refine at_mk ?_); with_reducible first | refine br_t ?_ | refine br_f ?_))
  refine ⟨⟨_, rfl, by omega⟩, fun n hn hlt => ?_, by simp only [hp_next_tick]; omega⟩
  simp only [List.mem_append, not_or] at hn
  simp only [hp_next_rows]
  exact g5 n hlt hn.1 hn.2.1 hn.2.2.1 hn.2.2.2.1 hn.2.2.2.2
end Go.Proofs.Ytfgaoojogididaa.AM

/-
  Words and images: what they are; a number in a range.
-/
set_option linter.unusedVariables false
set_option linter.unusedSimpArgs false
set_option maxRecDepth 4000
namespace Go.Proofs.Ytfgaoojogididaa.AM
open Go.RowKit

private def MW0 : FuncId → Mode := fun f => .tree

structure Word where
  Op : Int
  R : Int
  A : Int
  B : Int
  N : Int
def Word.cells (w : Word) : List AV := [.int .i64 w.Op, .int .i64 w.R, .int .i64 w.A, .int .i64 w.B, .int .i64 w.N]
def words (b : Bool) (ws : List Word) : AV := .tr b (ws.map Word.cells)
structure Image where
  Sizes : List Int
  Params : Int
  Slots : Int
  Code : List Word
def Image.cells (b : Bool) (m : Image) : List AV := [ints b m.Sizes, .int .i64 m.Params, .int .i64 m.Slots, words b m.Code]
@[simp] theorem one_words (b : Bool) (ws : List Word) : (words b ws).one = true := rfl
@[simp] theorem stored_words (b : Bool) (ws : List Word) : (words b ws).stored = true := rfl
@[simp] theorem cells_words (b : Bool) (ws : List Word) : (words b ws).cells = [words b ws] := rfl

def inB (n lo hi : Int) : Bool := decide (lo ≤ n) && decide (n ≤ hi)

theorem l01In (n lo hi : Int) : Pure Try.prog 55 [.int .i64 n, .int .i64 lo, .int .i64 hi] (.bool (inB n lo hi)) := by
  intro T
  refine enter mixed MW0 Try.func55 rfl (by kernel_rfl) rfl ?_
  repeat' (first
    | (with_reducible first | refine st_seq ?_ | refine st_reg ?_ | refine st_block ?_ | refine st_nil ?_ | refine st_skip ?_ | refine st_ret ?_ | refine st_exit ?_ | refine fr_nil ?_ | refine k_seq_n ?_ | refine k_seq_r ?_ | refine k_seq_e ?_ | refine k_blk_n ?_ | refine k_blk_r ?_ | refine k_blk_s ?_ | refine k_blk_o rfl ?_ | refine k_fn_r ?_ | refine k_fn_n ?_ | refine k_lp_r ?_ | refine k_lp_e ?_)
    | ((with_reducible first | refine st_move ?_ | refine st_asg ?_ | refine st_c ?_ | refine fr_c ?_); (try (conv => arg 1; simp)); (with_reducible refine at_mk ?_))
    | ((with_reducible first | refine st_g ?_ | refine fr_g ?_); (try (conv => arg 1; simp)); (with_reducible refine at_mk ?_); with_reducible first | refine gd_tt ?_ | refine gd_ff ?_ | refine gd_tf ?_ | refine gd_ft ?_ | refine gd_no ?_)
    | ((with_reducible first | refine st_gm ?_ | refine fr_gm ?_); (try (conv => arg 1; simp)); (with_reducible refine at_mk ?_); (with_reducible first | refine gm_bool ?_ | refine gm_gv ?_); refine ⟨_, (by intro hc; first | ((try simp only [Bool.and_eq_true] at hc); (try (conv => lhs; simp [hc])); first | done | exact rfl) | ((try simp [gq] at hc); (try (conv => lhs; simp [gq, hc])); first | done | exact rfl)), ?_⟩)
    | ((with_reducible refine st_m rfl ?_); (try (conv => arg 1; simp)); (with_reducible refine ev2_some ?_))
    | ((with_reducible refine fr_n rfl ?_); (try (conv => arg 1; simp)); (with_reducible refine evn_some ?_))
    | ((with_reducible first | refine st_cv ?_ | refine fr_cv ?_); (try (conv => arg 1; simp)); (with_reducible refine at_mk ?_); (with_reducible refine fn_mk ?_); (try (conv => arg 1; simp)); (with_reducible refine at_mk ?_))
    | ((with_reducible refine fr_a ?_); (try (conv => arg 1; simp)); (with_reducible refine at_mk ?_); (try (conv => arg 1; simp)); (with_reducible refine at_mk ?_); refine ⟨?names, ?_⟩; (case names => (simp [appNames, ints, intss] <;> first | kernel_rfl | (refine ⟨?_, ?_⟩ <;> kernel_rfl))); (try (conv => arg 1; simp)); (with_reducible refine ev2_some ?_))
    | ((with_reducible first | refine st_q ?_ | refine fr_q ?_ | refine st_res ?_); (try (conv => arg 1; simp)); (with_reducible refine ev_some ?_))
    | ((with_reducible refine st_if ?_); (try (conv => arg 1; simp)); (with_reducible refine at_mk ?_); with_reducible first | refine br_t ?_ | refine br_f ?_))
  exact dr_bool (by simp [inB])
theorem in_ (n lo hi : Int) : Pure Try.prog 69 [.int .i64 n, .int .i64 lo, .int .i64 hi] (.bool (inB n lo hi)) := by
  intro T
  refine enter mixed MW0 Try.func69 rfl (by kernel_rfl) rfl ?_
  repeat' (first
    | (with_reducible first | refine st_seq ?_ | refine st_reg ?_ | refine st_block ?_ | refine st_nil ?_ | refine st_skip ?_ | refine st_ret ?_ | refine st_exit ?_ | refine fr_nil ?_ | refine k_seq_n ?_ | refine k_seq_r ?_ | refine k_seq_e ?_ | refine k_blk_n ?_ | refine k_blk_r ?_ | refine k_blk_s ?_ | refine k_blk_o rfl ?_ | refine k_fn_r ?_ | refine k_fn_n ?_ | refine k_lp_r ?_ | refine k_lp_e ?_)
    | ((with_reducible first | refine st_move ?_ | refine st_asg ?_ | refine st_c ?_ | refine fr_c ?_); (try (conv => arg 1; simp)); (with_reducible refine at_mk ?_))
    | ((with_reducible first | refine st_g ?_ | refine fr_g ?_); (try (conv => arg 1; simp)); (with_reducible refine at_mk ?_); with_reducible first | refine gd_tt ?_ | refine gd_ff ?_ | refine gd_tf ?_ | refine gd_ft ?_ | refine gd_no ?_)
    | ((with_reducible first | refine st_gm ?_ | refine fr_gm ?_); (try (conv => arg 1; simp)); (with_reducible refine at_mk ?_); (with_reducible first | refine gm_bool ?_ | refine gm_gv ?_); refine ⟨_, (by intro hc; first | ((try simp only [Bool.and_eq_true] at hc); (try (conv => lhs; simp [hc])); first | done | exact rfl) | ((try simp [gq] at hc); (try (conv => lhs; simp [gq, hc])); first | done | exact rfl)), ?_⟩)
    | ((with_reducible refine st_m rfl ?_); (try (conv => arg 1; simp)); (with_reducible refine ev2_some ?_))
    | ((with_reducible refine fr_n rfl ?_); (try (conv => arg 1; simp)); (with_reducible refine evn_some ?_))
    | ((with_reducible first | refine st_cv ?_ | refine fr_cv ?_); (try (conv => arg 1; simp)); (with_reducible refine at_mk ?_); (with_reducible refine fn_mk ?_); (try (conv => arg 1; simp)); (with_reducible refine at_mk ?_))
    | ((with_reducible refine fr_a ?_); (try (conv => arg 1; simp)); (with_reducible refine at_mk ?_); (try (conv => arg 1; simp)); (with_reducible refine at_mk ?_); refine ⟨?names, ?_⟩; (case names => (simp [appNames, ints, intss] <;> first | kernel_rfl | (refine ⟨?_, ?_⟩ <;> kernel_rfl))); (try (conv => arg 1; simp)); (with_reducible refine ev2_some ?_))
    | ((with_reducible first | refine st_q ?_ | refine fr_q ?_ | refine st_res ?_); (try (conv => arg 1; simp)); (with_reducible refine ev_some ?_))
    | ((with_reducible refine st_if ?_); (try (conv => arg 1; simp)); (with_reducible refine at_mk ?_); with_reducible first | refine br_t ?_ | refine br_f ?_))
  exact dr_bool (by simp [inB])
end Go.Proofs.Ytfgaoojogididaa.AM

/-
  Words in slices: their size, copies, equal, marked.
-/
set_option linter.unusedVariables false
set_option linter.unusedSimpArgs false
set_option maxRecDepth 4000
namespace Go.Proofs.Ytfgaoojogididaa.AM
open Go.RowKit

private def MW1 : FuncId → Mode := fun f => .tree

theorem word_flat (w : Word) : w.cells.length = 5 ∧ ∀ x ∈ w.cells, flatc x = true := ⟨rfl, by simp [Word.cells, flatc]⟩
theorem words_flat (ws : List Word) : ∀ e ∈ ws.map Word.cells, e.length = 5 ∧ ∀ x ∈ e, flatc x = true := fun e he => by
  obtain ⟨w, _, rfl⟩ := List.mem_map.1 he
  exact word_flat w
theorem drs_word {c : Bool} {rows : Nm → Option Row} (w : Word) : DRs c rows w.cells w.cells := drs_flat (word_flat w).2
theorem dr_words {c b : Bool} {rows : Nm → Option Row} (hb : b = true → c = true) (ws : List Word) : DR c rows (words b ws) (words c ws) := dr_trflat hb fun e he => (words_flat ws e he).2

theorem szWordS (xs : List Word) (left : Int) (h1 : 0 ≤ left) (h2 : left ≤ 2 ^ 20) (hm : xs.length ≤ maxLen) : Pure Try.prog 53 [words true xs, .int .i64 left] (.int .i64 (if left < xs.length then -1 else left - xs.length)) := by
  intro T
  have hw : IntKind.i64.wrap (left - xs.length) = left - xs.length := wrap_id (by simp [maxLen] at hm; omega) (by omega)
  refine enter mixed MW1 Try.func53 rfl (by kernel_rfl) rfl ?_
  repeat' (first
    | (with_reducible first | refine st_seq ?_ | refine st_reg ?_ | refine st_block ?_ | refine st_nil ?_ | refine st_skip ?_ | refine st_ret ?_ | refine st_exit ?_ | refine fr_nil ?_ | refine k_seq_n ?_ | refine k_seq_r ?_ | refine k_seq_e ?_ | refine k_blk_n ?_ | refine k_blk_r ?_ | refine k_blk_s ?_ | refine k_blk_o rfl ?_ | refine k_fn_r ?_ | refine k_fn_n ?_ | refine k_lp_r ?_ | refine k_lp_e ?_)
    | ((with_reducible first | refine st_move ?_ | refine st_asg ?_ | refine st_c ?_ | refine fr_c ?_); (try (conv => arg 1; simp [words, hw])); (with_reducible refine at_mk ?_))
    | ((with_reducible first | refine st_g ?_ | refine fr_g ?_); (try (conv => arg 1; simp [words, hw])); (with_reducible refine at_mk ?_); with_reducible first | refine gd_tt ?_ | refine gd_ff ?_ | refine gd_tf ?_ | refine gd_ft ?_ | refine gd_no ?_ | (refine gd_b (fun hb => ?_) (fun hb => ?_) <;> ((try simp only [Bool.not_eq_eq_eq_not, Bool.not_true, Bool.not_false] at hb); (try simp only [hb]); (try simp at hb))))
    | ((with_reducible refine st_m rfl ?_); (try (conv => arg 1; simp [words, hw])); (with_reducible refine ev2_some ?_))
    | ((with_reducible refine fr_n rfl ?_); (try (conv => arg 1; simp [words, hw])); (with_reducible refine evn_some ?_))
    | ((with_reducible first | refine st_cv ?_ | refine fr_cv ?_); (try (conv => arg 1; simp [words, hw])); (with_reducible refine at_mk ?_); (with_reducible refine fn_mk ?_); (try (conv => arg 1; simp [words, hw])); (with_reducible refine at_mk ?_))
    | ((with_reducible refine fr_a ?_); (try (conv => arg 1; simp [words, hw])); (with_reducible refine at_mk ?_); (try (conv => arg 1; simp [words, hw])); (with_reducible refine at_mk ?_); refine ⟨?names, ?_⟩; (case names => (simp [appNames, ints, intss] <;> first | kernel_rfl | (refine ⟨?_, ?_⟩ <;> kernel_rfl))); (try (conv => arg 1; simp [words, hw])); (with_reducible refine ev2_some ?_))
    | ((with_reducible first | refine st_q ?_ | refine fr_q ?_ | refine st_res ?_); (try (conv => arg 1; simp [words, hw])); (with_reducible refine ev_some ?_))
    | ((with_reducible refine st_if ?_); (try (conv => arg 1; simp [words, hw])); (with_reducible refine at_mk ?_); with_reducible first | refine br_t ?_ | refine br_f ?_ | (refine br_b (fun hb => ?_) (fun hb => ?_) <;> ((try simp only [Bool.not_eq_eq_eq_not, Bool.not_true, Bool.not_false] at hb); (try simp only [hb]); (try simp at hb)))))
  · exact dr_int (by rw [if_pos (by omega)])
  · exact dr_int (by rw [if_neg (by omega)])

theorem toWord (w : Word) : Pure Try.prog 75 [.agg w.cells] (.agg w.cells) := by
  intro T
  refine enter mixed MW1 Try.func75 rfl (by kernel_rfl) rfl ?_
  repeat' (first
    | (with_reducible first | refine st_seq ?_ | refine st_reg ?_ | refine st_block ?_ | refine st_nil ?_ | refine st_skip ?_ | refine st_ret ?_ | refine st_exit ?_ | refine fr_nil ?_ | refine k_seq_n ?_ | refine k_seq_r ?_ | refine k_seq_e ?_ | refine k_blk_n ?_ | refine k_blk_r ?_ | refine k_blk_s ?_ | refine k_blk_o rfl ?_ | refine k_fn_r ?_ | refine k_fn_n ?_ | refine k_lp_r ?_ | refine k_lp_e ?_)
    | ((with_reducible first | refine st_move ?_ | refine st_asg ?_ | refine st_c ?_ | refine fr_c ?_); (try (conv => arg 1; simp [Word.cells])); (with_reducible refine at_mk ?_))
    | ((with_reducible first | refine st_g ?_ | refine fr_g ?_); (try (conv => arg 1; simp [Word.cells])); (with_reducible refine at_mk ?_); with_reducible first | refine gd_tt ?_ | refine gd_ff ?_ | refine gd_tf ?_ | refine gd_ft ?_ | refine gd_no ?_)
    | ((with_reducible refine st_m rfl ?_); (try (conv => arg 1; simp [Word.cells])); (with_reducible refine ev2_some ?_))
    | ((with_reducible refine fr_n rfl ?_); (try (conv => arg 1; simp [Word.cells])); (with_reducible refine evn_some ?_))
    | ((with_reducible first | refine st_cv ?_ | refine fr_cv ?_); (try (conv => arg 1; simp [Word.cells])); (with_reducible refine at_mk ?_); (with_reducible refine fn_mk ?_); (try (conv => arg 1; simp [Word.cells])); (with_reducible refine at_mk ?_))
    | ((with_reducible refine fr_a ?_); (try (conv => arg 1; simp [Word.cells])); (with_reducible refine at_mk ?_); (try (conv => arg 1; simp [Word.cells])); (with_reducible refine at_mk ?_); refine ⟨?names, ?_⟩; (case names => (simp [appNames, ints, intss] <;> first | kernel_rfl | (refine ⟨?_, ?_⟩ <;> kernel_rfl))); (try (conv => arg 1; simp [Word.cells])); (with_reducible refine ev2_some ?_))
    | ((with_reducible first | refine st_q ?_ | refine fr_q ?_ | refine st_res ?_); (try (conv => arg 1; simp [Word.cells])); (with_reducible refine ev_some ?_))
    | ((with_reducible refine st_if ?_); (try (conv => arg 1; simp [Word.cells])); (with_reducible refine at_mk ?_); with_reducible first | refine br_t ?_ | refine br_f ?_))
  exact dr_agg (drs_word w)

theorem eqWord (w : Word) : Pure Try.prog 77 [.agg w.cells, .agg w.cells] (.bool true) := by
  intro T
  refine enter mixed MW1 Try.func77 rfl (by kernel_rfl) rfl ?_
  repeat' (first
    | (with_reducible first | refine st_seq ?_ | refine st_reg ?_ | refine st_block ?_ | refine st_nil ?_ | refine st_skip ?_ | refine st_ret ?_ | refine st_exit ?_ | refine fr_nil ?_ | refine k_seq_n ?_ | refine k_seq_r ?_ | refine k_seq_e ?_ | refine k_blk_n ?_ | refine k_blk_r ?_ | refine k_blk_s ?_ | refine k_blk_o rfl ?_ | refine k_fn_r ?_ | refine k_fn_n ?_ | refine k_lp_r ?_ | refine k_lp_e ?_)
    | ((with_reducible first | refine st_move ?_ | refine st_asg ?_ | refine st_c ?_ | refine fr_c ?_); (try (conv => arg 1; simp [Word.cells])); (with_reducible refine at_mk ?_))
    | ((with_reducible first | refine st_g ?_ | refine fr_g ?_); (try (conv => arg 1; simp [Word.cells])); (with_reducible refine at_mk ?_); with_reducible first | refine gd_tt ?_ | refine gd_ff ?_ | refine gd_tf ?_ | refine gd_ft ?_ | refine gd_no ?_)
    | ((with_reducible refine st_m rfl ?_); (try (conv => arg 1; simp [Word.cells])); (with_reducible refine ev2_some ?_))
    | ((with_reducible refine fr_n rfl ?_); (try (conv => arg 1; simp [Word.cells])); (with_reducible refine evn_some ?_))
    | ((with_reducible first | refine st_cv ?_ | refine fr_cv ?_); (try (conv => arg 1; simp [Word.cells])); (with_reducible refine at_mk ?_); (with_reducible refine fn_mk ?_); (try (conv => arg 1; simp [Word.cells])); (with_reducible refine at_mk ?_))
    | ((with_reducible refine fr_a ?_); (try (conv => arg 1; simp [Word.cells])); (with_reducible refine at_mk ?_); (try (conv => arg 1; simp [Word.cells])); (with_reducible refine at_mk ?_); refine ⟨?names, ?_⟩; (case names => (simp [appNames, ints, intss] <;> first | kernel_rfl | (refine ⟨?_, ?_⟩ <;> kernel_rfl))); (try (conv => arg 1; simp [Word.cells])); (with_reducible refine ev2_some ?_))
    | ((with_reducible first | refine st_q ?_ | refine fr_q ?_ | refine st_res ?_); (try (conv => arg 1; simp [Word.cells])); (with_reducible refine ev_some ?_))
    | ((with_reducible refine st_if ?_); (try (conv => arg 1; simp [Word.cells])); (with_reducible refine at_mk ?_); with_reducible first | refine br_t ?_ | refine br_f ?_))
  exact .bool _
end Go.Proofs.Ytfgaoojogididaa.AM
