/-
  How a run ended: equal, marked, held.
-/
import Derived.Test.YtfgaoojogididaaU6
set_option linter.unusedVariables false
set_option linter.unusedSimpArgs false
set_option maxRecDepth 4000
namespace Go.Proofs.Ytfgaoojogididaa.AM
open Go.RowKit

private def M : FuncId → Mode := fun f => if f = 33 then .heap else .tree

theorem eqEnd (e : EndV) (hl : e.Out.length ≤ 2 ^ 62) : Pure Try.prog 16 [.agg (e.cells true), .agg (e.cells true)] (.bool true) := by
  intro T
  refine enter mixed M Try.func16 rfl (by kernel_rfl) rfl ?_
  repeat' (first
    | (with_reducible first | refine st_seq ?_ | refine st_reg ?_ | refine st_block ?_ | refine st_nil ?_ | refine st_skip ?_ | refine st_ret ?_ | refine st_exit ?_ | refine fr_nil ?_ | refine k_seq_n ?_ | refine k_seq_r ?_ | refine k_seq_e ?_ | refine k_blk_n ?_ | refine k_blk_r ?_ | refine k_blk_s ?_ | refine k_blk_o rfl ?_ | refine k_fn_r ?_ | refine k_fn_n ?_ | refine k_lp_r ?_ | refine k_lp_e ?_)
    | ((with_reducible first | refine st_move ?_ | refine st_asg ?_ | refine st_c ?_ | refine fr_c ?_); (try (conv => arg 1; simp [EndV.cells])); (with_reducible refine at_mk ?_))
    | ((with_reducible first | refine st_g ?_ | refine fr_g ?_); (try (conv => arg 1; simp [EndV.cells])); (with_reducible refine at_mk ?_); with_reducible first | refine gd_tt ?_ | refine gd_ff ?_ | refine gd_tf ?_ | refine gd_ft ?_ | refine gd_no ?_)
    | ((with_reducible refine st_m rfl ?_); (try (conv => arg 1; simp [EndV.cells])); (with_reducible refine ev2_some ?_))
    | ((with_reducible refine fr_n rfl ?_); (try (conv => arg 1; simp [EndV.cells])); (with_reducible refine evn_some ?_))
    | ((with_reducible refine fr_a ?_); (try (conv => arg 1; simp [EndV.cells])); (with_reducible refine at_mk ?_); (try (conv => arg 1; simp [EndV.cells])); (with_reducible refine at_mk ?_); refine ⟨?names, ?_⟩; (case names => (simp [appNames, ints, intss] <;> first | kernel_rfl | (refine ⟨?_, ?_⟩ <;> kernel_rfl))); (try (conv => arg 1; simp [EndV.cells])); (with_reducible refine ev2_some ?_))
    | ((with_reducible first | refine st_q ?_ | refine fr_q ?_ | refine st_res ?_); (try (conv => arg 1; simp [EndV.cells])); (with_reducible refine ev_some ?_))
    | ((with_reducible refine st_if ?_); (try (conv => arg 1; simp [EndV.cells])); (with_reducible refine at_mk ?_); with_reducible first | refine br_t ?_ | refine br_f ?_))
  refine st_tree rfl (eqIntS e.Out hl) (.cons (dr_ints (fun h => h) _) (.cons (dr_ints (fun h => h) _) .nil)) ?_
  repeat' (first
    | (with_reducible first | refine st_seq ?_ | refine st_reg ?_ | refine st_block ?_ | refine st_nil ?_ | refine st_skip ?_ | refine st_ret ?_ | refine st_exit ?_ | refine fr_nil ?_ | refine k_seq_n ?_ | refine k_seq_r ?_ | refine k_seq_e ?_ | refine k_blk_n ?_ | refine k_blk_r ?_ | refine k_blk_s ?_ | refine k_blk_o rfl ?_ | refine k_fn_r ?_ | refine k_fn_n ?_ | refine k_lp_r ?_ | refine k_lp_e ?_)
    | ((with_reducible first | refine st_move ?_ | refine st_asg ?_ | refine st_c ?_ | refine fr_c ?_); (try (conv => arg 1; simp [EndV.cells])); (with_reducible refine at_mk ?_))
    | ((with_reducible first | refine st_g ?_ | refine fr_g ?_); (try (conv => arg 1; simp [EndV.cells])); (with_reducible refine at_mk ?_); with_reducible first | refine gd_tt ?_ | refine gd_ff ?_ | refine gd_tf ?_ | refine gd_ft ?_ | refine gd_no ?_)
    | ((with_reducible refine st_m rfl ?_); (try (conv => arg 1; simp [EndV.cells])); (with_reducible refine ev2_some ?_))
    | ((with_reducible refine fr_n rfl ?_); (try (conv => arg 1; simp [EndV.cells])); (with_reducible refine evn_some ?_))
    | ((with_reducible refine fr_a ?_); (try (conv => arg 1; simp [EndV.cells])); (with_reducible refine at_mk ?_); (try (conv => arg 1; simp [EndV.cells])); (with_reducible refine at_mk ?_); refine ⟨?names, ?_⟩; (case names => (simp [appNames, ints, intss] <;> first | kernel_rfl | (refine ⟨?_, ?_⟩ <;> kernel_rfl))); (try (conv => arg 1; simp [EndV.cells])); (with_reducible refine ev2_some ?_))
    | ((with_reducible first | refine st_q ?_ | refine fr_q ?_ | refine st_res ?_); (try (conv => arg 1; simp [EndV.cells])); (with_reducible refine ev_some ?_))
    | ((with_reducible refine st_if ?_); (try (conv => arg 1; simp [EndV.cells])); (with_reducible refine at_mk ?_); with_reducible first | refine br_t ?_ | refine br_f ?_))
  exact .bool true

theorem heldEnd (e : EndV) (n : Nat) (k : Int) (hk : 0 ≤ k) (hl : k + n ≤ 2 ^ 62) (he : e.Out = marks k n) : Pure Try.prog 20 [.agg (e.cells true), .int .i64 k] (.int .i64 (k + n)) := by
  intro T
  have hneg : ¬ k + (n : Int) < 0 := by omega
  refine enter mixed M Try.func20 rfl (by kernel_rfl) rfl ?_
  repeat' (first
    | (with_reducible first | refine st_seq ?_ | refine st_reg ?_ | refine st_block ?_ | refine st_nil ?_ | refine st_skip ?_ | refine st_ret ?_ | refine st_exit ?_ | refine fr_nil ?_ | refine k_seq_n ?_ | refine k_seq_r ?_ | refine k_seq_e ?_ | refine k_blk_n ?_ | refine k_blk_r ?_ | refine k_blk_s ?_ | refine k_blk_o rfl ?_ | refine k_fn_r ?_ | refine k_fn_n ?_ | refine k_lp_r ?_ | refine k_lp_e ?_)
    | ((with_reducible first | refine st_move ?_ | refine st_asg ?_ | refine st_c ?_ | refine fr_c ?_); (try (conv => arg 1; simp [EndV.cells, he])); (with_reducible refine at_mk ?_))
    | ((with_reducible first | refine st_g ?_ | refine fr_g ?_); (try (conv => arg 1; simp [EndV.cells, he])); (with_reducible refine at_mk ?_); with_reducible first | refine gd_tt ?_ | refine gd_ff ?_ | refine gd_tf ?_ | refine gd_ft ?_ | refine gd_no ?_)
    | ((with_reducible refine st_m rfl ?_); (try (conv => arg 1; simp [EndV.cells, he])); (with_reducible refine ev2_some ?_))
    | ((with_reducible refine fr_n rfl ?_); (try (conv => arg 1; simp [EndV.cells, he])); (with_reducible refine evn_some ?_))
    | ((with_reducible refine fr_a ?_); (try (conv => arg 1; simp [EndV.cells, he])); (with_reducible refine at_mk ?_); (try (conv => arg 1; simp [EndV.cells, he])); (with_reducible refine at_mk ?_); refine ⟨?names, ?_⟩; (case names => (simp [appNames, ints, intss] <;> first | kernel_rfl | (refine ⟨?_, ?_⟩ <;> kernel_rfl))); (try (conv => arg 1; simp [EndV.cells, he])); (with_reducible refine ev2_some ?_))
    | ((with_reducible first | refine st_q ?_ | refine fr_q ?_ | refine st_res ?_); (try (conv => arg 1; simp [EndV.cells, he])); (with_reducible refine ev_some ?_))
    | ((with_reducible refine st_if ?_); (try (conv => arg 1; simp [EndV.cells, he])); (with_reducible refine at_mk ?_); with_reducible first | refine br_t ?_ | refine br_f ?_))
  refine st_tree rfl (heldIntS n k hk hl) (.cons (dr_ints (fun h => h) _) (.cons (.int _ _) .nil)) ?_
  repeat' (first
    | (with_reducible first | refine st_seq ?_ | refine st_reg ?_ | refine st_block ?_ | refine st_nil ?_ | refine st_skip ?_ | refine st_ret ?_ | refine st_exit ?_ | refine fr_nil ?_ | refine k_seq_n ?_ | refine k_seq_r ?_ | refine k_seq_e ?_ | refine k_blk_n ?_ | refine k_blk_r ?_ | refine k_blk_s ?_ | refine k_blk_o rfl ?_ | refine k_fn_r ?_ | refine k_fn_n ?_ | refine k_lp_r ?_ | refine k_lp_e ?_)
    | ((with_reducible first | refine st_move ?_ | refine st_asg ?_ | refine st_c ?_ | refine fr_c ?_); (try (conv => arg 1; simp [EndV.cells, hneg])); (with_reducible refine at_mk ?_))
    | ((with_reducible first | refine st_g ?_ | refine fr_g ?_); (try (conv => arg 1; simp [EndV.cells, hneg])); (with_reducible refine at_mk ?_); with_reducible first | refine gd_tt ?_ | refine gd_ff ?_ | refine gd_tf ?_ | refine gd_ft ?_ | refine gd_no ?_)
    | ((with_reducible refine st_m rfl ?_); (try (conv => arg 1; simp [EndV.cells, hneg])); (with_reducible refine ev2_some ?_))
    | ((with_reducible refine fr_n rfl ?_); (try (conv => arg 1; simp [EndV.cells, hneg])); (with_reducible refine evn_some ?_))
    | ((with_reducible refine fr_a ?_); (try (conv => arg 1; simp [EndV.cells, hneg])); (with_reducible refine at_mk ?_); (try (conv => arg 1; simp [EndV.cells, hneg])); (with_reducible refine at_mk ?_); refine ⟨?names, ?_⟩; (case names => (simp [appNames, ints, intss] <;> first | kernel_rfl | (refine ⟨?_, ?_⟩ <;> kernel_rfl))); (try (conv => arg 1; simp [EndV.cells, hneg])); (with_reducible refine ev2_some ?_))
    | ((with_reducible first | refine st_q ?_ | refine fr_q ?_ | refine st_res ?_); (try (conv => arg 1; simp [EndV.cells, hneg])); (with_reducible refine ev_some ?_))
    | ((with_reducible refine st_if ?_); (try (conv => arg 1; simp [EndV.cells, hneg])); (with_reducible refine at_mk ?_); with_reducible first | refine br_t ?_ | refine br_f ?_))
  exact .int _ _

theorem markEnd {h : Hp} {v : AV} {e : EndV} {ns : List Nm} (ho : ∀ b, OwnV h.rows b v (.agg (e.cells b)) ns) (hns : ∀ n ∈ ns, n.1 < h.tick) (k : Int) (hk : 0 ≤ k) (hl : k + e.Out.length ≤ 2 ^ 62) :
    Sound Try.prog 19 [v, .int .i64 k] h fun r h' => r = .int .i64 (k + e.Out.length) ∧ (∀ b, OwnV h'.rows b v (.agg (EndV.cells b ⟨e.Code, e.Val, marks k e.Out.length⟩)) ns) ∧ (∀ n, n ∉ ns → n.1 < h.tick → h'.rows n = h.rows n) ∧ h.tick ≤ h'.tick := by
  obtain ⟨w, rfl, ow⟩ := ownV_end (ho true)
  have q := own_one ow
  refine enter mixed M Try.func19 rfl (by kernel_rfl) rfl ?_
  repeat' (first
    | (with_reducible first | refine st_seq ?_ | refine st_reg ?_ | refine st_block ?_ | refine st_nil ?_ | refine st_skip ?_ | refine st_ret ?_ | refine st_exit ?_ | refine fr_nil ?_ | refine k_seq_n ?_ | refine k_seq_r ?_ | refine k_seq_e ?_ | refine k_blk_n ?_ | refine k_blk_r ?_ | refine k_blk_s ?_ | refine k_blk_o rfl ?_ | refine k_fn_r ?_ | refine k_fn_n ?_ | refine k_lp_r ?_ | refine k_lp_e ?_)
    | ((with_reducible first | refine st_move ?_ | refine st_asg ?_ | refine st_c ?_ | refine fr_c ?_); (try (conv => arg 1; simp [q.1])); (with_reducible refine at_mk ?_))
    | ((with_reducible first | refine st_g ?_ | refine fr_g ?_); (try (conv => arg 1; simp [q.1])); (with_reducible refine at_mk ?_); with_reducible first | refine gd_tt ?_ | refine gd_ff ?_ | refine gd_tf ?_ | refine gd_ft ?_ | refine gd_no ?_)
    | ((with_reducible refine st_m rfl ?_); (try (conv => arg 1; simp [q.1])); (with_reducible refine ev2_some ?_))
    | ((with_reducible refine fr_n rfl ?_); (try (conv => arg 1; simp [q.1])); (with_reducible refine evn_some ?_))
    | ((with_reducible refine fr_a ?_); (try (conv => arg 1; simp [q.1])); (with_reducible refine at_mk ?_); (try (conv => arg 1; simp [q.1])); (with_reducible refine at_mk ?_); refine ⟨?names, ?_⟩; (case names => (simp [appNames, ints, intss] <;> first | kernel_rfl | (refine ⟨?_, ?_⟩ <;> kernel_rfl))); (try (conv => arg 1; simp [q.1])); (with_reducible refine ev2_some ?_))
    | ((with_reducible first | refine st_q ?_ | refine fr_q ?_ | refine st_res ?_); (try (conv => arg 1; simp [q.1])); (with_reducible refine ev_some ?_))
    | ((with_reducible refine st_if ?_); (try (conv => arg 1; simp [q.1])); (with_reducible refine at_mk ?_); with_reducible first | refine br_t ?_ | refine br_f ?_))
  refine st_heap rfl (markIntS (ow.congr fun n hn => ?_) (fun n hn => ?_) k hk hl) ?_
  · have := hns n hn
    have hne : n ≠ (h.tick, 0, 0) := fun e => by rw [e] at this; simp at this
    simp [hp_next_rows, hp_rows_put, hne]
  · have := hns n hn
    simp [hp_next_tick, hp_put_tick]; omega
  rintro r h' ⟨rfl, o1, p1, t1⟩
  simp only [hp_next_tick, hp_put_tick] at t1
  repeat' (first
    | (with_reducible first | refine st_seq ?_ | refine st_reg ?_ | refine st_block ?_ | refine st_nil ?_ | refine st_skip ?_ | refine st_ret ?_ | refine st_exit ?_ | refine fr_nil ?_ | refine k_seq_n ?_ | refine k_seq_r ?_ | refine k_seq_e ?_ | refine k_blk_n ?_ | refine k_blk_r ?_ | refine k_blk_s ?_ | refine k_blk_o rfl ?_ | refine k_fn_r ?_ | refine k_fn_n ?_ | refine k_lp_r ?_ | refine k_lp_e ?_)
    | ((with_reducible first | refine st_move ?_ | refine st_asg ?_ | refine st_c ?_ | refine fr_c ?_); (try (conv => arg 1; simp [q.1])); (with_reducible refine at_mk ?_))
    | ((with_reducible first | refine st_g ?_ | refine fr_g ?_); (try (conv => arg 1; simp [q.1])); (with_reducible refine at_mk ?_); with_reducible first | refine gd_tt ?_ | refine gd_ff ?_ | refine gd_tf ?_ | refine gd_ft ?_ | refine gd_no ?_)
    | ((with_reducible refine st_m rfl ?_); (try (conv => arg 1; simp [q.1])); (with_reducible refine ev2_some ?_))
    | ((with_reducible refine fr_n rfl ?_); (try (conv => arg 1; simp [q.1])); (with_reducible refine evn_some ?_))
    | ((with_reducible refine fr_a ?_); (try (conv => arg 1; simp [q.1])); (with_reducible refine at_mk ?_); (try (conv => arg 1; simp [q.1])); (with_reducible refine at_mk ?_); refine ⟨?names, ?_⟩; (case names => (simp [appNames, ints, intss] <;> first | kernel_rfl | (refine ⟨?_, ?_⟩ <;> kernel_rfl))); (try (conv => arg 1; simp [q.1])); (with_reducible refine ev2_some ?_))
    | ((with_reducible first | refine st_q ?_ | refine fr_q ?_ | refine st_res ?_); (try (conv => arg 1; simp [q.1])); (with_reducible refine ev_some ?_))
    | ((with_reducible refine st_if ?_); (try (conv => arg 1; simp [q.1])); (with_reducible refine at_mk ?_); with_reducible first | refine br_t ?_ | refine br_f ?_))
  refine ⟨rfl, fun b => .agg (.int _ _ (.int _ _ ((o1 b).congr fun n hn => by simp [hp_next_rows]))), fun n hn hlt => ?_, by simp [hp_next_tick]; omega⟩
  have hne : n ≠ (h.tick, 0, 0) := fun e => by rw [e] at hlt; simp at hlt
  simp only [hp_next_rows]
  rw [p1 n hn]
  simp [hp_next_rows, hp_rows_put, hne]
end Go.Proofs.Ytfgaoojogididaa.AM
