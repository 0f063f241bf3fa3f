/-
  How a run ended: equal, marked, held.
-/
import Derived.Test.YtfgaoojogididaaU5
set_option linter.unusedVariables false
set_option linter.unusedSimpArgs false
set_option maxRecDepth 4000
namespace Go.Proofs.Ytfgaoojogididaa.AM
open Go.RowKit

private def M : FuncId → Mode := fun f => if f = 50 then .fresh else if f = 33 then .heap else .tree

theorem ownV_end {rows : Nm → Option Row} {b : Bool} {v : AV} {e : EndV} {ns : List Nm} (h : OwnV rows b v (.agg (e.cells b)) ns) : ∃ w, v = .agg [.int .i64 e.Code, .int .i64 e.Val, w] ∧ Own rows b [w] [ints b e.Out] ns := by
  generalize ht : AV.agg (e.cells b) = t at h
  cases h with
  | one h => subst ht; unfold EndV.cells at h; cases h
  | @agg l _ _ h =>
    cases ht
    unfold EndV.cells at h
    have hl := h.length
    match l, hl, h with
    | [a1, a2, w], _, h =>
      cases h with
      | int _ _ h => cases h with
        | int _ _ h => exact ⟨w, rfl, h⟩
  | tup2 => cases ht

theorem implCpuEnd (c : Cpu) (hl : c.Out.length ≤ 2 ^ 20) : Fresh Try.prog 15 [.agg (c.cells true)] (fun b => .agg ((endOf c).cells b)) := by
  obtain ⟨At, Regs, Slots, Mem, Input, Out, Code, Over, Val⟩ := c
  intro T
  refine enter mixed M Try.func15 rfl (by kernel_rfl) rfl ?_
  repeat' (first
    | (with_reducible first | refine st_seq ?_ | refine st_reg ?_ | refine st_block ?_ | refine st_nil ?_ | refine st_skip ?_ | refine st_ret ?_ | refine st_exit ?_ | refine fr_nil ?_ | refine k_seq_n ?_ | refine k_seq_r ?_ | refine k_seq_e ?_ | refine k_blk_n ?_ | refine k_blk_r ?_ | refine k_blk_s ?_ | refine k_blk_o rfl ?_ | refine k_fn_r ?_ | refine k_fn_n ?_ | refine k_lp_r ?_ | refine k_lp_e ?_)
    | ((with_reducible first | refine st_move ?_ | refine st_asg ?_ | refine st_c ?_ | refine fr_c ?_); (try (conv => arg 1; simp [Cpu.cells])); (with_reducible refine at_mk ?_))
    | ((with_reducible first | refine st_g ?_ | refine fr_g ?_); (try (conv => arg 1; simp [Cpu.cells])); (with_reducible refine at_mk ?_); with_reducible first | refine gd_tt ?_ | refine gd_ff ?_ | refine gd_tf ?_ | refine gd_ft ?_ | refine gd_no ?_)
    | ((with_reducible refine st_m rfl ?_); (try (conv => arg 1; simp [Cpu.cells])); (with_reducible refine ev2_some ?_))
    | ((with_reducible refine fr_n rfl ?_); (try (conv => arg 1; simp [Cpu.cells])); (with_reducible refine evn_some ?_))
    | ((with_reducible refine fr_a ?_); (try (conv => arg 1; simp [Cpu.cells])); (with_reducible refine at_mk ?_); (try (conv => arg 1; simp [Cpu.cells])); (with_reducible refine at_mk ?_); refine ⟨?names, ?_⟩; (case names => (simp [appNames, ints, intss] <;> first | kernel_rfl | (refine ⟨?_, ?_⟩ <;> kernel_rfl))); (try (conv => arg 1; simp [Cpu.cells])); (with_reducible refine ev2_some ?_))
    | ((with_reducible first | refine st_q ?_ | refine fr_q ?_ | refine st_res ?_); (try (conv => arg 1; simp [Cpu.cells])); (with_reducible refine ev_some ?_))
    | ((with_reducible refine st_if ?_); (try (conv => arg 1; simp [Cpu.cells])); (with_reducible refine at_mk ?_); with_reducible first | refine br_t ?_ | refine br_f ?_))
  refine st_fresh rfl (cpuEnd ⟨At, Regs, Slots, Mem, Input, Out, Code, Over, Val⟩ hl) (.cons (dr_ptr0 (r := ⟨0, 9, [Cpu.cells true ⟨At, Regs, Slots, Mem, Input, Out, Code, Over, Val⟩]⟩) (by simp [hp_next_rows, hp_rows_put, Cpu.cells]) rfl rfl (drs_cpu _ (fun _ => rfl))) .nil) ?_
  intro v h' ns o1 d1 f1 p1 t1
  obtain ⟨w, rfl, ow⟩ := ownV_end (o1 true)
  have q := own_one ow
  have hr : h'.rows (T, 1, 0) = some ⟨0, 3, [[.int .i64 0, .int .i64 0, .nilsl]]⟩ := by
    rw [p1 _ (by simp [hp_next_tick, hp_put_tick, hp_mt_tick] <;> omega)]
    simp [hp_next_rows, hp_rows_put]
  simp only [hp_next_tick, hp_put_tick, hp_mt_tick] at f1 t1
  have ht : T < h'.tick := by omega
  repeat' (first
    | (with_reducible first | refine st_seq ?_ | refine st_reg ?_ | refine st_block ?_ | refine st_nil ?_ | refine st_skip ?_ | refine st_ret ?_ | refine st_exit ?_ | refine fr_nil ?_ | refine k_seq_n ?_ | refine k_seq_r ?_ | refine k_seq_e ?_ | refine k_blk_n ?_ | refine k_blk_r ?_ | refine k_blk_s ?_ | refine k_blk_o rfl ?_ | refine k_fn_r ?_ | refine k_fn_n ?_ | refine k_lp_r ?_ | refine k_lp_e ?_)
    | ((with_reducible first | refine st_move ?_ | refine st_asg ?_ | refine st_c ?_ | refine fr_c ?_); (try (conv => arg 1; simp [hr, ht, q.1])); (with_reducible refine at_mk ?_))
    | ((with_reducible first | refine st_g ?_ | refine fr_g ?_); (try (conv => arg 1; simp [hr, ht, q.1])); (with_reducible refine at_mk ?_); with_reducible first | refine gd_tt ?_ | refine gd_ff ?_ | refine gd_tf ?_ | refine gd_ft ?_ | refine gd_no ?_)
    | ((with_reducible refine st_m rfl ?_); (try (conv => arg 1; simp [hr, ht, q.1])); (with_reducible refine ev2_some ?_))
    | ((with_reducible refine fr_n rfl ?_); (try (conv => arg 1; simp [hr, ht, q.1])); (with_reducible refine evn_some ?_))
    | ((with_reducible refine fr_a ?_); (try (conv => arg 1; simp [hr, ht, q.1])); (with_reducible refine at_mk ?_); (try (conv => arg 1; simp [hr, ht, q.1])); (with_reducible refine at_mk ?_); refine ⟨?names, ?_⟩; (case names => (simp [appNames, ints, intss] <;> first | kernel_rfl | (refine ⟨?_, ?_⟩ <;> kernel_rfl))); (try (conv => arg 1; simp [hr, ht, q.1])); (with_reducible refine ev2_some ?_))
    | ((with_reducible first | refine st_q ?_ | refine fr_q ?_ | refine st_res ?_); (try (conv => arg 1; simp [hr, ht, q.1])); (with_reducible refine ev_some ?_))
    | ((with_reducible refine st_if ?_); (try (conv => arg 1; simp [hr, ht, q.1])); (with_reducible refine at_mk ?_); with_reducible first | refine br_t ?_ | refine br_f ?_))
  refine ⟨by simp [hp_next_tick, hp_put_tick] <;> omega, ns, fun b => ?_, d1, fun n hn => by have := f1 n hn; simp [hp_next_tick, hp_put_tick]; omega⟩
  simp only [resV]
  refine (o1 b).congr fun n hn => ?_
  have := f1 n hn
  have hne : n ≠ (T, 1, 0) := fun e => by rw [e] at this; simp at this; omega
  simp [hp_rows_put, hne]
end Go.Proofs.Ytfgaoojogididaa.AM
