/-
  How a run ended: the implementation's own.
-/
import Derived.Test.YtfgaoojogididaaU4
set_option linter.unusedVariables false
set_option linter.unusedSimpArgs false
set_option maxRecDepth 4000
namespace Go.Proofs.Ytfgaoojogididaa.AM
open Go.RowKit

private def M : FuncId → Mode := fun f => if f = 50 then .fresh else .tree

theorem dr_tptr {rows : Nm → Option Row} {cs ts : List AV} (h : DRs true rows cs ts) : DR true rows (.tptr true cs) (.tptr true ts) := .tptr true cs ts (fun h => h) h.1 h.2

theorem cpuEnd (c : Cpu) (hl : c.Out.length ≤ 2 ^ 20) : Fresh Try.prog 50 [.tptr true (c.cells true)] (fun b => .agg ((endOf c).cells b)) := by
  obtain ⟨At, Regs, Slots, Mem, Input, Out, Code, Over, Val⟩ := c
  simp only at hl
  intro T
  have hl2 : Out.length ≤ 4294967296 := by omega
  refine enter mixed M Try.func50 rfl (by kernel_rfl) rfl ?_
  by_cases hz : Code = 0
  all_goals try subst hz
  all_goals cases Over
  all_goals
    repeat' (first
      | (with_reducible first | refine st_seq ?_ | refine st_reg ?_ | refine st_block ?_ | refine st_nil ?_ | refine st_skip ?_ | refine st_ret ?_ | refine st_exit ?_ | refine fr_nil ?_ | refine k_seq_n ?_ | refine k_seq_r ?_ | refine k_seq_e ?_ | refine k_blk_n ?_ | refine k_blk_r ?_ | refine k_blk_s ?_ | refine k_blk_o rfl ?_ | refine k_fn_r ?_ | refine k_fn_n ?_ | refine k_lp_r ?_ | refine k_lp_e ?_)
      | ((with_reducible first | refine st_move ?_ | refine st_asg ?_ | refine st_c ?_ | refine fr_c ?_); (try (conv => arg 1; simp [Cpu.cells, *])); (with_reducible refine at_mk ?_))
      | ((with_reducible first | refine st_g ?_ | refine fr_g ?_); (try (conv => arg 1; simp [Cpu.cells, *])); (with_reducible refine at_mk ?_); with_reducible first | refine gd_tt ?_ | refine gd_ff ?_ | refine gd_tf ?_ | refine gd_ft ?_ | refine gd_no ?_)
      | ((with_reducible refine st_m rfl ?_); (try (conv => arg 1; simp [Cpu.cells, *])); (with_reducible refine ev2_some ?_))
      | ((with_reducible refine fr_n rfl ?_); (try (conv => arg 1; simp [Cpu.cells, *])); (with_reducible refine evn_some ?_))
      | ((with_reducible refine fr_a ?_); (try (conv => arg 1; simp [Cpu.cells, *])); (with_reducible refine at_mk ?_); (try (conv => arg 1; simp [Cpu.cells, *])); (with_reducible refine at_mk ?_); refine ⟨?names, ?_⟩; (case names => (simp [appNames, ints, intss] <;> first | kernel_rfl | (refine ⟨?_, ?_⟩ <;> kernel_rfl))); (try (conv => arg 1; simp [Cpu.cells, *])); (with_reducible refine ev2_some ?_))
      | ((with_reducible first | refine st_q ?_ | refine fr_q ?_ | refine st_res ?_); (try (conv => arg 1; simp [Cpu.cells, *])); (with_reducible refine ev_some ?_))
      | ((with_reducible refine st_if ?_); (try (conv => arg 1; simp [Cpu.cells, *])); (with_reducible refine at_mk ?_); with_reducible first | refine br_t ?_ | refine br_f ?_))
    refine st_draw 12 (fun _ => false) (by kernel_rfl) ?_
    simp only [List.take_succ_cons, List.take_zero, List.drop_succ_cons, List.drop_zero, List.take_nil, List.drop_nil]
    repeat' (first
      | (with_reducible first | refine st_seq ?_ | refine st_reg ?_ | refine st_block ?_ | refine st_nil ?_ | refine st_skip ?_ | refine st_ret ?_ | refine st_exit ?_ | refine fr_nil ?_ | refine k_seq_n ?_ | refine k_seq_r ?_ | refine k_seq_e ?_ | refine k_blk_n ?_ | refine k_blk_r ?_ | refine k_blk_s ?_ | refine k_blk_o rfl ?_ | refine k_fn_r ?_ | refine k_fn_n ?_ | refine k_lp_r ?_ | refine k_lp_e ?_)
      | ((with_reducible first | refine st_move ?_ | refine st_asg ?_ | refine st_c ?_ | refine fr_c ?_); (try (conv => arg 1; simp [Cpu.cells, *])); (with_reducible refine at_mk ?_))
      | ((with_reducible first | refine st_g ?_ | refine fr_g ?_); (try (conv => arg 1; simp [Cpu.cells, *])); (with_reducible refine at_mk ?_); with_reducible first | refine gd_tt ?_ | refine gd_ff ?_ | refine gd_tf ?_ | refine gd_ft ?_ | refine gd_no ?_)
      | ((with_reducible refine st_m rfl ?_); (try (conv => arg 1; simp [Cpu.cells, *])); (with_reducible refine ev2_some ?_))
      | ((with_reducible refine fr_n rfl ?_); (try (conv => arg 1; simp [Cpu.cells, *])); (with_reducible refine evn_some ?_))
      | ((with_reducible refine fr_a ?_); (try (conv => arg 1; simp [Cpu.cells, *])); (with_reducible refine at_mk ?_); (try (conv => arg 1; simp [Cpu.cells, *])); (with_reducible refine at_mk ?_); refine ⟨?names, ?_⟩; (case names => (simp [appNames, ints, intss] <;> first | kernel_rfl | (refine ⟨?_, ?_⟩ <;> kernel_rfl))); (try (conv => arg 1; simp [Cpu.cells, *])); (with_reducible refine ev2_some ?_))
      | ((with_reducible first | refine st_q ?_ | refine fr_q ?_ | refine st_res ?_); (try (conv => arg 1; simp [Cpu.cells, *])); (with_reducible refine ev_some ?_))
      | ((with_reducible refine st_if ?_); (try (conv => arg 1; simp [Cpu.cells, *])); (with_reducible refine at_mk ?_); with_reducible first | refine br_t ?_ | refine br_f ?_))
    refine st_tree rfl (runs ⟨At, Regs, Slots, Mem, Input, Out, _, _, Val⟩) (.cons (dr_tptr (drs_cpu _ (fun _ => rfl))) .nil) ?_
    repeat' (first
      | (with_reducible first | refine st_seq ?_ | refine st_reg ?_ | refine st_block ?_ | refine st_nil ?_ | refine st_skip ?_ | refine st_ret ?_ | refine st_exit ?_ | refine fr_nil ?_ | refine k_seq_n ?_ | refine k_seq_r ?_ | refine k_seq_e ?_ | refine k_blk_n ?_ | refine k_blk_r ?_ | refine k_blk_s ?_ | refine k_blk_o rfl ?_ | refine k_fn_r ?_ | refine k_fn_n ?_ | refine k_lp_r ?_ | refine k_lp_e ?_)
      | ((with_reducible first | refine st_move ?_ | refine st_asg ?_ | refine st_c ?_ | refine fr_c ?_); (try (conv => arg 1; simp [Cpu.cells, *])); (with_reducible refine at_mk ?_))
      | ((with_reducible first | refine st_g ?_ | refine fr_g ?_); (try (conv => arg 1; simp [Cpu.cells, *])); (with_reducible refine at_mk ?_); with_reducible first | refine gd_tt ?_ | refine gd_ff ?_ | refine gd_tf ?_ | refine gd_ft ?_ | refine gd_no ?_)
      | ((with_reducible refine st_m rfl ?_); (try (conv => arg 1; simp [Cpu.cells, *])); (with_reducible refine ev2_some ?_))
      | ((with_reducible refine fr_n rfl ?_); (try (conv => arg 1; simp [Cpu.cells, *])); (with_reducible refine evn_some ?_))
      | ((with_reducible refine fr_a ?_); (try (conv => arg 1; simp [Cpu.cells, *])); (with_reducible refine at_mk ?_); (try (conv => arg 1; simp [Cpu.cells, *])); (with_reducible refine at_mk ?_); refine ⟨?names, ?_⟩; (case names => (simp [appNames, ints, intss] <;> first | kernel_rfl | (refine ⟨?_, ?_⟩ <;> kernel_rfl))); (try (conv => arg 1; simp [Cpu.cells, *])); (with_reducible refine ev2_some ?_))
      | ((with_reducible first | refine st_q ?_ | refine fr_q ?_ | refine st_res ?_); (try (conv => arg 1; simp [Cpu.cells, *])); (with_reducible refine ev_some ?_))
      | ((with_reducible refine st_if ?_); (try (conv => arg 1; simp [Cpu.cells, *])); (with_reducible refine at_mk ?_); with_reducible first | refine br_t ?_ | refine br_f ?_))
    refine ⟨by simp [hp_next_tick, hp_put_tick, hp_mt_tick] <;> omega, [(T + 1, 4, 0)], fun b => ?_, by simp, by simp [hp_next_tick, hp_put_tick, hp_mt_tick] <;> omega⟩
    simp only [resV]
    conv => arg 4; simp [endOf, EndV.cells, *]
    refine .agg (.int _ _ (.int _ _ ?_))
    refine own_ints (ys := Out) ?_ List.take_length rfl
    simp [hp_next_rows, hp_rows_put]
end Go.Proofs.Ytfgaoojogididaa.AM
