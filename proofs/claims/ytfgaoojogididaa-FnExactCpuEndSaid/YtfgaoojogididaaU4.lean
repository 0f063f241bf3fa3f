/-
  A stepper's state, and how a run ended.
-/
import Derived.Test.YtfgaoojogididaaU3
set_option linter.unusedVariables false
set_option linter.unusedSimpArgs false
set_option maxRecDepth 4000
namespace Go.Proofs.Ytfgaoojogididaa.AM
open Go.RowKit

private def M : FuncId → Mode := fun f => if f = 27 ∨ f = 49 ∨ f = 50 then .fresh else if f = 33 ∨ f = 52 then .heap else .tree

structure Cpu where
  At : Int
  Regs : List Int
  Slots : List Int
  Mem : List (List Int)
  Input : List Int
  Out : List Int
  Code : Int
  Over : Bool
  Val : Int
def Cpu.cells (b : Bool) (c : Cpu) : List AV := [.int .i64 c.At, ints b c.Regs, ints b c.Slots, intss b c.Mem, ints b c.Input, ints b c.Out, .int .i64 c.Code, .bool c.Over, .int .i64 c.Val]
structure EndV where
  Code : Int
  Val : Int
  Out : List Int
def EndV.cells (b : Bool) (c : EndV) : List AV := [.int .i64 c.Code, .int .i64 c.Val, ints b c.Out]
def endOf (c : Cpu) : EndV := { Code := if c.Code = 0 ∧ c.Over = false then 2 else c.Code, Val := if c.Over = true ∧ c.Code = 0 then c.Val else 0, Out := c.Out }

theorem dr_agg {c : Bool} {rows : Nm → Option Row} {as' ts : List AV} (h : DRs c rows as' ts) : DR c rows (.agg as') (.agg ts) := .agg _ _ h.1 h.2
theorem dr_ptr0 {c : Bool} {rows : Nm → Option Row} {n : Nm} {ver : Nat} {r : Row} {cs ts : List AV} (h1 : rows n = some r) (h2 : r.ver = ver) (h3 : r.elems[0]? = some cs) (h : DRs c rows cs ts) : DR c rows (.ptr n ver 0 0) (.tptr c ts) :=
  .ptr n ver 0 0 r cs ts h1 h2 h3 (by simpa using h.1) (fun j x y hx hy => h.2 j x y (by simpa using hx) hy)
theorem drs_cpu (c : Cpu) {b b' : Bool} (hb : b = true → b' = true) {rows : Nm → Option Row} : DRs b' rows (c.cells b) (c.cells b') :=
  .cons (.int _ _) (.cons (dr_ints hb _) (.cons (dr_ints hb _) (.cons (dr_intss hb _) (.cons (dr_ints hb _) (.cons (dr_ints hb _) (.cons (.int _ _) (.cons (.bool _) (.cons (.int _ _) .nil))))))))
theorem drs_end (c : EndV) {b b' : Bool} (hb : b = true → b' = true) {rows : Nm → Option Row} : DRs b' rows (c.cells b) (c.cells b') :=
  .cons (.int _ _) (.cons (.int _ _) (.cons (dr_ints hb _) .nil))

theorem l15Runs (c : Cpu) : Pure Try.prog 48 [.agg (c.cells true)] (.bool (decide (c.Code = 0) && !c.Over)) := by
  intro T
  refine enter mixed M Try.func48 rfl (by kernel_rfl) rfl ?_
  by_cases hz : c.Code = 0
  · skip
    repeat' (first
      | (with_reducible first | refine st_seq ?_ | refine st_reg ?_ | refine st_block ?_ | refine st_nil ?_ | refine st_skip ?_ | refine st_ret ?_ | refine st_exit ?_ | refine fr_nil ?_ | refine k_seq_n ?_ | refine k_seq_r ?_ | refine k_seq_e ?_ | refine k_blk_n ?_ | refine k_blk_r ?_ | refine k_blk_s ?_ | refine k_blk_o rfl ?_ | refine k_fn_r ?_ | refine k_fn_n ?_ | refine k_lp_r ?_ | refine k_lp_e ?_)
      | ((with_reducible first | refine st_move ?_ | refine st_asg ?_ | refine st_c ?_ | refine fr_c ?_); (try (conv => arg 1; simp [Cpu.cells, hz])); (with_reducible refine at_mk ?_))
      | ((with_reducible first | refine st_g ?_ | refine fr_g ?_); (try (conv => arg 1; simp [Cpu.cells, hz])); (with_reducible refine at_mk ?_); with_reducible first | refine gd_tt ?_ | refine gd_ff ?_ | refine gd_tf ?_ | refine gd_ft ?_ | refine gd_no ?_)
      | ((with_reducible refine st_m rfl ?_); (try (conv => arg 1; simp [Cpu.cells, hz])); (with_reducible refine ev2_some ?_))
      | ((with_reducible refine fr_n rfl ?_); (try (conv => arg 1; simp [Cpu.cells, hz])); (with_reducible refine evn_some ?_))
      | ((with_reducible refine fr_a ?_); (try (conv => arg 1; simp [Cpu.cells, hz])); (with_reducible refine at_mk ?_); (try (conv => arg 1; simp [Cpu.cells, hz])); (with_reducible refine at_mk ?_); refine ⟨?names, ?_⟩; (case names => (simp [appNames, ints, intss] <;> first | kernel_rfl | (refine ⟨?_, ?_⟩ <;> kernel_rfl))); (try (conv => arg 1; simp [Cpu.cells, hz])); (with_reducible refine ev2_some ?_))
      | ((with_reducible first | refine st_q ?_ | refine fr_q ?_ | refine st_res ?_); (try (conv => arg 1; simp [Cpu.cells, hz])); (with_reducible refine ev_some ?_))
      | ((with_reducible refine st_if ?_); (try (conv => arg 1; simp [Cpu.cells, hz])); (with_reducible refine at_mk ?_); with_reducible first | refine br_t ?_ | refine br_f ?_))
    simp [resV, hz]; exact .bool _
  · skip
    repeat' (first
      | (with_reducible first | refine st_seq ?_ | refine st_reg ?_ | refine st_block ?_ | refine st_nil ?_ | refine st_skip ?_ | refine st_ret ?_ | refine st_exit ?_ | refine fr_nil ?_ | refine k_seq_n ?_ | refine k_seq_r ?_ | refine k_seq_e ?_ | refine k_blk_n ?_ | refine k_blk_r ?_ | refine k_blk_s ?_ | refine k_blk_o rfl ?_ | refine k_fn_r ?_ | refine k_fn_n ?_ | refine k_lp_r ?_ | refine k_lp_e ?_)
      | ((with_reducible first | refine st_move ?_ | refine st_asg ?_ | refine st_c ?_ | refine fr_c ?_); (try (conv => arg 1; simp [Cpu.cells, hz])); (with_reducible refine at_mk ?_))
      | ((with_reducible first | refine st_g ?_ | refine fr_g ?_); (try (conv => arg 1; simp [Cpu.cells, hz])); (with_reducible refine at_mk ?_); with_reducible first | refine gd_tt ?_ | refine gd_ff ?_ | refine gd_tf ?_ | refine gd_ft ?_ | refine gd_no ?_)
      | ((with_reducible refine st_m rfl ?_); (try (conv => arg 1; simp [Cpu.cells, hz])); (with_reducible refine ev2_some ?_))
      | ((with_reducible refine fr_n rfl ?_); (try (conv => arg 1; simp [Cpu.cells, hz])); (with_reducible refine evn_some ?_))
      | ((with_reducible refine fr_a ?_); (try (conv => arg 1; simp [Cpu.cells, hz])); (with_reducible refine at_mk ?_); (try (conv => arg 1; simp [Cpu.cells, hz])); (with_reducible refine at_mk ?_); refine ⟨?names, ?_⟩; (case names => (simp [appNames, ints, intss] <;> first | kernel_rfl | (refine ⟨?_, ?_⟩ <;> kernel_rfl))); (try (conv => arg 1; simp [Cpu.cells, hz])); (with_reducible refine ev2_some ?_))
      | ((with_reducible first | refine st_q ?_ | refine fr_q ?_ | refine st_res ?_); (try (conv => arg 1; simp [Cpu.cells, hz])); (with_reducible refine ev_some ?_))
      | ((with_reducible refine st_if ?_); (try (conv => arg 1; simp [Cpu.cells, hz])); (with_reducible refine at_mk ?_); with_reducible first | refine br_t ?_ | refine br_f ?_))
    simp [resV, hz]; exact .bool _

theorem runs (c : Cpu) : Pure Try.prog 71 [.tptr true (c.cells true)] (.bool (decide (c.Code = 0) && !c.Over)) := by
  intro T
  refine enter mixed M Try.func71 rfl (by kernel_rfl) rfl ?_
  by_cases hz : c.Code = 0
  · skip
    repeat' (first
      | (with_reducible first | refine st_seq ?_ | refine st_reg ?_ | refine st_block ?_ | refine st_nil ?_ | refine st_skip ?_ | refine st_ret ?_ | refine st_exit ?_ | refine fr_nil ?_ | refine k_seq_n ?_ | refine k_seq_r ?_ | refine k_seq_e ?_ | refine k_blk_n ?_ | refine k_blk_r ?_ | refine k_blk_s ?_ | refine k_blk_o rfl ?_ | refine k_fn_r ?_ | refine k_fn_n ?_ | refine k_lp_r ?_ | refine k_lp_e ?_)
      | ((with_reducible first | refine st_move ?_ | refine st_asg ?_ | refine st_c ?_ | refine fr_c ?_); (try (conv => arg 1; simp [Cpu.cells, hz])); (with_reducible refine at_mk ?_))
      | ((with_reducible first | refine st_g ?_ | refine fr_g ?_); (try (conv => arg 1; simp [Cpu.cells, hz])); (with_reducible refine at_mk ?_); with_reducible first | refine gd_tt ?_ | refine gd_ff ?_ | refine gd_tf ?_ | refine gd_ft ?_ | refine gd_no ?_)
      | ((with_reducible refine st_m rfl ?_); (try (conv => arg 1; simp [Cpu.cells, hz])); (with_reducible refine ev2_some ?_))
      | ((with_reducible refine fr_n rfl ?_); (try (conv => arg 1; simp [Cpu.cells, hz])); (with_reducible refine evn_some ?_))
      | ((with_reducible refine fr_a ?_); (try (conv => arg 1; simp [Cpu.cells, hz])); (with_reducible refine at_mk ?_); (try (conv => arg 1; simp [Cpu.cells, hz])); (with_reducible refine at_mk ?_); refine ⟨?names, ?_⟩; (case names => (simp [appNames, ints, intss] <;> first | kernel_rfl | (refine ⟨?_, ?_⟩ <;> kernel_rfl))); (try (conv => arg 1; simp [Cpu.cells, hz])); (with_reducible refine ev2_some ?_))
      | ((with_reducible first | refine st_q ?_ | refine fr_q ?_ | refine st_res ?_); (try (conv => arg 1; simp [Cpu.cells, hz])); (with_reducible refine ev_some ?_))
      | ((with_reducible refine st_if ?_); (try (conv => arg 1; simp [Cpu.cells, hz])); (with_reducible refine at_mk ?_); with_reducible first | refine br_t ?_ | refine br_f ?_))
    simp [resV, hz]; exact .bool _
  · skip
    repeat' (first
      | (with_reducible first | refine st_seq ?_ | refine st_reg ?_ | refine st_block ?_ | refine st_nil ?_ | refine st_skip ?_ | refine st_ret ?_ | refine st_exit ?_ | refine fr_nil ?_ | refine k_seq_n ?_ | refine k_seq_r ?_ | refine k_seq_e ?_ | refine k_blk_n ?_ | refine k_blk_r ?_ | refine k_blk_s ?_ | refine k_blk_o rfl ?_ | refine k_fn_r ?_ | refine k_fn_n ?_ | refine k_lp_r ?_ | refine k_lp_e ?_)
      | ((with_reducible first | refine st_move ?_ | refine st_asg ?_ | refine st_c ?_ | refine fr_c ?_); (try (conv => arg 1; simp [Cpu.cells, hz])); (with_reducible refine at_mk ?_))
      | ((with_reducible first | refine st_g ?_ | refine fr_g ?_); (try (conv => arg 1; simp [Cpu.cells, hz])); (with_reducible refine at_mk ?_); with_reducible first | refine gd_tt ?_ | refine gd_ff ?_ | refine gd_tf ?_ | refine gd_ft ?_ | refine gd_no ?_)
      | ((with_reducible refine st_m rfl ?_); (try (conv => arg 1; simp [Cpu.cells, hz])); (with_reducible refine ev2_some ?_))
      | ((with_reducible refine fr_n rfl ?_); (try (conv => arg 1; simp [Cpu.cells, hz])); (with_reducible refine evn_some ?_))
      | ((with_reducible refine fr_a ?_); (try (conv => arg 1; simp [Cpu.cells, hz])); (with_reducible refine at_mk ?_); (try (conv => arg 1; simp [Cpu.cells, hz])); (with_reducible refine at_mk ?_); refine ⟨?names, ?_⟩; (case names => (simp [appNames, ints, intss] <;> first | kernel_rfl | (refine ⟨?_, ?_⟩ <;> kernel_rfl))); (try (conv => arg 1; simp [Cpu.cells, hz])); (with_reducible refine ev2_some ?_))
      | ((with_reducible first | refine st_q ?_ | refine fr_q ?_ | refine st_res ?_); (try (conv => arg 1; simp [Cpu.cells, hz])); (with_reducible refine ev_some ?_))
      | ((with_reducible refine st_if ?_); (try (conv => arg 1; simp [Cpu.cells, hz])); (with_reducible refine at_mk ?_); with_reducible first | refine br_t ?_ | refine br_f ?_))
    simp [resV, hz]; exact .bool _

theorem specCpuEnd (c : Cpu) (hl : c.Out.length ≤ 2 ^ 20) : Pure Try.prog 13 [.agg (c.cells true)] (.agg ((endOf c).cells false)) := by
  obtain ⟨At, Regs, Slots, Mem, Input, Out, Code, Over, Val⟩ := c
  simp only at hl
  intro T
  have hl2 : Out.length ≤ 4294967296 := by omega
  refine enter mixed M Try.func13 rfl (by kernel_rfl) rfl ?_
  by_cases hz : Code = 0
  all_goals try subst hz
  all_goals cases Over
  all_goals
    repeat' (first
      | (with_reducible first | refine st_seq ?_ | refine st_reg ?_ | refine st_block ?_ | refine st_nil ?_ | refine st_skip ?_ | refine st_ret ?_ | refine st_exit ?_ | refine fr_nil ?_ | refine k_seq_n ?_ | refine k_seq_r ?_ | refine k_seq_e ?_ | refine k_blk_n ?_ | refine k_blk_r ?_ | refine k_blk_s ?_ | refine k_blk_o rfl ?_ | refine k_fn_r ?_ | refine k_fn_n ?_ | refine k_lp_r ?_ | refine k_lp_e ?_)
      | ((with_reducible first | refine st_move ?_ | refine st_asg ?_ | refine st_c ?_ | refine fr_c ?_); (try (conv => arg 1; simp [Cpu.cells, *])); (with_reducible refine at_mk ?_))
      | ((with_reducible first | refine st_g ?_ | refine fr_g ?_); (try (conv => arg 1; simp [Cpu.cells, *])); (with_reducible refine at_mk ?_); with_reducible first | refine gd_tt ?_ | refine gd_ff ?_ | refine gd_tf ?_ | refine gd_ft ?_ | refine gd_no ?_)
      | ((with_reducible refine st_m rfl ?_); (try (conv => arg 1; simp [Cpu.cells, *])); (with_reducible refine ev2_some ?_))
      | ((with_reducible refine fr_n rfl ?_); (try (conv => arg 1; simp [Cpu.cells, *])); (with_reducible refine evn_some ?_))
      | ((with_reducible refine fr_a ?_); (try (conv => arg 1; simp [Cpu.cells, *])); (with_reducible refine at_mk ?_); (try (conv => arg 1; simp [Cpu.cells, *])); (with_reducible refine at_mk ?_); refine ⟨?names, ?_⟩; (case names => (simp [appNames, ints, intss] <;> first | kernel_rfl | (refine ⟨?_, ?_⟩ <;> kernel_rfl))); (try (conv => arg 1; simp [Cpu.cells, *])); (with_reducible refine ev2_some ?_))
      | ((with_reducible first | refine st_q ?_ | refine fr_q ?_ | refine st_res ?_); (try (conv => arg 1; simp [Cpu.cells, *])); (with_reducible refine ev_some ?_))
      | ((with_reducible refine st_if ?_); (try (conv => arg 1; simp [Cpu.cells, *])); (with_reducible refine at_mk ?_); with_reducible first | refine br_t ?_ | refine br_f ?_))
    refine st_tree rfl (l15Runs ⟨At, Regs, Slots, Mem, Input, Out, _, _, Val⟩) (.cons (dr_agg (drs_cpu _ (fun _ => rfl))) .nil) ?_
    repeat' (first
      | (with_reducible first | refine st_seq ?_ | refine st_reg ?_ | refine st_block ?_ | refine st_nil ?_ | refine st_skip ?_ | refine st_ret ?_ | refine st_exit ?_ | refine fr_nil ?_ | refine k_seq_n ?_ | refine k_seq_r ?_ | refine k_seq_e ?_ | refine k_blk_n ?_ | refine k_blk_r ?_ | refine k_blk_s ?_ | refine k_blk_o rfl ?_ | refine k_fn_r ?_ | refine k_fn_n ?_ | refine k_lp_r ?_ | refine k_lp_e ?_)
      | ((with_reducible first | refine st_move ?_ | refine st_asg ?_ | refine st_c ?_ | refine fr_c ?_); (try (conv => arg 1; simp [Cpu.cells, *])); (with_reducible refine at_mk ?_))
      | ((with_reducible first | refine st_g ?_ | refine fr_g ?_); (try (conv => arg 1; simp [Cpu.cells, *])); (with_reducible refine at_mk ?_); with_reducible first | refine gd_tt ?_ | refine gd_ff ?_ | refine gd_tf ?_ | refine gd_ft ?_ | refine gd_no ?_)
      | ((with_reducible refine st_m rfl ?_); (try (conv => arg 1; simp [Cpu.cells, *])); (with_reducible refine ev2_some ?_))
      | ((with_reducible refine fr_n rfl ?_); (try (conv => arg 1; simp [Cpu.cells, *])); (with_reducible refine evn_some ?_))
      | ((with_reducible refine fr_a ?_); (try (conv => arg 1; simp [Cpu.cells, *])); (with_reducible refine at_mk ?_); (try (conv => arg 1; simp [Cpu.cells, *])); (with_reducible refine at_mk ?_); refine ⟨?names, ?_⟩; (case names => (simp [appNames, ints, intss] <;> first | kernel_rfl | (refine ⟨?_, ?_⟩ <;> kernel_rfl))); (try (conv => arg 1; simp [Cpu.cells, *])); (with_reducible refine ev2_some ?_))
      | ((with_reducible first | refine st_q ?_ | refine fr_q ?_ | refine st_res ?_); (try (conv => arg 1; simp [Cpu.cells, *])); (with_reducible refine ev_some ?_))
      | ((with_reducible refine st_if ?_); (try (conv => arg 1; simp [Cpu.cells, *])); (with_reducible refine at_mk ?_); with_reducible first | refine br_t ?_ | refine br_f ?_))
    conv => arg 4; simp [endOf, EndV.cells, *]
    refine dr_agg (.cons (.int _ _) (.cons (.int _ _) (.cons ?_ .nil)))
    refine (own_ints (ys := Out) ?_ List.take_length rfl).dr 0 _ _ rfl rfl
    simp [hp_next_rows, hp_rows_put]
end Go.Proofs.Ytfgaoojogididaa.AM
