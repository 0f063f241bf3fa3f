/-
  A stepper's state: a copy.
-/
import Derived.Test.YtfgaoojogididaaU9
set_option linter.unusedVariables false
set_option linter.unusedSimpArgs false
set_option maxRecDepth 4000
namespace Go.Proofs.Ytfgaoojogididaa.AM
open Go.RowKit

private def M : FuncId → Mode := fun f => if f = 27 ∨ f = 49 then .fresh else .tree

theorem toCpu (c : Cpu) (hs : c.Small) : Fresh Try.prog 14 [.agg (c.cells true)] (fun b => .agg (c.cells b)) := by
  intro T
  refine enter mixed M Try.func14 rfl (by kernel_rfl) rfl ?_
  repeat' (first
    | (with_reducible first | refine st_seq ?_ | refine st_reg ?_ | refine st_block ?_ | refine st_nil ?_ | refine st_skip ?_ | refine st_ret ?_ | refine st_exit ?_ | refine fr_nil ?_ | refine k_seq_n ?_ | refine k_seq_r ?_ | refine k_seq_e ?_ | refine k_blk_n ?_ | refine k_blk_r ?_ | refine k_blk_s ?_ | refine k_blk_o rfl ?_ | refine k_fn_r ?_ | refine k_fn_n ?_ | refine k_lp_r ?_ | refine k_lp_e ?_)
    | ((with_reducible first | refine st_move ?_ | refine st_asg ?_ | refine st_c ?_ | refine fr_c ?_); (try (conv => arg 1; simp [Cpu.cells])); (with_reducible refine at_mk ?_))
    | ((with_reducible first | refine st_g ?_ | refine fr_g ?_); (try (conv => arg 1; simp [Cpu.cells])); (with_reducible refine at_mk ?_); with_reducible first | refine gd_tt ?_ | refine gd_ff ?_ | refine gd_tf ?_ | refine gd_ft ?_ | refine gd_no ?_)
    | ((with_reducible refine st_m rfl ?_); (try (conv => arg 1; simp [Cpu.cells])); (with_reducible refine ev2_some ?_))
    | ((with_reducible refine fr_n rfl ?_); (try (conv => arg 1; simp [Cpu.cells])); (with_reducible refine evn_some ?_))
    | ((with_reducible refine fr_a ?_); (try (conv => arg 1; simp [Cpu.cells])); (with_reducible refine at_mk ?_); (try (conv => arg 1; simp [Cpu.cells])); (with_reducible refine at_mk ?_); refine ⟨?names, ?_⟩; (case names => (simp [appNames, ints, intss] <;> first | kernel_rfl | (refine ⟨?_, ?_⟩ <;> kernel_rfl))); (try (conv => arg 1; simp [Cpu.cells])); (with_reducible refine ev2_some ?_))
    | ((with_reducible first | refine st_q ?_ | refine fr_q ?_ | refine st_res ?_); (try (conv => arg 1; simp [Cpu.cells])); (with_reducible refine ev_some ?_))
    | ((with_reducible refine st_if ?_); (try (conv => arg 1; simp [Cpu.cells])); (with_reducible refine at_mk ?_); with_reducible first | refine br_t ?_ | refine br_f ?_))
  refine st_fresh rfl (toIntS c.Regs hs.regs) (.cons (dr_ints (fun h => h) _) .nil) ?_
  intro v1 h1 ns1 o1 d1 f1 p1 t1
  have q1 := own_one (ownV_ints (o1 true))
  simp only [hp_next_tick, hp_put_tick, hp_mt_tick] at f1 p1 t1
  have ra1 : h1.rows (T, 0, 0) = some ⟨0, 9, [c.cells true]⟩ := by
    rw [p1 (T, 0, 0) (by simp <;> omega)]
    simp [hp_next_rows, hp_rows_put, Cpu.cells]
  have rb1 : h1.rows (T, 1, 0) = some ⟨0, 9, [[.int .i64 0, .nilsl, .nilsl, .nilsl, .nilsl, .nilsl, .int .i64 0, .bool false, .int .i64 0]]⟩ := by
    rw [p1 (T, 1, 0) (by simp <;> omega)]
    simp [hp_next_rows, hp_rows_put]
  have rc1 : h1.rows (T + 1, 0, 0) = some ⟨0, 9, [[.int .i64 c.At, .nilsl, .nilsl, .nilsl, .nilsl, .nilsl, .int .i64 0, .bool false, .int .i64 0]]⟩ := by
    rw [p1 (T + 1, 0, 0) (by simp <;> omega)]
    simp [hp_next_rows, hp_rows_put]
  have tt1 : T + 1 < h1.tick := by omega
  have tu1 : T < h1.tick := by omega
  repeat' (first
    | (with_reducible first | refine st_seq ?_ | refine st_reg ?_ | refine st_block ?_ | refine st_nil ?_ | refine st_skip ?_ | refine st_ret ?_ | refine st_exit ?_ | refine fr_nil ?_ | refine k_seq_n ?_ | refine k_seq_r ?_ | refine k_seq_e ?_ | refine k_blk_n ?_ | refine k_blk_r ?_ | refine k_blk_s ?_ | refine k_blk_o rfl ?_ | refine k_fn_r ?_ | refine k_fn_n ?_ | refine k_lp_r ?_ | refine k_lp_e ?_)
    | ((with_reducible first | refine st_move ?_ | refine st_asg ?_ | refine st_c ?_ | refine fr_c ?_); (try (conv => arg 1; simp [Cpu.cells, ra1, rb1, rc1, tt1, tu1, q1.1, q1.2.1, q1.2.2, q1.1])); (with_reducible refine at_mk ?_))
    | ((with_reducible first | refine st_g ?_ | refine fr_g ?_); (try (conv => arg 1; simp [Cpu.cells, ra1, rb1, rc1, tt1, tu1, q1.1, q1.2.1, q1.2.2, q1.1])); (with_reducible refine at_mk ?_); with_reducible first | refine gd_tt ?_ | refine gd_ff ?_ | refine gd_tf ?_ | refine gd_ft ?_ | refine gd_no ?_)
    | ((with_reducible refine st_m rfl ?_); (try (conv => arg 1; simp [Cpu.cells, ra1, rb1, rc1, tt1, tu1, q1.1, q1.2.1, q1.2.2, q1.1])); (with_reducible refine ev2_some ?_))
    | ((with_reducible refine fr_n rfl ?_); (try (conv => arg 1; simp [Cpu.cells, ra1, rb1, rc1, tt1, tu1, q1.1, q1.2.1, q1.2.2, q1.1])); (with_reducible refine evn_some ?_))
    | ((with_reducible refine fr_a ?_); (try (conv => arg 1; simp [Cpu.cells, ra1, rb1, rc1, tt1, tu1, q1.1, q1.2.1, q1.2.2, q1.1])); (with_reducible refine at_mk ?_); (try (conv => arg 1; simp [Cpu.cells, ra1, rb1, rc1, tt1, tu1, q1.1, q1.2.1, q1.2.2, q1.1])); (with_reducible refine at_mk ?_); refine ⟨?names, ?_⟩; (case names => (simp [appNames, ints, intss] <;> first | kernel_rfl | (refine ⟨?_, ?_⟩ <;> kernel_rfl))); (try (conv => arg 1; simp [Cpu.cells, ra1, rb1, rc1, tt1, tu1, q1.1, q1.2.1, q1.2.2, q1.1])); (with_reducible refine ev2_some ?_))
    | ((with_reducible first | refine st_q ?_ | refine fr_q ?_ | refine st_res ?_); (try (conv => arg 1; simp [Cpu.cells, ra1, rb1, rc1, tt1, tu1, q1.1, q1.2.1, q1.2.2, q1.1])); (with_reducible refine ev_some ?_))
    | ((with_reducible refine st_if ?_); (try (conv => arg 1; simp [Cpu.cells, ra1, rb1, rc1, tt1, tu1, q1.1, q1.2.1, q1.2.2, q1.1])); (with_reducible refine at_mk ?_); with_reducible first | refine br_t ?_ | refine br_f ?_))
  refine st_fresh rfl (toIntS c.Slots hs.slots) (.cons (dr_ints (fun h => h) _) .nil) ?_
  intro v2 h2 ns2 o2 d2 f2 p2 t2
  have q2 := own_one (ownV_ints (o2 true))
  simp only [hp_next_tick, hp_put_tick, hp_mt_tick] at f2 p2 t2
  have ra2 : h2.rows (T, 0, 0) = some ⟨0, 9, [c.cells true]⟩ := by
    rw [p2 (T, 0, 0) (by simp <;> omega)]
    simp [hp_next_rows, hp_rows_put, ra1, rb1, rc1, Cpu.cells]
  have rb2 : h2.rows (T, 1, 0) = some ⟨0, 9, [[.int .i64 0, .nilsl, .nilsl, .nilsl, .nilsl, .nilsl, .int .i64 0, .bool false, .int .i64 0]]⟩ := by
    rw [p2 (T, 1, 0) (by simp <;> omega)]
    simp [hp_next_rows, hp_rows_put, ra1, rb1, rc1]
  have rc2 : h2.rows (T + 1, 0, 0) = some ⟨0, 9, [[.int .i64 c.At, v1, .nilsl, .nilsl, .nilsl, .nilsl, .int .i64 0, .bool false, .int .i64 0]]⟩ := by
    rw [p2 (T + 1, 0, 0) (by simp <;> omega)]
    simp [hp_next_rows, hp_rows_put, ra1, rb1, rc1]
  have tt2 : T + 1 < h2.tick := by omega
  have tu2 : T < h2.tick := by omega
  have c1_2 : ∀ n ∈ ns1, h2.rows n = h1.rows n := fun n hn => by
    have b1 := f1 n hn
    have hne : n ≠ (T + 1, 0, 0) := fun e => by rw [e] at b1; simp at b1; omega
    rw [p2 n (by omega)]
    simp [hp_next_rows, hp_rows_put, hne]
  repeat' (first
    | (with_reducible first | refine st_seq ?_ | refine st_reg ?_ | refine st_block ?_ | refine st_nil ?_ | refine st_skip ?_ | refine st_ret ?_ | refine st_exit ?_ | refine fr_nil ?_ | refine k_seq_n ?_ | refine k_seq_r ?_ | refine k_seq_e ?_ | refine k_blk_n ?_ | refine k_blk_r ?_ | refine k_blk_s ?_ | refine k_blk_o rfl ?_ | refine k_fn_r ?_ | refine k_fn_n ?_ | refine k_lp_r ?_ | refine k_lp_e ?_)
    | ((with_reducible first | refine st_move ?_ | refine st_asg ?_ | refine st_c ?_ | refine fr_c ?_); (try (conv => arg 1; simp [Cpu.cells, ra2, rb2, rc2, tt2, tu2, q2.1, q2.2.1, q2.2.2, q1.1, q2.1])); (with_reducible refine at_mk ?_))
    | ((with_reducible first | refine st_g ?_ | refine fr_g ?_); (try (conv => arg 1; simp [Cpu.cells, ra2, rb2, rc2, tt2, tu2, q2.1, q2.2.1, q2.2.2, q1.1, q2.1])); (with_reducible refine at_mk ?_); with_reducible first | refine gd_tt ?_ | refine gd_ff ?_ | refine gd_tf ?_ | refine gd_ft ?_ | refine gd_no ?_)
    | ((with_reducible refine st_m rfl ?_); (try (conv => arg 1; simp [Cpu.cells, ra2, rb2, rc2, tt2, tu2, q2.1, q2.2.1, q2.2.2, q1.1, q2.1])); (with_reducible refine ev2_some ?_))
    | ((with_reducible refine fr_n rfl ?_); (try (conv => arg 1; simp [Cpu.cells, ra2, rb2, rc2, tt2, tu2, q2.1, q2.2.1, q2.2.2, q1.1, q2.1])); (with_reducible refine evn_some ?_))
    | ((with_reducible refine fr_a ?_); (try (conv => arg 1; simp [Cpu.cells, ra2, rb2, rc2, tt2, tu2, q2.1, q2.2.1, q2.2.2, q1.1, q2.1])); (with_reducible refine at_mk ?_); (try (conv => arg 1; simp [Cpu.cells, ra2, rb2, rc2, tt2, tu2, q2.1, q2.2.1, q2.2.2, q1.1, q2.1])); (with_reducible refine at_mk ?_); refine ⟨?names, ?_⟩; (case names => (simp [appNames, ints, intss] <;> first | kernel_rfl | (refine ⟨?_, ?_⟩ <;> kernel_rfl))); (try (conv => arg 1; simp [Cpu.cells, ra2, rb2, rc2, tt2, tu2, q2.1, q2.2.1, q2.2.2, q1.1, q2.1])); (with_reducible refine ev2_some ?_))
    | ((with_reducible first | refine st_q ?_ | refine fr_q ?_ | refine st_res ?_); (try (conv => arg 1; simp [Cpu.cells, ra2, rb2, rc2, tt2, tu2, q2.1, q2.2.1, q2.2.2, q1.1, q2.1])); (with_reducible refine ev_some ?_))
    | ((with_reducible refine st_if ?_); (try (conv => arg 1; simp [Cpu.cells, ra2, rb2, rc2, tt2, tu2, q2.1, q2.2.1, q2.2.2, q1.1, q2.1])); (with_reducible refine at_mk ?_); with_reducible first | refine br_t ?_ | refine br_f ?_))
  refine st_fresh rfl (toIntSS c.Mem (mem_small hs.mem).1 (mem_small hs.mem).2) (.cons (dr_intss (fun h => h) _) .nil) ?_
  intro v3 h3 ns3 o3 d3 f3 p3 t3
  have q3 := own_one (ownV_intss (o3 true))
  simp only [hp_next_tick, hp_put_tick, hp_mt_tick] at f3 p3 t3
  have ra3 : h3.rows (T, 0, 0) = some ⟨0, 9, [c.cells true]⟩ := by
    rw [p3 (T, 0, 0) (by simp <;> omega)]
    simp [hp_next_rows, hp_rows_put, ra2, rb2, rc2, Cpu.cells]
  have rb3 : h3.rows (T, 1, 0) = some ⟨0, 9, [[.int .i64 0, .nilsl, .nilsl, .nilsl, .nilsl, .nilsl, .int .i64 0, .bool false, .int .i64 0]]⟩ := by
    rw [p3 (T, 1, 0) (by simp <;> omega)]
    simp [hp_next_rows, hp_rows_put, ra2, rb2, rc2]
  have rc3 : h3.rows (T + 1, 0, 0) = some ⟨0, 9, [[.int .i64 c.At, v1, v2, .nilsl, .nilsl, .nilsl, .int .i64 0, .bool false, .int .i64 0]]⟩ := by
    rw [p3 (T + 1, 0, 0) (by simp <;> omega)]
    simp [hp_next_rows, hp_rows_put, ra2, rb2, rc2]
  have tt3 : T + 1 < h3.tick := by omega
  have tu3 : T < h3.tick := by omega
  have c1_3 : ∀ n ∈ ns1, h3.rows n = h2.rows n := fun n hn => by
    have b1 := f1 n hn
    have hne : n ≠ (T + 1, 0, 0) := fun e => by rw [e] at b1; simp at b1; omega
    rw [p3 n (by omega)]
    simp [hp_next_rows, hp_rows_put, hne]
  have c2_3 : ∀ n ∈ ns2, h3.rows n = h2.rows n := fun n hn => by
    have b1 := f2 n hn
    have hne : n ≠ (T + 1, 0, 0) := fun e => by rw [e] at b1; simp at b1; omega
    rw [p3 n (by omega)]
    simp [hp_next_rows, hp_rows_put, hne]
  repeat' (first
    | (with_reducible first | refine st_seq ?_ | refine st_reg ?_ | refine st_block ?_ | refine st_nil ?_ | refine st_skip ?_ | refine st_ret ?_ | refine st_exit ?_ | refine fr_nil ?_ | refine k_seq_n ?_ | refine k_seq_r ?_ | refine k_seq_e ?_ | refine k_blk_n ?_ | refine k_blk_r ?_ | refine k_blk_s ?_ | refine k_blk_o rfl ?_ | refine k_fn_r ?_ | refine k_fn_n ?_ | refine k_lp_r ?_ | refine k_lp_e ?_)
    | ((with_reducible first | refine st_move ?_ | refine st_asg ?_ | refine st_c ?_ | refine fr_c ?_); (try (conv => arg 1; simp [Cpu.cells, ra3, rb3, rc3, tt3, tu3, q3.1, q3.2.1, q3.2.2, q1.1, q2.1, q3.1])); (with_reducible refine at_mk ?_))
    | ((with_reducible first | refine st_g ?_ | refine fr_g ?_); (try (conv => arg 1; simp [Cpu.cells, ra3, rb3, rc3, tt3, tu3, q3.1, q3.2.1, q3.2.2, q1.1, q2.1, q3.1])); (with_reducible refine at_mk ?_); with_reducible first | refine gd_tt ?_ | refine gd_ff ?_ | refine gd_tf ?_ | refine gd_ft ?_ | refine gd_no ?_)
    | ((with_reducible refine st_m rfl ?_); (try (conv => arg 1; simp [Cpu.cells, ra3, rb3, rc3, tt3, tu3, q3.1, q3.2.1, q3.2.2, q1.1, q2.1, q3.1])); (with_reducible refine ev2_some ?_))
    | ((with_reducible refine fr_n rfl ?_); (try (conv => arg 1; simp [Cpu.cells, ra3, rb3, rc3, tt3, tu3, q3.1, q3.2.1, q3.2.2, q1.1, q2.1, q3.1])); (with_reducible refine evn_some ?_))
    | ((with_reducible refine fr_a ?_); (try (conv => arg 1; simp [Cpu.cells, ra3, rb3, rc3, tt3, tu3, q3.1, q3.2.1, q3.2.2, q1.1, q2.1, q3.1])); (with_reducible refine at_mk ?_); (try (conv => arg 1; simp [Cpu.cells, ra3, rb3, rc3, tt3, tu3, q3.1, q3.2.1, q3.2.2, q1.1, q2.1, q3.1])); (with_reducible refine at_mk ?_); refine ⟨?names, ?_⟩; (case names => (simp [appNames, ints, intss] <;> first | kernel_rfl | (refine ⟨?_, ?_⟩ <;> kernel_rfl))); (try (conv => arg 1; simp [Cpu.cells, ra3, rb3, rc3, tt3, tu3, q3.1, q3.2.1, q3.2.2, q1.1, q2.1, q3.1])); (with_reducible refine ev2_some ?_))
    | ((with_reducible first | refine st_q ?_ | refine fr_q ?_ | refine st_res ?_); (try (conv => arg 1; simp [Cpu.cells, ra3, rb3, rc3, tt3, tu3, q3.1, q3.2.1, q3.2.2, q1.1, q2.1, q3.1])); (with_reducible refine ev_some ?_))
    | ((with_reducible refine st_if ?_); (try (conv => arg 1; simp [Cpu.cells, ra3, rb3, rc3, tt3, tu3, q3.1, q3.2.1, q3.2.2, q1.1, q2.1, q3.1])); (with_reducible refine at_mk ?_); with_reducible first | refine br_t ?_ | refine br_f ?_))
  refine st_fresh rfl (toIntS c.Input hs.input) (.cons (dr_ints (fun h => h) _) .nil) ?_
  intro v4 h4 ns4 o4 d4 f4 p4 t4
  have q4 := own_one (ownV_ints (o4 true))
  simp only [hp_next_tick, hp_put_tick, hp_mt_tick] at f4 p4 t4
  have ra4 : h4.rows (T, 0, 0) = some ⟨0, 9, [c.cells true]⟩ := by
    rw [p4 (T, 0, 0) (by simp <;> omega)]
    simp [hp_next_rows, hp_rows_put, ra3, rb3, rc3, Cpu.cells]
  have rb4 : h4.rows (T, 1, 0) = some ⟨0, 9, [[.int .i64 0, .nilsl, .nilsl, .nilsl, .nilsl, .nilsl, .int .i64 0, .bool false, .int .i64 0]]⟩ := by
    rw [p4 (T, 1, 0) (by simp <;> omega)]
    simp [hp_next_rows, hp_rows_put, ra3, rb3, rc3]
  have rc4 : h4.rows (T + 1, 0, 0) = some ⟨0, 9, [[.int .i64 c.At, v1, v2, v3, .nilsl, .nilsl, .int .i64 0, .bool false, .int .i64 0]]⟩ := by
    rw [p4 (T + 1, 0, 0) (by simp <;> omega)]
    simp [hp_next_rows, hp_rows_put, ra3, rb3, rc3]
  have tt4 : T + 1 < h4.tick := by omega
  have tu4 : T < h4.tick := by omega
  have c1_4 : ∀ n ∈ ns1, h4.rows n = h3.rows n := fun n hn => by
    have b1 := f1 n hn
    have hne : n ≠ (T + 1, 0, 0) := fun e => by rw [e] at b1; simp at b1; omega
    rw [p4 n (by omega)]
    simp [hp_next_rows, hp_rows_put, hne]
  have c2_4 : ∀ n ∈ ns2, h4.rows n = h3.rows n := fun n hn => by
    have b1 := f2 n hn
    have hne : n ≠ (T + 1, 0, 0) := fun e => by rw [e] at b1; simp at b1; omega
    rw [p4 n (by omega)]
    simp [hp_next_rows, hp_rows_put, hne]
  have c3_4 : ∀ n ∈ ns3, h4.rows n = h3.rows n := fun n hn => by
    have b1 := f3 n hn
    have hne : n ≠ (T + 1, 0, 0) := fun e => by rw [e] at b1; simp at b1; omega
    rw [p4 n (by omega)]
    simp [hp_next_rows, hp_rows_put, hne]
  repeat' (first
    | (with_reducible first | refine st_seq ?_ | refine st_reg ?_ | refine st_block ?_ | refine st_nil ?_ | refine st_skip ?_ | refine st_ret ?_ | refine st_exit ?_ | refine fr_nil ?_ | refine k_seq_n ?_ | refine k_seq_r ?_ | refine k_seq_e ?_ | refine k_blk_n ?_ | refine k_blk_r ?_ | refine k_blk_s ?_ | refine k_blk_o rfl ?_ | refine k_fn_r ?_ | refine k_fn_n ?_ | refine k_lp_r ?_ | refine k_lp_e ?_)
    | ((with_reducible first | refine st_move ?_ | refine st_asg ?_ | refine st_c ?_ | refine fr_c ?_); (try (conv => arg 1; simp [Cpu.cells, ra4, rb4, rc4, tt4, tu4, q4.1, q4.2.1, q4.2.2, q1.1, q2.1, q3.1, q4.1])); (with_reducible refine at_mk ?_))
    | ((with_reducible first | refine st_g ?_ | refine fr_g ?_); (try (conv => arg 1; simp [Cpu.cells, ra4, rb4, rc4, tt4, tu4, q4.1, q4.2.1, q4.2.2, q1.1, q2.1, q3.1, q4.1])); (with_reducible refine at_mk ?_); with_reducible first | refine gd_tt ?_ | refine gd_ff ?_ | refine gd_tf ?_ | refine gd_ft ?_ | refine gd_no ?_)
    | ((with_reducible refine st_m rfl ?_); (try (conv => arg 1; simp [Cpu.cells, ra4, rb4, rc4, tt4, tu4, q4.1, q4.2.1, q4.2.2, q1.1, q2.1, q3.1, q4.1])); (with_reducible refine ev2_some ?_))
    | ((with_reducible refine fr_n rfl ?_); (try (conv => arg 1; simp [Cpu.cells, ra4, rb4, rc4, tt4, tu4, q4.1, q4.2.1, q4.2.2, q1.1, q2.1, q3.1, q4.1])); (with_reducible refine evn_some ?_))
    | ((with_reducible refine fr_a ?_); (try (conv => arg 1; simp [Cpu.cells, ra4, rb4, rc4, tt4, tu4, q4.1, q4.2.1, q4.2.2, q1.1, q2.1, q3.1, q4.1])); (with_reducible refine at_mk ?_); (try (conv => arg 1; simp [Cpu.cells, ra4, rb4, rc4, tt4, tu4, q4.1, q4.2.1, q4.2.2, q1.1, q2.1, q3.1, q4.1])); (with_reducible refine at_mk ?_); refine ⟨?names, ?_⟩; (case names => (simp [appNames, ints, intss] <;> first | kernel_rfl | (refine ⟨?_, ?_⟩ <;> kernel_rfl))); (try (conv => arg 1; simp [Cpu.cells, ra4, rb4, rc4, tt4, tu4, q4.1, q4.2.1, q4.2.2, q1.1, q2.1, q3.1, q4.1])); (with_reducible refine ev2_some ?_))
    | ((with_reducible first | refine st_q ?_ | refine fr_q ?_ | refine st_res ?_); (try (conv => arg 1; simp [Cpu.cells, ra4, rb4, rc4, tt4, tu4, q4.1, q4.2.1, q4.2.2, q1.1, q2.1, q3.1, q4.1])); (with_reducible refine ev_some ?_))
    | ((with_reducible refine st_if ?_); (try (conv => arg 1; simp [Cpu.cells, ra4, rb4, rc4, tt4, tu4, q4.1, q4.2.1, q4.2.2, q1.1, q2.1, q3.1, q4.1])); (with_reducible refine at_mk ?_); with_reducible first | refine br_t ?_ | refine br_f ?_))
  refine st_fresh rfl (toIntS c.Out hs.out) (.cons (dr_ints (fun h => h) _) .nil) ?_
  intro v5 h5 ns5 o5 d5 f5 p5 t5
  have q5 := own_one (ownV_ints (o5 true))
  simp only [hp_next_tick, hp_put_tick, hp_mt_tick] at f5 p5 t5
  have ra5 : h5.rows (T, 0, 0) = some ⟨0, 9, [c.cells true]⟩ := by
    rw [p5 (T, 0, 0) (by simp <;> omega)]
    simp [hp_next_rows, hp_rows_put, ra4, rb4, rc4, Cpu.cells]
  have rb5 : h5.rows (T, 1, 0) = some ⟨0, 9, [[.int .i64 0, .nilsl, .nilsl, .nilsl, .nilsl, .nilsl, .int .i64 0, .bool false, .int .i64 0]]⟩ := by
    rw [p5 (T, 1, 0) (by simp <;> omega)]
    simp [hp_next_rows, hp_rows_put, ra4, rb4, rc4]
  have rc5 : h5.rows (T + 1, 0, 0) = some ⟨0, 9, [[.int .i64 c.At, v1, v2, v3, v4, .nilsl, .int .i64 0, .bool false, .int .i64 0]]⟩ := by
    rw [p5 (T + 1, 0, 0) (by simp <;> omega)]
    simp [hp_next_rows, hp_rows_put, ra4, rb4, rc4]
  have tt5 : T + 1 < h5.tick := by omega
  have tu5 : T < h5.tick := by omega
  have c1_5 : ∀ n ∈ ns1, h5.rows n = h4.rows n := fun n hn => by
    have b1 := f1 n hn
    have hne : n ≠ (T + 1, 0, 0) := fun e => by rw [e] at b1; simp at b1; omega
    rw [p5 n (by omega)]
    simp [hp_next_rows, hp_rows_put, hne]
  have c2_5 : ∀ n ∈ ns2, h5.rows n = h4.rows n := fun n hn => by
    have b1 := f2 n hn
    have hne : n ≠ (T + 1, 0, 0) := fun e => by rw [e] at b1; simp at b1; omega
    rw [p5 n (by omega)]
    simp [hp_next_rows, hp_rows_put, hne]
  have c3_5 : ∀ n ∈ ns3, h5.rows n = h4.rows n := fun n hn => by
    have b1 := f3 n hn
    have hne : n ≠ (T + 1, 0, 0) := fun e => by rw [e] at b1; simp at b1; omega
    rw [p5 n (by omega)]
    simp [hp_next_rows, hp_rows_put, hne]
  have c4_5 : ∀ n ∈ ns4, h5.rows n = h4.rows n := fun n hn => by
    have b1 := f4 n hn
    have hne : n ≠ (T + 1, 0, 0) := fun e => by rw [e] at b1; simp at b1; omega
    rw [p5 n (by omega)]
    simp [hp_next_rows, hp_rows_put, hne]
  repeat' (first
    | (with_reducible first | refine st_seq ?_ | refine st_reg ?_ | refine st_block ?_ | refine st_nil ?_ | refine st_skip ?_ | refine st_ret ?_ | refine st_exit ?_ | refine fr_nil ?_ | refine k_seq_n ?_ | refine k_seq_r ?_ | refine k_seq_e ?_ | refine k_blk_n ?_ | refine k_blk_r ?_ | refine k_blk_s ?_ | refine k_blk_o rfl ?_ | refine k_fn_r ?_ | refine k_fn_n ?_ | refine k_lp_r ?_ | refine k_lp_e ?_)
    | ((with_reducible first | refine st_move ?_ | refine st_asg ?_ | refine st_c ?_ | refine fr_c ?_); (try (conv => arg 1; simp [Cpu.cells, ra5, rb5, rc5, tt5, tu5, q5.1, q5.2.1, q5.2.2, q1.1, q2.1, q3.1, q4.1, q5.1])); (with_reducible refine at_mk ?_))
    | ((with_reducible first | refine st_g ?_ | refine fr_g ?_); (try (conv => arg 1; simp [Cpu.cells, ra5, rb5, rc5, tt5, tu5, q5.1, q5.2.1, q5.2.2, q1.1, q2.1, q3.1, q4.1, q5.1])); (with_reducible refine at_mk ?_); with_reducible first | refine gd_tt ?_ | refine gd_ff ?_ | refine gd_tf ?_ | refine gd_ft ?_ | refine gd_no ?_)
    | ((with_reducible refine st_m rfl ?_); (try (conv => arg 1; simp [Cpu.cells, ra5, rb5, rc5, tt5, tu5, q5.1, q5.2.1, q5.2.2, q1.1, q2.1, q3.1, q4.1, q5.1])); (with_reducible refine ev2_some ?_))
    | ((with_reducible refine fr_n rfl ?_); (try (conv => arg 1; simp [Cpu.cells, ra5, rb5, rc5, tt5, tu5, q5.1, q5.2.1, q5.2.2, q1.1, q2.1, q3.1, q4.1, q5.1])); (with_reducible refine evn_some ?_))
    | ((with_reducible refine fr_a ?_); (try (conv => arg 1; simp [Cpu.cells, ra5, rb5, rc5, tt5, tu5, q5.1, q5.2.1, q5.2.2, q1.1, q2.1, q3.1, q4.1, q5.1])); (with_reducible refine at_mk ?_); (try (conv => arg 1; simp [Cpu.cells, ra5, rb5, rc5, tt5, tu5, q5.1, q5.2.1, q5.2.2, q1.1, q2.1, q3.1, q4.1, q5.1])); (with_reducible refine at_mk ?_); refine ⟨?names, ?_⟩; (case names => (simp [appNames, ints, intss] <;> first | kernel_rfl | (refine ⟨?_, ?_⟩ <;> kernel_rfl))); (try (conv => arg 1; simp [Cpu.cells, ra5, rb5, rc5, tt5, tu5, q5.1, q5.2.1, q5.2.2, q1.1, q2.1, q3.1, q4.1, q5.1])); (with_reducible refine ev2_some ?_))
    | ((with_reducible first | refine st_q ?_ | refine fr_q ?_ | refine st_res ?_); (try (conv => arg 1; simp [Cpu.cells, ra5, rb5, rc5, tt5, tu5, q5.1, q5.2.1, q5.2.2, q1.1, q2.1, q3.1, q4.1, q5.1])); (with_reducible refine ev_some ?_))
    | ((with_reducible refine st_if ?_); (try (conv => arg 1; simp [Cpu.cells, ra5, rb5, rc5, tt5, tu5, q5.1, q5.2.1, q5.2.2, q1.1, q2.1, q3.1, q4.1, q5.1])); (with_reducible refine at_mk ?_); with_reducible first | refine br_t ?_ | refine br_f ?_))
  refine ⟨by simp [hp_next_tick, hp_put_tick, hp_mt_tick] <;> omega, ns1 ++ (ns2 ++ (ns3 ++ (ns4 ++ (ns5 ++ [])))), fun b => ?_, ?_, ?_⟩
  · simp only [resV]
    refine .agg (.int _ _ ?_)
    refine @Own.append _ b [v1] [ints b c.Regs] _ _ _ _ ((ownV_ints (o1 b)).congr fun n hn => ?_) ?_
    · have b1 := f1 n hn
      have hne : n ≠ (T + 1, 0, 0) := fun e => by rw [e] at b1; simp at b1; omega
      have hne2 : n ≠ (T, 1, 0) := fun e => by rw [e] at b1; simp at b1; omega
      simp only [hp_next_rows, hp_rows_put, if_neg hne, if_neg hne2]
      rw [c1_5 n hn, c1_4 n hn, c1_3 n hn, c1_2 n hn]
    refine @Own.append _ b [v2] [ints b c.Slots] _ _ _ _ ((ownV_ints (o2 b)).congr fun n hn => ?_) ?_
    · have b1 := f2 n hn
      have hne : n ≠ (T + 1, 0, 0) := fun e => by rw [e] at b1; simp at b1; omega
      have hne2 : n ≠ (T, 1, 0) := fun e => by rw [e] at b1; simp at b1; omega
      simp only [hp_next_rows, hp_rows_put, if_neg hne, if_neg hne2]
      rw [c2_5 n hn, c2_4 n hn, c2_3 n hn]
    refine @Own.append _ b [v3] [intss b c.Mem] _ _ _ _ ((ownV_intss (o3 b)).congr fun n hn => ?_) ?_
    · have b1 := f3 n hn
      have hne : n ≠ (T + 1, 0, 0) := fun e => by rw [e] at b1; simp at b1; omega
      have hne2 : n ≠ (T, 1, 0) := fun e => by rw [e] at b1; simp at b1; omega
      simp only [hp_next_rows, hp_rows_put, if_neg hne, if_neg hne2]
      rw [c3_5 n hn, c3_4 n hn]
    refine @Own.append _ b [v4] [ints b c.Input] _ _ _ _ ((ownV_ints (o4 b)).congr fun n hn => ?_) ?_
    · have b1 := f4 n hn
      have hne : n ≠ (T + 1, 0, 0) := fun e => by rw [e] at b1; simp at b1; omega
      have hne2 : n ≠ (T, 1, 0) := fun e => by rw [e] at b1; simp at b1; omega
      simp only [hp_next_rows, hp_rows_put, if_neg hne, if_neg hne2]
      rw [c4_5 n hn]
    refine @Own.append _ b [v5] [ints b c.Out] _ _ _ _ ((ownV_ints (o5 b)).congr fun n hn => ?_) ?_
    · have b1 := f5 n hn
      have hne : n ≠ (T + 1, 0, 0) := fun e => by rw [e] at b1; simp at b1; omega
      have hne2 : n ≠ (T, 1, 0) := fun e => by rw [e] at b1; simp at b1; omega
      simp only [hp_next_rows, hp_rows_put, if_neg hne, if_neg hne2]
    exact .int _ _ (.bool _ (.int _ _ .nil))
  · have D : ∀ {l m : List Nm} {B : Nat}, l.Nodup → m.Nodup → (∀ n ∈ l, n.1 < B) → (∀ n ∈ m, B ≤ n.1) → (l ++ m).Nodup := fun h1 h2 h3 h4 => List.nodup_append.2 ⟨h1, h2, fun a ha b hb e => by subst e; have := h3 a ha; have := h4 a hb; omega⟩
    refine D d1 (D d2 (D d3 (D d4 (D d5 (by simp) (B := h5.tick) (fun n hn => (f5 n hn).2) (by simp)) (B := h4.tick) (fun n hn => (f4 n hn).2) ?_) (B := h3.tick) (fun n hn => (f3 n hn).2) ?_) (B := h2.tick) (fun n hn => (f2 n hn).2) ?_) (B := h1.tick) (fun n hn => (f1 n hn).2) ?_
    all_goals
      intro n hn
      simp only [List.append_nil, List.mem_append] at hn
      have g2 := f2 n
      have g3 := f3 n
      have g4 := f4 n
      have g5 := f5 n
      iterate 4 (all_goals (try (refine Or.elim hn (fun hn => ?_) (fun hn => ?_))))
      all_goals first | (have := (g2 hn).1; omega) | (have := (g3 hn).1; omega) | (have := (g4 hn).1; omega) | (have := (g5 hn).1; omega)
  · intro n hn
    simp only [List.mem_append, List.not_mem_nil, or_false] at hn
    simp only [hp_next_tick, hp_put_tick, hp_mt_tick]
    rcases hn with hn | hn | hn | hn | hn
    all_goals first | (have := f1 n hn; omega) | (have := f2 n hn; omega) | (have := f3 n hn; omega) | (have := f4 n hn; omega) | (have := f5 n hn; omega)
end Go.Proofs.Ytfgaoojogididaa.AM
