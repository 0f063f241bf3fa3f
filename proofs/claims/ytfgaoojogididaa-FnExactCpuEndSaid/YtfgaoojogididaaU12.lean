/-
  A stepper's state: marked.
-/
import Derived.Test.YtfgaoojogididaaU11
set_option linter.unusedVariables false
set_option linter.unusedSimpArgs false
set_option maxRecDepth 4000
namespace Go.Proofs.Ytfgaoojogididaa.AM
open Go.RowKit

private def M : FuncId → Mode := fun f => if f = 33 ∨ f = 52 then .heap else .tree

theorem markCpu {h : Hp} {v : AV} {c : Cpu} {ns : List Nm} (ho : OwnV h.rows true v (.agg (c.cells true)) ns) (hnd : ns.Nodup) (hns : ∀ n ∈ ns, n.1 < h.tick) (hs : c.Small) (k : Int) (hk : 0 ≤ k) (hk2 : k ≤ 2 ^ 40) :
    Sound Try.prog 18 [v, .int .i64 k] h fun r h' => (∃ k', r = .int .i64 k' ∧ 0 ≤ k') ∧ (∀ n, n ∉ ns → n.1 < h.tick → h'.rows n = h.rows n) ∧ h.tick ≤ h'.tick := by
  obtain ⟨w1, w2, w3, w4, w5, n1, n2, n3, n4, n5, rfl, rfl, o1, o2, o3, o4, o5⟩ := ownV_cpu ho
  have q1 := own_one o1
  have q2 := own_one o2
  have q3 := own_one o3
  have q4 := own_one o4
  have q5 := own_one o5
  have z1 := hs.regs
  have z2 := hs.slots
  have z3 := hs.mem
  have z4 := hs.input
  have z5 := hs.out
  have z6 : psum c.Mem c.Mem.length ≤ wtSS c.Mem := by simp only [wtSS]; omega
  simp only [List.nodup_append, List.mem_append] at hnd
  obtain ⟨e1, ⟨e2, ⟨e3, ⟨e4, e5, x4⟩, x3⟩, x2⟩, x1⟩ := hnd
  have b1 : ∀ n ∈ n1, n.1 < h.tick := fun n hn => hns n (by simp [hn])
  have b2 : ∀ n ∈ n2, n.1 < h.tick := fun n hn => hns n (by simp [hn])
  have b3 : ∀ n ∈ n3, n.1 < h.tick := fun n hn => hns n (by simp [hn])
  have b4 : ∀ n ∈ n4, n.1 < h.tick := fun n hn => hns n (by simp [hn])
  have b5 : ∀ n ∈ n5, n.1 < h.tick := fun n hn => hns n (by simp [hn])
  have bx : (h.tick, 0, 0) ∉ n1 ∧ (h.tick, 0, 0) ∉ n2 ∧ (h.tick, 0, 0) ∉ n3 ∧ (h.tick, 0, 0) ∉ n4 ∧ (h.tick, 0, 0) ∉ n5 := ⟨fun e => by have := b1 _ e; simp at this, fun e => by have := b2 _ e; simp at this, fun e => by have := b3 _ e; simp at this, fun e => by have := b4 _ e; simp at this, fun e => by have := b5 _ e; simp at this⟩
  refine enter mixed M Try.func18 rfl (by kernel_rfl) rfl ?_
  repeat' (first
    | (with_reducible first | refine st_seq ?_ | refine st_reg ?_ | refine st_block ?_ | refine st_nil ?_ | refine st_skip ?_ | refine st_ret ?_ | refine st_exit ?_ | refine fr_nil ?_ | refine k_seq_n ?_ | refine k_seq_r ?_ | refine k_seq_e ?_ | refine k_blk_n ?_ | refine k_blk_r ?_ | refine k_blk_s ?_ | refine k_blk_o rfl ?_ | refine k_fn_r ?_ | refine k_fn_n ?_ | refine k_lp_r ?_ | refine k_lp_e ?_)
    | ((with_reducible first | refine st_move ?_ | refine st_asg ?_ | refine st_c ?_ | refine fr_c ?_); (try (conv => arg 1; simp [q1.1, q2.1, q3.1, q4.1, q5.1])); (with_reducible refine at_mk ?_))
    | ((with_reducible first | refine st_g ?_ | refine fr_g ?_); (try (conv => arg 1; simp [q1.1, q2.1, q3.1, q4.1, q5.1])); (with_reducible refine at_mk ?_); with_reducible first | refine gd_tt ?_ | refine gd_ff ?_ | refine gd_tf ?_ | refine gd_ft ?_ | refine gd_no ?_)
    | ((with_reducible refine st_m rfl ?_); (try (conv => arg 1; simp [q1.1, q2.1, q3.1, q4.1, q5.1])); (with_reducible refine ev2_some ?_))
    | ((with_reducible refine fr_n rfl ?_); (try (conv => arg 1; simp [q1.1, q2.1, q3.1, q4.1, q5.1])); (with_reducible refine evn_some ?_))
    | ((with_reducible refine fr_a ?_); (try (conv => arg 1; simp [q1.1, q2.1, q3.1, q4.1, q5.1])); (with_reducible refine at_mk ?_); (try (conv => arg 1; simp [q1.1, q2.1, q3.1, q4.1, q5.1])); (with_reducible refine at_mk ?_); refine ⟨?names, ?_⟩; (case names => (simp [appNames, ints, intss] <;> first | kernel_rfl | (refine ⟨?_, ?_⟩ <;> kernel_rfl))); (try (conv => arg 1; simp [q1.1, q2.1, q3.1, q4.1, q5.1])); (with_reducible refine ev2_some ?_))
    | ((with_reducible first | refine st_q ?_ | refine fr_q ?_ | refine st_res ?_); (try (conv => arg 1; simp [q1.1, q2.1, q3.1, q4.1, q5.1])); (with_reducible refine ev_some ?_))
    | ((with_reducible refine st_if ?_); (try (conv => arg 1; simp [q1.1, q2.1, q3.1, q4.1, q5.1])); (with_reducible refine at_mk ?_); with_reducible first | refine br_t ?_ | refine br_f ?_))
  refine st_heap rfl (markIntS (o1.congr fun n hn => ?_) (fun n hn => ?_) (k) (by omega) (by omega)) ?_
  · have hb := b1 n hn
    have hne : n ≠ (h.tick, 0, 0) := fun e => by rw [e] at hb; simp at hb
    simp [hp_next_rows, hp_rows_put, hne]
  · have hb := b1 n hn
    simp only [hp_next_tick, hp_put_tick]
    omega
  rintro r h1 ⟨rfl, _, p1, t1⟩
  simp only [hp_next_tick, hp_put_tick] at t1
  have g1 : ∀ n, n.1 < h.tick → n ∉ n1 → h1.rows n = h.rows n := fun n hb y1 => by
    have hne : n ≠ (h.tick, 0, 0) := fun e => by rw [e] at hb; simp at hb
    rw [p1 n y1]
    simp [hp_next_rows, hp_rows_put, hne]
  have rb1 : h1.rows (h.tick, 0, 0) = some ⟨0, 9, [[.int .i64 c.At, w1, w2, w3, w4, w5, .int .i64 c.Code, .bool c.Over, .int .i64 c.Val]]⟩ := by
    rw [p1 _ (by simp [bx])]
    simp [hp_next_rows, hp_rows_put]
  repeat' (first
    | (with_reducible first | refine st_seq ?_ | refine st_reg ?_ | refine st_block ?_ | refine st_nil ?_ | refine st_skip ?_ | refine st_ret ?_ | refine st_exit ?_ | refine fr_nil ?_ | refine k_seq_n ?_ | refine k_seq_r ?_ | refine k_seq_e ?_ | refine k_blk_n ?_ | refine k_blk_r ?_ | refine k_blk_s ?_ | refine k_blk_o rfl ?_ | refine k_fn_r ?_ | refine k_fn_n ?_ | refine k_lp_r ?_ | refine k_lp_e ?_)
    | ((with_reducible first | refine st_move ?_ | refine st_asg ?_ | refine st_c ?_ | refine fr_c ?_); (try (conv => arg 1; simp [q1.1, q2.1, q3.1, q4.1, q5.1, rb1])); (with_reducible refine at_mk ?_))
    | ((with_reducible first | refine st_g ?_ | refine fr_g ?_); (try (conv => arg 1; simp [q1.1, q2.1, q3.1, q4.1, q5.1, rb1])); (with_reducible refine at_mk ?_); with_reducible first | refine gd_tt ?_ | refine gd_ff ?_ | refine gd_tf ?_ | refine gd_ft ?_ | refine gd_no ?_)
    | ((with_reducible refine st_m rfl ?_); (try (conv => arg 1; simp [q1.1, q2.1, q3.1, q4.1, q5.1, rb1])); (with_reducible refine ev2_some ?_))
    | ((with_reducible refine fr_n rfl ?_); (try (conv => arg 1; simp [q1.1, q2.1, q3.1, q4.1, q5.1, rb1])); (with_reducible refine evn_some ?_))
    | ((with_reducible refine fr_a ?_); (try (conv => arg 1; simp [q1.1, q2.1, q3.1, q4.1, q5.1, rb1])); (with_reducible refine at_mk ?_); (try (conv => arg 1; simp [q1.1, q2.1, q3.1, q4.1, q5.1, rb1])); (with_reducible refine at_mk ?_); refine ⟨?names, ?_⟩; (case names => (simp [appNames, ints, intss] <;> first | kernel_rfl | (refine ⟨?_, ?_⟩ <;> kernel_rfl))); (try (conv => arg 1; simp [q1.1, q2.1, q3.1, q4.1, q5.1, rb1])); (with_reducible refine ev2_some ?_))
    | ((with_reducible first | refine st_q ?_ | refine fr_q ?_ | refine st_res ?_); (try (conv => arg 1; simp [q1.1, q2.1, q3.1, q4.1, q5.1, rb1])); (with_reducible refine ev_some ?_))
    | ((with_reducible refine st_if ?_); (try (conv => arg 1; simp [q1.1, q2.1, q3.1, q4.1, q5.1, rb1])); (with_reducible refine at_mk ?_); with_reducible first | refine br_t ?_ | refine br_f ?_))
  refine st_heap rfl (markIntS (o2.congr fun n hn => ?_) (fun n hn => ?_) (k + c.Regs.length) (by omega) (by omega)) ?_
  · have hb := b2 n hn
    have hne : n ≠ (h.tick, 0, 0) := fun e => by rw [e] at hb; simp at hb
    simp only [hp_next_rows]
    exact g1 n hb (fun e => absurd rfl (x1 n e n (by simp [hn])))
  · have hb := b2 n hn
    simp only [hp_next_tick, hp_put_tick]
    omega
  rintro r h2 ⟨rfl, _, p2, t2⟩
  simp only [hp_next_tick, hp_put_tick] at t2
  have g2 : ∀ n, n.1 < h.tick → n ∉ n1 → n ∉ n2 → h2.rows n = h.rows n := fun n hb y1 y2 => by
    have hne : n ≠ (h.tick, 0, 0) := fun e => by rw [e] at hb; simp at hb
    rw [p2 n y2]
    simp only [hp_next_rows]
    exact g1 n hb y1
  have rb2 : h2.rows (h.tick, 0, 0) = some ⟨0, 9, [[.int .i64 c.At, w1, w2, w3, w4, w5, .int .i64 c.Code, .bool c.Over, .int .i64 c.Val]]⟩ := by
    rw [p2 _ (by simp [bx])]
    simp [hp_next_rows, hp_rows_put, rb1]
  repeat' (first
    | (with_reducible first | refine st_seq ?_ | refine st_reg ?_ | refine st_block ?_ | refine st_nil ?_ | refine st_skip ?_ | refine st_ret ?_ | refine st_exit ?_ | refine fr_nil ?_ | refine k_seq_n ?_ | refine k_seq_r ?_ | refine k_seq_e ?_ | refine k_blk_n ?_ | refine k_blk_r ?_ | refine k_blk_s ?_ | refine k_blk_o rfl ?_ | refine k_fn_r ?_ | refine k_fn_n ?_ | refine k_lp_r ?_ | refine k_lp_e ?_)
    | ((with_reducible first | refine st_move ?_ | refine st_asg ?_ | refine st_c ?_ | refine fr_c ?_); (try (conv => arg 1; simp [q1.1, q2.1, q3.1, q4.1, q5.1, rb2])); (with_reducible refine at_mk ?_))
    | ((with_reducible first | refine st_g ?_ | refine fr_g ?_); (try (conv => arg 1; simp [q1.1, q2.1, q3.1, q4.1, q5.1, rb2])); (with_reducible refine at_mk ?_); with_reducible first | refine gd_tt ?_ | refine gd_ff ?_ | refine gd_tf ?_ | refine gd_ft ?_ | refine gd_no ?_)
    | ((with_reducible refine st_m rfl ?_); (try (conv => arg 1; simp [q1.1, q2.1, q3.1, q4.1, q5.1, rb2])); (with_reducible refine ev2_some ?_))
    | ((with_reducible refine fr_n rfl ?_); (try (conv => arg 1; simp [q1.1, q2.1, q3.1, q4.1, q5.1, rb2])); (with_reducible refine evn_some ?_))
    | ((with_reducible refine fr_a ?_); (try (conv => arg 1; simp [q1.1, q2.1, q3.1, q4.1, q5.1, rb2])); (with_reducible refine at_mk ?_); (try (conv => arg 1; simp [q1.1, q2.1, q3.1, q4.1, q5.1, rb2])); (with_reducible refine at_mk ?_); refine ⟨?names, ?_⟩; (case names => (simp [appNames, ints, intss] <;> first | kernel_rfl | (refine ⟨?_, ?_⟩ <;> kernel_rfl))); (try (conv => arg 1; simp [q1.1, q2.1, q3.1, q4.1, q5.1, rb2])); (with_reducible refine ev2_some ?_))
    | ((with_reducible first | refine st_q ?_ | refine fr_q ?_ | refine st_res ?_); (try (conv => arg 1; simp [q1.1, q2.1, q3.1, q4.1, q5.1, rb2])); (with_reducible refine ev_some ?_))
    | ((with_reducible refine st_if ?_); (try (conv => arg 1; simp [q1.1, q2.1, q3.1, q4.1, q5.1, rb2])); (with_reducible refine at_mk ?_); with_reducible first | refine br_t ?_ | refine br_f ?_))
  refine st_heap rfl (markIntSS (o3.congr fun n hn => ?_) e3 (fun n hn => ?_) (k + c.Regs.length + c.Slots.length) (by omega) (by omega)) ?_
  · have hb := b3 n hn
    have hne : n ≠ (h.tick, 0, 0) := fun e => by rw [e] at hb; simp at hb
    simp only [hp_next_rows]
    exact g2 n hb (fun e => absurd rfl (x1 n e n (by simp [hn]))) (fun e => absurd rfl (x2 n e n (by simp [hn])))
  · have hb := b3 n hn
    simp only [hp_next_tick, hp_put_tick]
    omega
  rintro r h3 ⟨rfl, _, p3, t3⟩
  simp only [hp_next_tick, hp_put_tick] at t3
  have g3 : ∀ n, n.1 < h.tick → n ∉ n1 → n ∉ n2 → n ∉ n3 → h3.rows n = h.rows n := fun n hb y1 y2 y3 => by
    have hne : n ≠ (h.tick, 0, 0) := fun e => by rw [e] at hb; simp at hb
    rw [p3 n y3]
    simp only [hp_next_rows]
    exact g2 n hb y1 y2
  have rb3 : h3.rows (h.tick, 0, 0) = some ⟨0, 9, [[.int .i64 c.At, w1, w2, w3, w4, w5, .int .i64 c.Code, .bool c.Over, .int .i64 c.Val]]⟩ := by
    rw [p3 _ (by simp [bx])]
    simp [hp_next_rows, hp_rows_put, rb2]
  repeat' (first
    | (with_reducible first | refine st_seq ?_ | refine st_reg ?_ | refine st_block ?_ | refine st_nil ?_ | refine st_skip ?_ | refine st_ret ?_ | refine st_exit ?_ | refine fr_nil ?_ | refine k_seq_n ?_ | refine k_seq_r ?_ | refine k_seq_e ?_ | refine k_blk_n ?_ | refine k_blk_r ?_ | refine k_blk_s ?_ | refine k_blk_o rfl ?_ | refine k_fn_r ?_ | refine k_fn_n ?_ | refine k_lp_r ?_ | refine k_lp_e ?_)
    | ((with_reducible first | refine st_move ?_ | refine st_asg ?_ | refine st_c ?_ | refine fr_c ?_); (try (conv => arg 1; simp [q1.1, q2.1, q3.1, q4.1, q5.1, rb3])); (with_reducible refine at_mk ?_))
    | ((with_reducible first | refine st_g ?_ | refine fr_g ?_); (try (conv => arg 1; simp [q1.1, q2.1, q3.1, q4.1, q5.1, rb3])); (with_reducible refine at_mk ?_); with_reducible first | refine gd_tt ?_ | refine gd_ff ?_ | refine gd_tf ?_ | refine gd_ft ?_ | refine gd_no ?_)
    | ((with_reducible refine st_m rfl ?_); (try (conv => arg 1; simp [q1.1, q2.1, q3.1, q4.1, q5.1, rb3])); (with_reducible refine ev2_some ?_))
    | ((with_reducible refine fr_n rfl ?_); (try (conv => arg 1; simp [q1.1, q2.1, q3.1, q4.1, q5.1, rb3])); (with_reducible refine evn_some ?_))
    | ((with_reducible refine fr_a ?_); (try (conv => arg 1; simp [q1.1, q2.1, q3.1, q4.1, q5.1, rb3])); (with_reducible refine at_mk ?_); (try (conv => arg 1; simp [q1.1, q2.1, q3.1, q4.1, q5.1, rb3])); (with_reducible refine at_mk ?_); refine ⟨?names, ?_⟩; (case names => (simp [appNames, ints, intss] <;> first | kernel_rfl | (refine ⟨?_, ?_⟩ <;> kernel_rfl))); (try (conv => arg 1; simp [q1.1, q2.1, q3.1, q4.1, q5.1, rb3])); (with_reducible refine ev2_some ?_))
    | ((with_reducible first | refine st_q ?_ | refine fr_q ?_ | refine st_res ?_); (try (conv => arg 1; simp [q1.1, q2.1, q3.1, q4.1, q5.1, rb3])); (with_reducible refine ev_some ?_))
    | ((with_reducible refine st_if ?_); (try (conv => arg 1; simp [q1.1, q2.1, q3.1, q4.1, q5.1, rb3])); (with_reducible refine at_mk ?_); with_reducible first | refine br_t ?_ | refine br_f ?_))
  refine st_heap rfl (markIntS (o4.congr fun n hn => ?_) (fun n hn => ?_) (k + c.Regs.length + c.Slots.length + psum c.Mem c.Mem.length) (by omega) (by omega)) ?_
  · have hb := b4 n hn
    have hne : n ≠ (h.tick, 0, 0) := fun e => by rw [e] at hb; simp at hb
    simp only [hp_next_rows]
    exact g3 n hb (fun e => absurd rfl (x1 n e n (by simp [hn]))) (fun e => absurd rfl (x2 n e n (by simp [hn]))) (fun e => absurd rfl (x3 n e n (by simp [hn])))
  · have hb := b4 n hn
    simp only [hp_next_tick, hp_put_tick]
    omega
  rintro r h4 ⟨rfl, _, p4, t4⟩
  simp only [hp_next_tick, hp_put_tick] at t4
  have g4 : ∀ n, n.1 < h.tick → n ∉ n1 → n ∉ n2 → n ∉ n3 → n ∉ n4 → h4.rows n = h.rows n := fun n hb y1 y2 y3 y4 => by
    have hne : n ≠ (h.tick, 0, 0) := fun e => by rw [e] at hb; simp at hb
    rw [p4 n y4]
    simp only [hp_next_rows]
    exact g3 n hb y1 y2 y3
  have rb4 : h4.rows (h.tick, 0, 0) = some ⟨0, 9, [[.int .i64 c.At, w1, w2, w3, w4, w5, .int .i64 c.Code, .bool c.Over, .int .i64 c.Val]]⟩ := by
    rw [p4 _ (by simp [bx])]
    simp [hp_next_rows, hp_rows_put, rb3]
  repeat' (first
    | (with_reducible first | refine st_seq ?_ | refine st_reg ?_ | refine st_block ?_ | refine st_nil ?_ | refine st_skip ?_ | refine st_ret ?_ | refine st_exit ?_ | refine fr_nil ?_ | refine k_seq_n ?_ | refine k_seq_r ?_ | refine k_seq_e ?_ | refine k_blk_n ?_ | refine k_blk_r ?_ | refine k_blk_s ?_ | refine k_blk_o rfl ?_ | refine k_fn_r ?_ | refine k_fn_n ?_ | refine k_lp_r ?_ | refine k_lp_e ?_)
    | ((with_reducible first | refine st_move ?_ | refine st_asg ?_ | refine st_c ?_ | refine fr_c ?_); (try (conv => arg 1; simp [q1.1, q2.1, q3.1, q4.1, q5.1, rb4])); (with_reducible refine at_mk ?_))
    | ((with_reducible first | refine st_g ?_ | refine fr_g ?_); (try (conv => arg 1; simp [q1.1, q2.1, q3.1, q4.1, q5.1, rb4])); (with_reducible refine at_mk ?_); with_reducible first | refine gd_tt ?_ | refine gd_ff ?_ | refine gd_tf ?_ | refine gd_ft ?_ | refine gd_no ?_)
    | ((with_reducible refine st_m rfl ?_); (try (conv => arg 1; simp [q1.1, q2.1, q3.1, q4.1, q5.1, rb4])); (with_reducible refine ev2_some ?_))
    | ((with_reducible refine fr_n rfl ?_); (try (conv => arg 1; simp [q1.1, q2.1, q3.1, q4.1, q5.1, rb4])); (with_reducible refine evn_some ?_))
    | ((with_reducible refine fr_a ?_); (try (conv => arg 1; simp [q1.1, q2.1, q3.1, q4.1, q5.1, rb4])); (with_reducible refine at_mk ?_); (try (conv => arg 1; simp [q1.1, q2.1, q3.1, q4.1, q5.1, rb4])); (with_reducible refine at_mk ?_); refine ⟨?names, ?_⟩; (case names => (simp [appNames, ints, intss] <;> first | kernel_rfl | (refine ⟨?_, ?_⟩ <;> kernel_rfl))); (try (conv => arg 1; simp [q1.1, q2.1, q3.1, q4.1, q5.1, rb4])); (with_reducible refine ev2_some ?_))
    | ((with_reducible first | refine st_q ?_ | refine fr_q ?_ | refine st_res ?_); (try (conv => arg 1; simp [q1.1, q2.1, q3.1, q4.1, q5.1, rb4])); (with_reducible refine ev_some ?_))
    | ((with_reducible refine st_if ?_); (try (conv => arg 1; simp [q1.1, q2.1, q3.1, q4.1, q5.1, rb4])); (with_reducible refine at_mk ?_); with_reducible first | refine br_t ?_ | refine br_f ?_))
  refine st_heap rfl (markIntS (o5.congr fun n hn => ?_) (fun n hn => ?_) (k + c.Regs.length + c.Slots.length + psum c.Mem c.Mem.length + c.Input.length) (by omega) (by omega)) ?_
  · have hb := b5 n hn
    have hne : n ≠ (h.tick, 0, 0) := fun e => by rw [e] at hb; simp at hb
    simp only [hp_next_rows]
    exact g4 n hb (fun e => absurd rfl (x1 n e n (by simp [hn]))) (fun e => absurd rfl (x2 n e n (by simp [hn]))) (fun e => absurd rfl (x3 n e n (by simp [hn]))) (fun e => absurd rfl (x4 n e n (by simp [hn])))
  · have hb := b5 n hn
    simp only [hp_next_tick, hp_put_tick]
    omega
  rintro r h5 ⟨rfl, _, p5, t5⟩
  simp only [hp_next_tick, hp_put_tick] at t5
  have g5 : ∀ n, n.1 < h.tick → n ∉ n1 → n ∉ n2 → n ∉ n3 → n ∉ n4 → n ∉ n5 → h5.rows n = h.rows n := fun n hb y1 y2 y3 y4 y5 => by
    have hne : n ≠ (h.tick, 0, 0) := fun e => by rw [e] at hb; simp at hb
    rw [p5 n y5]
    simp only [hp_next_rows]
    exact g4 n hb y1 y2 y3 y4
  have rb5 : h5.rows (h.tick, 0, 0) = some ⟨0, 9, [[.int .i64 c.At, w1, w2, w3, w4, w5, .int .i64 c.Code, .bool c.Over, .int .i64 c.Val]]⟩ := by
    rw [p5 _ (by simp [bx])]
    simp [hp_next_rows, hp_rows_put, rb4]
  repeat' (first
    | (with_reducible first | refine st_seq ?_ | refine st_reg ?_ | refine st_block ?_ | refine st_nil ?_ | refine st_skip ?_ | refine st_ret ?_ | refine st_exit ?_ | refine fr_nil ?_ | refine k_seq_n ?_ | refine k_seq_r ?_ | refine k_seq_e ?_ | refine k_blk_n ?_ | refine k_blk_r ?_ | refine k_blk_s ?_ | refine k_blk_o rfl ?_ | refine k_fn_r ?_ | refine k_fn_n ?_ | refine k_lp_r ?_ | refine k_lp_e ?_)
    | ((with_reducible first | refine st_move ?_ | refine st_asg ?_ | refine st_c ?_ | refine fr_c ?_); (try (conv => arg 1; simp [q1.1, q2.1, q3.1, q4.1, q5.1, rb5])); (with_reducible refine at_mk ?_))
    | ((with_reducible first | refine st_g ?_ | refine fr_g ?_); (try (conv => arg 1; simp [q1.1, q2.1, q3.1, q4.1, q5.1, rb5])); (with_reducible refine at_mk ?_); with_reducible first | refine gd_tt ?_ | refine gd_ff ?_ | refine gd_tf ?_ | refine gd_ft ?_ | refine gd_no ?_)
    | ((with_reducible refine st_m rfl ?_); (try (conv => arg 1; simp [q1.1, q2.1, q3.1, q4.1, q5.1, rb5])); (with_reducible refine ev2_some ?_))
    | ((with_reducible refine fr_n rfl ?_); (try (conv => arg 1; simp [q1.1, q2.1, q3.1, q4.1, q5.1, rb5])); (with_reducible refine evn_some ?_))
    | ((with_reducible refine fr_a ?_); (try (conv => arg 1; simp [q1.1, q2.1, q3.1, q4.1, q5.1, rb5])); (with_reducible refine at_mk ?_); (try (conv => arg 1; simp [q1.1, q2.1, q3.1, q4.1, q5.1, rb5])); (with_reducible refine at_mk ?_); refine ⟨?names, ?_⟩; (case names => (simp [appNames, ints, intss] <;> first | kernel_rfl | (refine ⟨?_, ?_⟩ <;> kernel_rfl))); (try (conv => arg 1; simp [q1.1, q2.1, q3.1, q4.1, q5.1, rb5])); (with_reducible refine ev2_some ?_))
    | ((with_reducible first | refine st_q ?_ | refine fr_q ?_ | refine st_res ?_); (try (conv => arg 1; simp [q1.1, q2.1, q3.1, q4.1, q5.1, rb5])); (with_reducible refine ev_some ?_))
    | ((with_reducible refine st_if ?_); (try (conv => arg 1; simp [q1.1, q2.1, q3.1, q4.1, q5.1, rb5])); (with_reducible refine at_mk ?_); with_reducible first | refine br_t ?_ | refine br_f ?_))
  refine ⟨⟨_, rfl, by omega⟩, fun n hn hlt => ?_, by simp only [hp_next_tick]; omega⟩
  simp only [List.mem_append, not_or] at hn
  simp only [hp_next_rows]
  exact g5 n hlt hn.1 hn.2.1 hn.2.2.1 hn.2.2.2.1 hn.2.2.2.2
end Go.Proofs.Ytfgaoojogididaa.AM
