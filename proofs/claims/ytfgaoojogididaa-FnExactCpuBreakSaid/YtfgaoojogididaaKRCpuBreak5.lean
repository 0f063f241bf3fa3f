/-
  FnExactCpuBreak: for every argument, the law returns true, and the arguments read behind the call as they read before.
  Conditions: none beyond the given statement's own.
-/
import Derived.Test.YtfgaoojogididaaKk4
import Derived.WalkKit
import Derived.ProofKit
import Derived.OpenShut
import Derived.ShutString
import Derived.ChangeOld
import Derived.Below
import Derived.SizedLaws
/-
  The law of CpuBreak.
-/
set_option linter.unusedVariables false
set_option linter.unusedSimpArgs false
set_option maxRecDepth 4000
namespace Go.Proofs.Ytfgaoojogididaa.AM
open Go.RowKit

private def MLCpuBreak : FuncId → Mode := fun f => if f = 14 ∨ f = 23 ∨ f = 27 ∨ f = 45 then .fresh else if f = 18 ∨ f = 32 ∨ f = 33 ∨ f = 19 then .heap else .tree

set_option maxHeartbeats 2000000 in
theorem lawCpuBreak (m : Image) (c : Cpu) (word : Int) (n : Int) (d_m : m.Data) (d_c : c.Data) (d_word : I64 word) (d_n : I64 n) : Sound Try.prog 11 [.agg (m.cells true), .agg (c.cells true), .int .i64 word, .int .i64 n] (.mt 0) fun v _ => v = .bool true := by
  have hnil : True := trivial
  refine enter mixed MLCpuBreak Try.func11 rfl (by kernel_rfl) rfl ?_
  repeat' (first
   | with_reducible refine stp ?_
   | with_reducible refine k_blk_o rfl ?_
   | ((try (conv => arg 1; simp [Image.cells, Cpu.cells])); with_reducible refine evp ?_)
   | ((with_reducible refine apn ?na ?_); (case na => simp [appNames, ints, intss] <;> first | kernel_rfl | (refine ⟨?_, ?_⟩ <;> kernel_rfl)))
   | fail)
  refine cx_k Cx.mt_box2 ?_
  intro h1 x1
  repeat' (first
   | with_reducible refine stp ?_
   | with_reducible refine k_blk_o rfl ?_
   | ((try (conv => arg 1; simp [hnil])); with_reducible refine evp ?_)
   | ((with_reducible refine apn ?na ?_); (case na => simp [appNames, ints, intss] <;> first | kernel_rfl | (refine ⟨?_, ?_⟩ <;> kernel_rfl)))
   | fail)
  refine cx_k x1.next ?_
  intro h2 x2
  obtain ⟨r1, hr_m, hs_m⟩ := szImage m 1048576 (by omega) (by omega) d_m.sizes d_m.code
  repeat' (first
   | with_reducible refine stp ?_
   | with_reducible refine k_blk_o rfl ?_
   | ((try (conv => arg 1; simp [x2.b1])); with_reducible refine evp ?_)
   | ((with_reducible refine apn ?na ?_); (case na => simp [appNames, ints, intss] <;> first | kernel_rfl | (refine ⟨?_, ?_⟩ <;> kernel_rfl)))
   | fail)
  refine st_tree rfl (hr_m) (.cons (dr_agg (drs_image m fun h => h)) (.cons (.int _ _) .nil)) ?_
  repeat' (first
   | with_reducible refine stp ?_
   | with_reducible refine k_blk_o rfl ?_
   | ((try (conv => arg 1; simp [x2.b1])); with_reducible refine evp ?_)
   | ((with_reducible refine apn ?na ?_); (case na => simp [appNames, ints, intss] <;> first | kernel_rfl | (refine ⟨?_, ?_⟩ <;> kernel_rfl)))
   | fail)
  refine cx_k x2.next ?_
  intro h3 x3
  repeat' (first
   | with_reducible refine stp ?_
   | with_reducible refine k_blk_o rfl ?_
   | ((try (conv => arg 1; simp [hnil])); with_reducible refine evp ?_)
   | ((with_reducible refine apn ?na ?_); (case na => simp [appNames, ints, intss] <;> first | kernel_rfl | (refine ⟨?_, ?_⟩ <;> kernel_rfl)))
   | fail)
  refine cx_k x3.next ?_
  intro h4 x4
  by_cases hneg : r1 < 0
  · skip
    repeat' (first
     | with_reducible refine stp ?_
     | with_reducible refine k_blk_o rfl ?_
     | with_reducible refine k_seq_n ?_
     | ((try (conv => arg 1; simp [hneg])); with_reducible refine evp ?_)
     | ((with_reducible refine apn ?na ?_); (case na => simp [appNames, ints, intss] <;> first | kernel_rfl | (refine ⟨?_, ?_⟩ <;> kernel_rfl)))
     | fail)
    rfl
  repeat' (first
   | with_reducible refine stp ?_
   | with_reducible refine k_blk_o rfl ?_
   | ((try (conv => arg 1; simp [hneg])); with_reducible refine evp ?_)
   | ((with_reducible refine apn ?na ?_); (case na => simp [appNames, ints, intss] <;> first | kernel_rfl | (refine ⟨?_, ?_⟩ <;> kernel_rfl)))
   | fail)
  refine k_seq_n ?_
  replace hs_m := hs_m.resolve_left hneg
  obtain ⟨hs_m, hg1_m, hg2_m⟩ := hs_m
  obtain ⟨r2, hr_c, hs_c⟩ := szCpu c r1 (by omega) (by omega) d_c.regs d_c.slots d_c.mem d_c.mem' d_c.input d_c.out
  repeat' (first
   | with_reducible refine stp ?_
   | with_reducible refine k_blk_o rfl ?_
   | ((try (conv => arg 1; simp [x4.b0])); with_reducible refine evp ?_)
   | ((with_reducible refine apn ?na ?_); (case na => simp [appNames, ints, intss] <;> first | kernel_rfl | (refine ⟨?_, ?_⟩ <;> kernel_rfl)))
   | fail)
  refine st_tree rfl (hr_c) (.cons (dr_agg (drs_cpu c fun h => h)) (.cons (.int _ _) .nil)) ?_
  repeat' (first
   | with_reducible refine stp ?_
   | with_reducible refine k_blk_o rfl ?_
   | ((try (conv => arg 1; simp [x4.b0])); with_reducible refine evp ?_)
   | ((with_reducible refine apn ?na ?_); (case na => simp [appNames, ints, intss] <;> first | kernel_rfl | (refine ⟨?_, ?_⟩ <;> kernel_rfl)))
   | fail)
  refine cx_k x4.next ?_
  intro h5 x5
  repeat' (first
   | with_reducible refine stp ?_
   | with_reducible refine k_blk_o rfl ?_
   | ((try (conv => arg 1; simp [hnil])); with_reducible refine evp ?_)
   | ((with_reducible refine apn ?na ?_); (case na => simp [appNames, ints, intss] <;> first | kernel_rfl | (refine ⟨?_, ?_⟩ <;> kernel_rfl)))
   | fail)
  refine cx_k x5.next ?_
  intro h6 x6
  by_cases hneg : r2 < 0
  · skip
    repeat' (first
     | with_reducible refine stp ?_
     | with_reducible refine k_blk_o rfl ?_
     | with_reducible refine k_seq_n ?_
     | ((try (conv => arg 1; simp [hneg])); with_reducible refine evp ?_)
     | ((with_reducible refine apn ?na ?_); (case na => simp [appNames, ints, intss] <;> first | kernel_rfl | (refine ⟨?_, ?_⟩ <;> kernel_rfl)))
     | fail)
    rfl
  repeat' (first
   | with_reducible refine stp ?_
   | with_reducible refine k_blk_o rfl ?_
   | ((try (conv => arg 1; simp [hneg])); with_reducible refine evp ?_)
   | ((with_reducible refine apn ?na ?_); (case na => simp [appNames, ints, intss] <;> first | kernel_rfl | (refine ⟨?_, ?_⟩ <;> kernel_rfl)))
   | fail)
  refine k_seq_n ?_
  replace hs_c := hs_c.resolve_left hneg
  have S := (specCpuBreak m c hs_m hs_c word n).pure
  have I := implCpuBreak m c hs_m hs_c word n
  have hr := breakRes_mid m hs_c word n
  generalize hRB : breakRes m c word n = RB at S I hr
  obtain ⟨R, B⟩ := RB
  dsimp only at S I hr
  have ⟨ht1, ht2⟩ := hr.tot
  repeat (with_reducible first | refine stp ?_ | refine k_seq_n ?_)
  refine st_lz (by kernel_rfl) ?_
  have hF := And.intro x6.b1 (And.intro x6.b0 (And.intro x6.l1 x6.l0))
  repeat' (first
   | with_reducible refine stp ?_
   | with_reducible refine k_blk_o rfl ?_
   | ((try (conv => arg 1; simp [Cpu.cells, Image.cells, Cpu.cells, hF])); with_reducible refine evp ?_)
   | ((with_reducible refine apn ?na ?_); (case na => simp [appNames, ints, intss] <;> first | kernel_rfl | (refine ⟨?_, ?_⟩ <;> kernel_rfl)))
   | ((with_reducible refine tcl ?_); first | ((apply tg ((toImage m hs_m).pure)); (case e => rfl); (case d => (refine dq ?_); (repeat' (first | ((refine Da.mk ?_); first | exact dr_words (by simp) _ | assumption) | constructor)))) | ((apply tg ((toCpu c hs_c).pure)); (case e => rfl); (case d => (refine dq ?_); (repeat' (first | ((refine Da.mk ?_); first | exact dr_words (by simp) _ | assumption) | constructor)))) | ((apply tg (S)); (case e => rfl); (case d => (refine dq ?_); (repeat' (first | ((refine Da.mk ?_); first | exact dr_words (by simp) _ | assumption) | constructor)))))
    | ((with_reducible refine la_id ?_); refine la_end rfl ?_; (repeat (first | refine pl_nil ?_ | refine pl_cons ?_)))
    | ((with_reducible refine la_id ?_); refine la_pick ?_; (conv => arg 1; whnf); (repeat ((fail_if_success (first | ((refine la_q0 rfl ?_); (try (conv => arg 1; simp [Cpu.cells, Image.cells, Cpu.cells, hF])); with_reducible refine evp ?_) | ((refine la_n rfl rfl ?_); (try (conv => arg 1; simp [Cpu.cells, Image.cells, Cpu.cells, hF])); with_reducible refine evp ?_) | ((refine la_q2 rfl (by decide +kernel) ?_); (repeat (first | refine bk_nil ?_ | refine bk_t (by decide +kernel) ?_ | refine bk_f (by decide +kernel) ?_)); (try (conv => arg 1; simp [Cpu.cells, Image.cells, Cpu.cells, hF])); with_reducible refine evp ?_) | ((refine la_q1 rfl (by decide +kernel) ?_); (try (conv => arg 1; simp [Cpu.cells, Image.cells, Cpu.cells, hF])); with_reducible refine evp ?_) | ((refine la_g0 rfl ?_); (try (conv => arg 1; simp [Cpu.cells, Image.cells, Cpu.cells, hF])); with_reducible refine evp ?_; (with_reducible refine evp ?_); try ((try (conv => arg 1; simp [Cpu.cells, Image.cells, Cpu.cells, hF])); with_reducible refine evp ?_)))); (refine la_there ?_); (conv => arg 1; whnf))); first | ((refine la_q0 rfl ?_); (try (conv => arg 1; simp [Cpu.cells, Image.cells, Cpu.cells, hF])); with_reducible refine evp ?_) | ((refine la_n rfl rfl ?_); (try (conv => arg 1; simp [Cpu.cells, Image.cells, Cpu.cells, hF])); with_reducible refine evp ?_) | ((refine la_q2 rfl (by decide +kernel) ?_); (repeat (first | refine bk_nil ?_ | refine bk_t (by decide +kernel) ?_ | refine bk_f (by decide +kernel) ?_)); (try (conv => arg 1; simp [Cpu.cells, Image.cells, Cpu.cells, hF])); with_reducible refine evp ?_) | ((refine la_q1 rfl (by decide +kernel) ?_); (try (conv => arg 1; simp [Cpu.cells, Image.cells, Cpu.cells, hF])); with_reducible refine evp ?_) | ((refine la_g0 rfl ?_); (try (conv => arg 1; simp [Cpu.cells, Image.cells, Cpu.cells, hF])); with_reducible refine evp ?_; (with_reducible refine evp ?_); try ((try (conv => arg 1; simp [Cpu.cells, Image.cells, Cpu.cells, hF])); with_reducible refine evp ?_)))
    | ((with_reducible refine la_id ?_); refine la_all rfl ?_)
    | ((with_reducible refine all_id ?_); (conv => arg 1; whnf); first | exact all_nil | refine all_cons ?_ ?_)
    | (refine la_op rfl (by first | exact frm_s (by decide +kernel) | exact frm_a (by repeat' (first | exact fa_nil | refine fa_cons (by decide +kernel) ?_))) (by intro _; first | exact trivial | simp [appT, Cpu.cells, Image.cells, Cpu.cells, hF]) ?_; (repeat (first | refine bk_nil ?_ | refine bk_t (by decide +kernel) ?_ | refine bk_f (by decide +kernel) ?_)))
   | fail)
  refine cx_k (x6.next.box_new x6.off (by simp [hp_next_tick])) ?_
  intro h7 x7
  repeat' (first
   | with_reducible refine stp ?_
   | with_reducible refine k_blk_o rfl ?_
   | ((try (conv => arg 1; simp [x7.b2])); with_reducible refine evp ?_)
   | ((with_reducible refine apn ?na ?_); (case na => simp [appNames, ints, intss] <;> first | kernel_rfl | (refine ⟨?_, ?_⟩ <;> kernel_rfl)))
   | fail)
  refine st_fresh rfl (toImage m hs_m) (.cons (dr_agg (drs_image m fun h => h)) .nil) ?_
  intro v1 h8 n1 o1 e1 f1 p1 t1
  have x8 := x7.next.fresh o1 e1 f1 p1 t1
  have z8 : h7.tick < h8.tick := by simp only [hp_next_tick] at t1; omega
  obtain ⟨wa1, wb1, _, _, rfl, _, qa1, qb1⟩ := ownV_image (o1 true)
  have qa1 := own_one qa1
  have qb1 := own_one' qb1
  repeat' (first
   | with_reducible refine stp ?_
   | with_reducible refine k_blk_o rfl ?_
   | ((try (conv => arg 1; simp [x8.b2, z8, qa1.1, qb1.1])); with_reducible refine evp ?_)
   | ((with_reducible refine apn ?na ?_); (case na => simp [appNames, ints, intss] <;> first | kernel_rfl | (refine ⟨?_, ?_⟩ <;> kernel_rfl)))
   | fail)
  refine cx_k (x8.box_new (x7.off.fresh f1 (by simp [hp_next_tick])) z8) ?_
  intro h9 x9
  repeat' (first
   | with_reducible refine stp ?_
   | with_reducible refine k_blk_o rfl ?_
   | ((try (conv => arg 1; simp [x9.b2])); with_reducible refine evp ?_)
   | ((with_reducible refine apn ?na ?_); (case na => simp [appNames, ints, intss] <;> first | kernel_rfl | (refine ⟨?_, ?_⟩ <;> kernel_rfl)))
   | fail)
  refine st_fresh rfl (toCpu c hs_c) (.cons (dr_agg (drs_cpu c fun h => h)) .nil) ?_
  intro v2 h10 n2 o2 e2 f2 p2 t2
  have x10 := x9.next.fresh o2 e2 f2 p2 t2
  have z10 : h9.tick < h10.tick := by simp only [hp_next_tick] at t2; omega
  obtain ⟨wa2, wb2, wc2, wd2, we2, _, _, _, _, _, rfl, _, qa2, qb2, qc2, qd2, qe2⟩ := ownV_cpu (o2 true)
  have qa2 := own_one qa2
  have qb2 := own_one qb2
  have qc2 := own_one qc2
  have qd2 := own_one qd2
  have qe2 := own_one qe2
  repeat' (first
   | with_reducible refine stp ?_
   | with_reducible refine k_blk_o rfl ?_
   | ((try (conv => arg 1; simp [x10.b2, z10, qa2.1, qb2.1, qc2.1, qd2.1, qe2.1])); with_reducible refine evp ?_)
   | ((with_reducible refine apn ?na ?_); (case na => simp [appNames, ints, intss] <;> first | kernel_rfl | (refine ⟨?_, ?_⟩ <;> kernel_rfl)))
   | fail)
  refine cx_k (x10.box_new (x9.off.fresh f2 (by simp [hp_next_tick])) z10) ?_
  intro h11 x11
  repeat' (first
   | with_reducible refine stp ?_
   | with_reducible refine k_blk_o rfl ?_
   | ((try (conv => arg 1; simp [x11.b1, x11.b0, qa1.1, qb1.1, qa2.1, qb2.1, qc2.1, qd2.1, qe2.1])); with_reducible refine evp ?_)
   | ((with_reducible refine apn ?na ?_); (case na => simp [appNames, ints, intss] <;> first | kernel_rfl | (refine ⟨?_, ?_⟩ <;> kernel_rfl)))
   | fail)
  refine st_freshw rfl I (.cons ((x11.next.o1 true).dr) (.cons ((x11.next.o0 true).dr) (.cons (.int _ _) (.cons (.int _ _) .nil)))) ?_
  intro v3 h12 n3 o3 e3 f3 p3 t3
  obtain ⟨v3, rfl, ow3⟩ := ownV_pair o3
  clear o3
  have o3 := ow3
  have x12 := x11.next.fresh o3 e3 f3 p3 t3
  have z12 : h11.tick < h12.tick := by simp only [hp_next_tick] at t3; omega
  obtain ⟨wa3, wb3, wc3, wd3, we3, _, _, _, _, _, rfl, _, qa3, qb3, qc3, qd3, qe3⟩ := ownV_cpu (o3 true)
  have qa3 := own_one qa3
  have qb3 := own_one qb3
  have qc3 := own_one qc3
  have qd3 := own_one qd3
  have qe3 := own_one qe3
  repeat' (first
   | with_reducible refine stp ?_
   | with_reducible refine k_blk_o rfl ?_
   | ((try (conv => arg 1; simp [x12.b1, x12.b0, qa1.1, qb1.1, qa2.1, qb2.1, qc2.1, qd2.1, qe2.1, z12, qa3.1, qb3.1, qc3.1, qd3.1, qe3.1])); with_reducible refine evp ?_)
   | ((with_reducible refine apn ?na ?_); (case na => simp [appNames, ints, intss] <;> first | kernel_rfl | (refine ⟨?_, ?_⟩ <;> kernel_rfl)))
   | fail)
  refine cx_k (x12.box_new (x11.off.fresh f3 (by simp [hp_next_tick])) z12) ?_
  intro h13 x13
  repeat' (first
   | with_reducible refine stp ?_
   | with_reducible refine k_blk_o rfl ?_
   | ((try (conv => arg 1; simp [x13.b0, x13.b3, qa3.1, qb3.1, qc3.1, qd3.1, qe3.1])); with_reducible refine evp ?_)
   | ((with_reducible refine apn ?na ?_); (case na => simp [appNames, ints, intss] <;> first | kernel_rfl | (refine ⟨?_, ?_⟩ <;> kernel_rfl)))
   | fail)
  refine st_tree rfl (eqCpuM R hr) (.cons ((x13.next.o0 true).dr) (.cons (dr_agg (drs_cpu R (by simp))) .nil)) ?_
  repeat' (first
   | with_reducible refine stp ?_
   | with_reducible refine k_blk_o rfl ?_
   | ((try (conv => arg 1; simp [x13.b0, x13.b3, qa3.1, qb3.1, qc3.1, qd3.1, qe3.1])); with_reducible refine evp ?_)
   | ((with_reducible refine apn ?na ?_); (case na => simp [appNames, ints, intss] <;> first | kernel_rfl | (refine ⟨?_, ?_⟩ <;> kernel_rfl)))
   | fail)
  refine cx_k x13.next ?_
  intro h14 x14
  repeat' (first
   | with_reducible refine stp ?_
   | with_reducible refine k_blk_o rfl ?_
   | ((try (conv => arg 1; simp [hnil])); with_reducible refine evp ?_)
   | ((with_reducible refine apn ?na ?_); (case na => simp [appNames, ints, intss] <;> first | kernel_rfl | (refine ⟨?_, ?_⟩ <;> kernel_rfl)))
   | fail)
  refine k_seq_n ?_
  repeat' (first
   | with_reducible refine stp ?_
   | with_reducible refine k_blk_o rfl ?_
   | ((try (conv => arg 1; simp [hnil])); with_reducible refine evp ?_)
   | ((with_reducible refine apn ?na ?_); (case na => simp [appNames, ints, intss] <;> first | kernel_rfl | (refine ⟨?_, ?_⟩ <;> kernel_rfl)))
   | fail)
  repeat (with_reducible first | refine stp ?_ | refine k_seq_n ?_)
  refine st_draw 5 (fun _ => false) (by kernel_rfl) ?_
  simp only [List.take_succ_cons, List.take_zero, List.drop_succ_cons, List.drop_zero, List.take_nil, List.drop_nil]
  repeat' (first
   | with_reducible refine stp ?_
   | with_reducible refine k_blk_o rfl ?_
   | ((try (conv => arg 1; simp [x14.b2, x14.b5, x14.l2, x14.l5, qa1.1, qb1.1])); with_reducible refine evp ?_)
   | ((with_reducible refine apn ?na ?_); (case na => simp [appNames, ints, intss] <;> first | kernel_rfl | (refine ⟨?_, ?_⟩ <;> kernel_rfl)))
   | fail)
  refine treeW_pure (toImage m hs_m).pure (.cons (dr_agg (drs_image m fun h => h)) .nil) ?_
  repeat' (first
   | with_reducible refine stp ?_
   | with_reducible refine k_blk_o rfl ?_
   | ((try (conv => arg 1; simp [x14.b2, x14.b5, x14.l2, x14.l5, qa1.1, qb1.1])); with_reducible refine evp ?_)
   | ((with_reducible refine apn ?na ?_); (case na => simp [appNames, ints, intss] <;> first | kernel_rfl | (refine ⟨?_, ?_⟩ <;> kernel_rfl)))
   | fail)
  refine treeW_pure (eqImage m hs_m) (.cons ((x14.m2 true).dr) (.cons (dr_agg (drs_image m (by simp))) .nil)) ?_
  repeat' (first
   | with_reducible refine stp ?_
   | with_reducible refine k_blk_o rfl ?_
   | ((try (conv => arg 1; simp [x14.b2, x14.b5, x14.l2, x14.l5, qa1.1, qb1.1])); with_reducible refine evp ?_)
   | ((with_reducible refine apn ?na ?_); (case na => simp [appNames, ints, intss] <;> first | kernel_rfl | (refine ⟨?_, ?_⟩ <;> kernel_rfl)))
   | fail)
  refine cx_k x14.next ?_
  intro h15 x15
  repeat' (first
   | with_reducible refine stp ?_
   | with_reducible refine k_blk_o rfl ?_
   | ((try (conv => arg 1; simp [hnil])); with_reducible refine evp ?_)
   | ((with_reducible refine apn ?na ?_); (case na => simp [appNames, ints, intss] <;> first | kernel_rfl | (refine ⟨?_, ?_⟩ <;> kernel_rfl)))
   | fail)
  refine k_seq_n ?_
  repeat' (first
   | with_reducible refine stp ?_
   | with_reducible refine k_blk_o rfl ?_
   | ((try (conv => arg 1; simp [hnil])); with_reducible refine evp ?_)
   | ((with_reducible refine apn ?na ?_); (case na => simp [appNames, ints, intss] <;> first | kernel_rfl | (refine ⟨?_, ?_⟩ <;> kernel_rfl)))
   | fail)
  repeat (with_reducible first | refine stp ?_ | refine k_seq_n ?_)
  refine st_draw 5 (fun _ => false) (by kernel_rfl) ?_
  simp only [List.take_succ_cons, List.take_zero, List.drop_succ_cons, List.drop_zero, List.take_nil, List.drop_nil]
  repeat' (first
   | with_reducible refine stp ?_
   | with_reducible refine k_blk_o rfl ?_
   | ((try (conv => arg 1; simp [x15.b1, x15.b4, x15.l1, x15.l4, qa2.1, qb2.1, qc2.1, qd2.1, qe2.1])); with_reducible refine evp ?_)
   | ((with_reducible refine apn ?na ?_); (case na => simp [appNames, ints, intss] <;> first | kernel_rfl | (refine ⟨?_, ?_⟩ <;> kernel_rfl)))
   | fail)
  refine treeW_pure (toCpu c hs_c).pure (.cons (dr_agg (drs_cpu c fun h => h)) .nil) ?_
  repeat' (first
   | with_reducible refine stp ?_
   | with_reducible refine k_blk_o rfl ?_
   | ((try (conv => arg 1; simp [x15.b1, x15.b4, x15.l1, x15.l4, qa2.1, qb2.1, qc2.1, qd2.1, qe2.1])); with_reducible refine evp ?_)
   | ((with_reducible refine apn ?na ?_); (case na => simp [appNames, ints, intss] <;> first | kernel_rfl | (refine ⟨?_, ?_⟩ <;> kernel_rfl)))
   | fail)
  refine treeW_pure (eqCpu c hs_c) (.cons ((x15.m1 true).dr) (.cons (dr_agg (drs_cpu c (by simp))) .nil)) ?_
  repeat' (first
   | with_reducible refine stp ?_
   | with_reducible refine k_blk_o rfl ?_
   | ((try (conv => arg 1; simp [x15.b1, x15.b4, x15.l1, x15.l4, qa2.1, qb2.1, qc2.1, qd2.1, qe2.1])); with_reducible refine evp ?_)
   | ((with_reducible refine apn ?na ?_); (case na => simp [appNames, ints, intss] <;> first | kernel_rfl | (refine ⟨?_, ?_⟩ <;> kernel_rfl)))
   | fail)
  refine cx_k x15.next ?_
  intro h16 x16
  repeat' (first
   | with_reducible refine stp ?_
   | with_reducible refine k_blk_o rfl ?_
   | ((try (conv => arg 1; simp [hnil])); with_reducible refine evp ?_)
   | ((with_reducible refine apn ?na ?_); (case na => simp [appNames, ints, intss] <;> first | kernel_rfl | (refine ⟨?_, ?_⟩ <;> kernel_rfl)))
   | fail)
  refine k_seq_n ?_
  repeat' (first
   | with_reducible refine stp ?_
   | with_reducible refine k_blk_o rfl ?_
   | ((try (conv => arg 1; simp [hnil])); with_reducible refine evp ?_)
   | ((with_reducible refine apn ?na ?_); (case na => simp [appNames, ints, intss] <;> first | kernel_rfl | (refine ⟨?_, ?_⟩ <;> kernel_rfl)))
   | fail)
  refine cx_k x16.next ?_
  intro h17 x17
  repeat' (first
   | with_reducible refine stp ?_
   | with_reducible refine k_blk_o rfl ?_
   | ((try (conv => arg 1; simp [x17.b2, qa1.1, qb1.1])); with_reducible refine evp ?_)
   | ((with_reducible refine apn ?na ?_); (case na => simp [appNames, ints, intss] <;> first | kernel_rfl | (refine ⟨?_, ?_⟩ <;> kernel_rfl)))
   | fail)
  have y1 := x17.next.rot2
  refine st_heap rfl (markImage (y1.o0 true) y1.nodup y1.lts hs_m (1) (by omega) (by omega)) ?_
  rintro r h18 ⟨⟨k1, rfl, hk1, hk1'⟩, pk1, tk1⟩
  have x18 := y1.forget pk1 tk1
  repeat' (first
   | with_reducible refine stp ?_
   | with_reducible refine k_blk_o rfl ?_
   | ((try (conv => arg 1; simp [x18.b2, qa1.1, qb1.1])); with_reducible refine evp ?_)
   | ((with_reducible refine apn ?na ?_); (case na => simp [appNames, ints, intss] <;> first | kernel_rfl | (refine ⟨?_, ?_⟩ <;> kernel_rfl)))
   | fail)
  refine cx_k x18 ?_
  intro h19 x19
  repeat' (first
   | with_reducible refine stp ?_
   | with_reducible refine k_blk_o rfl ?_
   | ((try (conv => arg 1; simp [x19.b1, qa2.1, qb2.1, qc2.1, qd2.1, qe2.1])); with_reducible refine evp ?_)
   | ((with_reducible refine apn ?na ?_); (case na => simp [appNames, ints, intss] <;> first | kernel_rfl | (refine ⟨?_, ?_⟩ <;> kernel_rfl)))
   | fail)
  have y2 := x19.next.rot1
  refine st_heap rfl (markCpu (y2.o0 true) y2.nodup y2.lts hs_c (k1) (by omega) (by omega)) ?_
  rintro r h20 ⟨⟨k2, rfl, hk2⟩, pk2, tk2⟩
  have x20 := y2.forget pk2 tk2
  repeat' (first
   | with_reducible refine stp ?_
   | with_reducible refine k_blk_o rfl ?_
   | ((try (conv => arg 1; simp [x20.b1, qa2.1, qb2.1, qc2.1, qd2.1, qe2.1])); with_reducible refine evp ?_)
   | ((with_reducible refine apn ?na ?_); (case na => simp [appNames, ints, intss] <;> first | kernel_rfl | (refine ⟨?_, ?_⟩ <;> kernel_rfl)))
   | fail)
  refine cx_k x20 ?_
  intro h21 x21
  have hkneg : ¬ k2 < 0 := by omega
  repeat' (first
   | with_reducible refine stp ?_
   | with_reducible refine k_blk_o rfl ?_
   | ((try (conv => arg 1; simp [x21.b0, x21.b3, qa3.1, qb3.1, qc3.1, qd3.1, qe3.1, hkneg])); with_reducible refine evp ?_)
   | ((with_reducible refine apn ?na ?_); (case na => simp [appNames, ints, intss] <;> first | kernel_rfl | (refine ⟨?_, ?_⟩ <;> kernel_rfl)))
   | fail)
  refine st_tree rfl (eqCpuM R hr) (.cons ((x21.next.o0 true).dr) (.cons (dr_agg (drs_cpu R (by simp))) .nil)) ?_
  repeat' (first
   | with_reducible refine stp ?_
   | with_reducible refine k_blk_o rfl ?_
   | ((try (conv => arg 1; simp [x21.b0, x21.b3, qa3.1, qb3.1, qc3.1, qd3.1, qe3.1, hkneg])); with_reducible refine evp ?_)
   | ((with_reducible refine apn ?na ?_); (case na => simp [appNames, ints, intss] <;> first | kernel_rfl | (refine ⟨?_, ?_⟩ <;> kernel_rfl)))
   | fail)
  refine cx_k x21.next ?_
  intro h22 x22
  repeat' (first
   | with_reducible refine stp ?_
   | with_reducible refine k_blk_o rfl ?_
   | ((try (conv => arg 1; simp [hkneg])); with_reducible refine evp ?_)
   | ((with_reducible refine apn ?na ?_); (case na => simp [appNames, ints, intss] <;> first | kernel_rfl | (refine ⟨?_, ?_⟩ <;> kernel_rfl)))
   | fail)
  refine k_seq_n ?_
  repeat' (first
   | with_reducible refine stp ?_
   | with_reducible refine k_blk_o rfl ?_
   | ((try (conv => arg 1; simp [hkneg])); with_reducible refine evp ?_)
   | ((with_reducible refine apn ?na ?_); (case na => simp [appNames, ints, intss] <;> first | kernel_rfl | (refine ⟨?_, ?_⟩ <;> kernel_rfl)))
   | fail)
  refine cx_k x22.next ?_
  intro h23 x23
  repeat' (first
   | with_reducible refine stp ?_
   | with_reducible refine k_blk_o rfl ?_
   | ((try (conv => arg 1; simp [x23.b0, qa3.1, qb3.1, qc3.1, qd3.1, qe3.1, hkneg])); with_reducible refine evp ?_)
   | ((with_reducible refine apn ?na ?_); (case na => simp [appNames, ints, intss] <;> first | kernel_rfl | (refine ⟨?_, ?_⟩ <;> kernel_rfl)))
   | fail)
  have y3 := x23.next.rot0
  refine st_heap rfl (markCpuX y3 hr 1 (by omega) (by omega)) ?_
  rintro r h24 ⟨rfl, ng, x24⟩
  have hgneg : ¬ 1 + R.tot < 0 := by omega
  repeat' (first
   | with_reducible refine stp ?_
   | with_reducible refine k_blk_o rfl ?_
   | ((try (conv => arg 1; simp [x24.b0, qa3.1, qb3.1, qc3.1, qd3.1, qe3.1, hkneg, hgneg])); with_reducible refine evp ?_)
   | ((with_reducible refine apn ?na ?_); (case na => simp [appNames, ints, intss] <;> first | kernel_rfl | (refine ⟨?_, ?_⟩ <;> kernel_rfl)))
   | fail)
  refine cx_k x24 ?_
  intro h25 x25
  repeat' (first
   | with_reducible refine stp ?_
   | with_reducible refine k_blk_o rfl ?_
   | ((try (conv => arg 1; simp [hkneg, hgneg])); with_reducible refine evp ?_)
   | ((with_reducible refine apn ?na ?_); (case na => simp [appNames, ints, intss] <;> first | kernel_rfl | (refine ⟨?_, ?_⟩ <;> kernel_rfl)))
   | fail)
  refine cx_k x25.next ?_
  intro h26 x26
  repeat' (first
   | with_reducible refine stp ?_
   | with_reducible refine k_blk_o rfl ?_
   | ((try (conv => arg 1; simp [x26.b0, qa3.1, qb3.1, qc3.1, qd3.1, qe3.1, hkneg, hgneg])); with_reducible refine evp ?_)
   | ((with_reducible refine apn ?na ?_); (case na => simp [appNames, ints, intss] <;> first | kernel_rfl | (refine ⟨?_, ?_⟩ <;> kernel_rfl)))
   | fail)
  refine st_tree rfl (heldCpu R hr 1 (by omega) (by omega)) (.cons ((x26.next.o0 true).dr) (.cons (.int _ _) .nil)) ?_
  repeat' (first
   | with_reducible refine stp ?_
   | with_reducible refine k_blk_o rfl ?_
   | ((try (conv => arg 1; simp [x26.b0, qa3.1, qb3.1, qc3.1, qd3.1, qe3.1, hkneg, hgneg])); with_reducible refine evp ?_)
   | ((with_reducible refine apn ?na ?_); (case na => simp [appNames, ints, intss] <;> first | kernel_rfl | (refine ⟨?_, ?_⟩ <;> kernel_rfl)))
   | fail)
  refine cx_k x26.next ?_
  intro h27 x27
  repeat' (first
   | with_reducible refine stp ?_
   | with_reducible refine k_blk_o rfl ?_
   | ((try (conv => arg 1; simp [hkneg, hgneg])); with_reducible refine evp ?_)
   | ((with_reducible refine apn ?na ?_); (case na => simp [appNames, ints, intss] <;> first | kernel_rfl | (refine ⟨?_, ?_⟩ <;> kernel_rfl)))
   | fail)
  refine cx_k x27.next ?_
  intro h28 x28
  repeat' (first
   | with_reducible refine stp ?_
   | with_reducible refine k_blk_o rfl ?_
   | ((try (conv => arg 1; simp [hkneg, hgneg])); with_reducible refine evp ?_)
   | ((with_reducible refine apn ?na ?_); (case na => simp [appNames, ints, intss] <;> first | kernel_rfl | (refine ⟨?_, ?_⟩ <;> kernel_rfl)))
   | fail)
  refine k_seq_n ?_
  repeat' (first
   | with_reducible refine stp ?_
   | with_reducible refine k_blk_o rfl ?_
   | ((try (conv => arg 1; simp [hkneg, hgneg])); with_reducible refine evp ?_)
   | ((with_reducible refine apn ?na ?_); (case na => simp [appNames, ints, intss] <;> first | kernel_rfl | (refine ⟨?_, ?_⟩ <;> kernel_rfl)))
   | fail)
  refine cx_k x28.next ?_
  intro h29 x29
  repeat' (first
   | with_reducible refine stp ?_
   | with_reducible refine k_blk_o rfl ?_
   | ((try (conv => arg 1; simp [hkneg, hgneg])); with_reducible refine evp ?_)
   | ((with_reducible refine apn ?na ?_); (case na => simp [appNames, ints, intss] <;> first | kernel_rfl | (refine ⟨?_, ?_⟩ <;> kernel_rfl)))
   | fail)
  refine k_seq_n ?_
  repeat (with_reducible first | refine stp ?_ | refine k_seq_n ?_)
  refine st_lz (by kernel_rfl) ?_
  have hF := And.intro x29.b5 (And.intro x29.b4 (And.intro x29.l5 (And.intro x29.l4 (And.intro hkneg hgneg))))
  repeat' (first
   | with_reducible refine stp ?_
   | with_reducible refine k_blk_o rfl ?_
   | ((try (conv => arg 1; simp [Cpu.cells, Image.cells, Cpu.cells, hF])); with_reducible refine evp ?_)
   | ((with_reducible refine apn ?na ?_); (case na => simp [appNames, ints, intss] <;> first | kernel_rfl | (refine ⟨?_, ?_⟩ <;> kernel_rfl)))
   | ((with_reducible refine tcl ?_); first | ((apply tg ((toImage m hs_m).pure)); (case e => rfl); (case d => (refine dq ?_); (repeat' (first | ((refine Da.mk ?_); first | exact dr_words (by simp) _ | assumption) | constructor)))) | ((apply tg ((toCpu c hs_c).pure)); (case e => rfl); (case d => (refine dq ?_); (repeat' (first | ((refine Da.mk ?_); first | exact dr_words (by simp) _ | assumption) | constructor)))) | ((apply tg (I.pure)); (case e => rfl); (case d => (refine dq ?_); (repeat' (first | ((refine Da.mk ?_); first | exact dr_words (by simp) _ | assumption) | constructor)))))
    | ((with_reducible refine la_id ?_); refine la_end rfl ?_; (repeat (first | refine pl_nil ?_ | refine pl_cons ?_)))
    | ((with_reducible refine la_id ?_); refine la_pick ?_; (conv => arg 1; whnf); (repeat ((fail_if_success (first | ((refine la_q0 rfl ?_); (try (conv => arg 1; simp [Cpu.cells, Image.cells, Cpu.cells, hF])); with_reducible refine evp ?_) | ((refine la_n rfl rfl ?_); (try (conv => arg 1; simp [Cpu.cells, Image.cells, Cpu.cells, hF])); with_reducible refine evp ?_) | ((refine la_q2 rfl (by decide +kernel) ?_); (repeat (first | refine bk_nil ?_ | refine bk_t (by decide +kernel) ?_ | refine bk_f (by decide +kernel) ?_)); (try (conv => arg 1; simp [Cpu.cells, Image.cells, Cpu.cells, hF])); with_reducible refine evp ?_) | ((refine la_q1 rfl (by decide +kernel) ?_); (try (conv => arg 1; simp [Cpu.cells, Image.cells, Cpu.cells, hF])); with_reducible refine evp ?_) | ((refine la_g0 rfl ?_); (try (conv => arg 1; simp [Cpu.cells, Image.cells, Cpu.cells, hF])); with_reducible refine evp ?_; (with_reducible refine evp ?_); try ((try (conv => arg 1; simp [Cpu.cells, Image.cells, Cpu.cells, hF])); with_reducible refine evp ?_)))); (refine la_there ?_); (conv => arg 1; whnf))); first | ((refine la_q0 rfl ?_); (try (conv => arg 1; simp [Cpu.cells, Image.cells, Cpu.cells, hF])); with_reducible refine evp ?_) | ((refine la_n rfl rfl ?_); (try (conv => arg 1; simp [Cpu.cells, Image.cells, Cpu.cells, hF])); with_reducible refine evp ?_) | ((refine la_q2 rfl (by decide +kernel) ?_); (repeat (first | refine bk_nil ?_ | refine bk_t (by decide +kernel) ?_ | refine bk_f (by decide +kernel) ?_)); (try (conv => arg 1; simp [Cpu.cells, Image.cells, Cpu.cells, hF])); with_reducible refine evp ?_) | ((refine la_q1 rfl (by decide +kernel) ?_); (try (conv => arg 1; simp [Cpu.cells, Image.cells, Cpu.cells, hF])); with_reducible refine evp ?_) | ((refine la_g0 rfl ?_); (try (conv => arg 1; simp [Cpu.cells, Image.cells, Cpu.cells, hF])); with_reducible refine evp ?_; (with_reducible refine evp ?_); try ((try (conv => arg 1; simp [Cpu.cells, Image.cells, Cpu.cells, hF])); with_reducible refine evp ?_)))
    | ((with_reducible refine la_id ?_); refine la_all rfl ?_)
    | ((with_reducible refine all_id ?_); (conv => arg 1; whnf); first | exact all_nil | refine all_cons ?_ ?_)
    | (refine la_op rfl (by first | exact frm_s (by decide +kernel) | exact frm_a (by repeat' (first | exact fa_nil | refine fa_cons (by decide +kernel) ?_))) (by intro _; first | exact trivial | simp [appT, Cpu.cells, Image.cells, Cpu.cells, hF]) ?_; (repeat (first | refine bk_nil ?_ | refine bk_t (by decide +kernel) ?_ | refine bk_f (by decide +kernel) ?_)))
   | fail)
  refine cx_k (x29.next.box_new x29.off (by simp [hp_next_tick])) ?_
  intro h30 x30
  repeat' (first
   | with_reducible refine stp ?_
   | with_reducible refine k_blk_o rfl ?_
   | ((try (conv => arg 1; simp [x30.b0, x30.b4, hkneg, hgneg])); with_reducible refine evp ?_)
   | ((with_reducible refine apn ?na ?_); (case na => simp [appNames, ints, intss] <;> first | kernel_rfl | (refine ⟨?_, ?_⟩ <;> kernel_rfl)))
   | fail)
  refine st_tree rfl (eqCpuM R hr) (.cons (dr_agg (drs_cpu R (by simp))) (.cons (dr_agg (drs_cpu R (by simp))) .nil)) ?_
  repeat' (first
   | with_reducible refine stp ?_
   | with_reducible refine k_blk_o rfl ?_
   | ((try (conv => arg 1; simp [x30.b0, x30.b4, hkneg, hgneg])); with_reducible refine evp ?_)
   | ((with_reducible refine apn ?na ?_); (case na => simp [appNames, ints, intss] <;> first | kernel_rfl | (refine ⟨?_, ?_⟩ <;> kernel_rfl)))
   | fail)
  refine cx_k x30.next ?_
  intro h31 x31
  repeat' (first
   | with_reducible refine stp ?_
   | with_reducible refine k_blk_o rfl ?_
   | ((try (conv => arg 1; simp [hkneg, hgneg])); with_reducible refine evp ?_)
   | ((with_reducible refine apn ?na ?_); (case na => simp [appNames, ints, intss] <;> first | kernel_rfl | (refine ⟨?_, ?_⟩ <;> kernel_rfl)))
   | fail)
  refine k_seq_n ?_
  repeat' (first
   | with_reducible refine stp ?_
   | with_reducible refine k_blk_o rfl ?_
   | ((try (conv => arg 1; simp [hkneg, hgneg])); with_reducible refine evp ?_)
   | ((with_reducible refine apn ?na ?_); (case na => simp [appNames, ints, intss] <;> first | kernel_rfl | (refine ⟨?_, ?_⟩ <;> kernel_rfl)))
   | fail)
  refine cx_k x31.next ?_
  intro h32 x32
  repeat' (first
   | with_reducible refine stp ?_
   | with_reducible refine k_blk_o rfl ?_
   | ((try (conv => arg 1; simp [x32.b1, qa3.1, qb3.1, qc3.1, qd3.1, qe3.1, hkneg, hgneg])); with_reducible refine evp ?_)
   | ((with_reducible refine apn ?na ?_); (case na => simp [appNames, ints, intss] <;> first | kernel_rfl | (refine ⟨?_, ?_⟩ <;> kernel_rfl)))
   | fail)
  refine st_tree rfl (heldCpu R hr 1 (by omega) (by omega)) (.cons ((x32.next.o0 true).dr) (.cons (.int _ _) .nil)) ?_
  repeat' (first
   | with_reducible refine stp ?_
   | with_reducible refine k_blk_o rfl ?_
   | ((try (conv => arg 1; simp [x32.b1, qa3.1, qb3.1, qc3.1, qd3.1, qe3.1, hkneg, hgneg])); with_reducible refine evp ?_)
   | ((with_reducible refine apn ?na ?_); (case na => simp [appNames, ints, intss] <;> first | kernel_rfl | (refine ⟨?_, ?_⟩ <;> kernel_rfl)))
   | fail)
  refine cx_k x32.next ?_
  intro h33 x33
  repeat' (first
   | with_reducible refine stp ?_
   | with_reducible refine k_blk_o rfl ?_
   | ((try (conv => arg 1; simp [hkneg, hgneg])); with_reducible refine evp ?_)
   | ((with_reducible refine apn ?na ?_); (case na => simp [appNames, ints, intss] <;> first | kernel_rfl | (refine ⟨?_, ?_⟩ <;> kernel_rfl)))
   | fail)
  refine cx_k x33.next ?_
  intro h34 x34
  repeat' (first
   | with_reducible refine stp ?_
   | with_reducible refine k_blk_o rfl ?_
   | ((try (conv => arg 1; simp [hkneg, hgneg])); with_reducible refine evp ?_)
   | ((with_reducible refine apn ?na ?_); (case na => simp [appNames, ints, intss] <;> first | kernel_rfl | (refine ⟨?_, ?_⟩ <;> kernel_rfl)))
   | fail)
  refine k_seq_n ?_
  repeat' (first
   | with_reducible refine stp ?_
   | with_reducible refine k_blk_o rfl ?_
   | ((try (conv => arg 1; simp [hkneg, hgneg])); with_reducible refine evp ?_)
   | ((with_reducible refine apn ?na ?_); (case na => simp [appNames, ints, intss] <;> first | kernel_rfl | (refine ⟨?_, ?_⟩ <;> kernel_rfl)))
   | fail)
  refine cx_k x34.next ?_
  intro h35 x35
  repeat' (first
   | with_reducible refine stp ?_
   | with_reducible refine k_blk_o rfl ?_
   | ((try (conv => arg 1; simp [hkneg, hgneg])); with_reducible refine evp ?_)
   | ((with_reducible refine apn ?na ?_); (case na => simp [appNames, ints, intss] <;> first | kernel_rfl | (refine ⟨?_, ?_⟩ <;> kernel_rfl)))
   | fail)
  refine k_seq_n ?_
  repeat' (first
   | with_reducible refine stp ?_
   | with_reducible refine k_blk_o rfl ?_
   | with_reducible refine k_seq_n ?_
   | ((try (conv => arg 1; simp [hkneg, hgneg])); with_reducible refine evp ?_)
   | ((with_reducible refine apn ?na ?_); (case na => simp [appNames, ints, intss] <;> first | kernel_rfl | (refine ⟨?_, ?_⟩ <;> kernel_rfl)))
   | fail)
  rfl
end Go.Proofs.Ytfgaoojogididaa.AM


namespace Go.Proofs.Ytfgaoojogididaa.fnExactCpuBreak
open Go.ChangeShapes Go.WideShapes Go.ChangeAt Go.RowKit
set_option linter.unusedVariables false
theorem own : ownKnob Try.prog.godebug = none := by kernel_rfl

theorem sound (l : List AM.AV) (h : AM.ShpAll Try.prog [39, 25, 3, 3] l) : AM.Sound Try.prog 11 l (.mt 0) fun v _ => v = .bool true := by
  obtain ⟨cells0, l0, g0, e0, k0⟩ := AM.shpAll_cons h
  obtain ⟨cells1, l1, g1, e1, k1⟩ := AM.shpAll_cons k0
  obtain ⟨cells2, l2, g2, e2, k2⟩ := AM.shpAll_cons k1
  obtain ⟨cells3, l3, g3, e3, k3⟩ := AM.shpAll_cons k2
  have e' := AM.shpAll_nil k3
  subst e' e3 e2 e1 e0
  obtain ⟨a0, rfl, d0⟩ := AM.shp_image g0
  obtain ⟨a1, rfl, d1⟩ := AM.shp_cpu g1
  obtain ⟨a2, rfl, d2⟩ := g2.int_inv AM.und_3
  obtain ⟨a3, rfl, d3⟩ := g3.int_inv AM.und_3
  rw [AM.agg_39, AM.agg_25, AM.av_3, AM.av_3]
  exact AM.lawCpuBreak a0 a1 a2 a3 d0 d1 d2 d3

set_option maxRecDepth 100000 in
theorem lifted (os : Os) (started : os.Started) (H : Type) (enc : TypeId × Value → H) :
    ReturnsInHanded {} Try.checked os 11 .any (Rows.fnExactCpuBreakSpec.pre6 enc Try.prog Try.f11 Rows.fnExactCpuBreakRow.domain false) (Rows.fnExactCpuBreakSpec.post enc Try.prog Try.f11 false true false false) := by
  refine returnsInHanded_of_change_sized (C := Try.checked) own started (by kernel_rfl) Try.func11
    (ChangeSpec.witness6 (enc := enc) (C := Try.checked) false ⟨#[], #[.agg #[.slice none 0 0, .int .i64 0, .int .i64 0, .slice none 0 0], .agg #[.int .i64 0, .slice none 0 0, .slice none 0 0, .slice none 0 0, .slice none 0 0, .slice none 0 0, .int .i64 0, .bool false, .int .i64 0], .int .i64 0, .int .i64 0], []⟩ 8 (by kernel_rfl) (by kernel_rfl) (by kernel_rfl) (by kernel_rfl)) ?_
  intro W base args ds gs before hval0 hW hcnd hsz0 _
  have hval : ∀ (j : Nat) t v, Try.f11.params[j]? = some t → args[j]? = some v → Value.okWide Try.prog W .any base t v := hval0
  have hW' := hW
  obtain ⟨p, q, hA0, hV, rfl, hfz, hnd⟩ := hW
  have hA : DataW.TrodAll enc Try.prog W 0 (fun _ => true) true Try.f11.params.toList args.toList ds p := hA0
  rw [Try.params11] at hA hval
  obtain ⟨v0, vs0, d0, ds0, p0, q0, hargs, rfl, rfl, h0, r0⟩ := trodAll_cons hA
  obtain ⟨v1, vs1, d1, ds1, p1, q1, rfl, rfl, rfl, h1, r1⟩ := trodAll_cons r0
  obtain ⟨v2, vs2, d2, ds2, p2, q2, rfl, rfl, rfl, h2, r2⟩ := trodAll_cons r1
  obtain ⟨v3, vs3, d3, ds3, p3, q3, rfl, rfl, rfl, h3, r3⟩ := trodAll_cons r2
  obtain ⟨rfl, rfl, rfl⟩ := trodAll_nil r3
  obtain rfl : args = #[v0, v1, v2, v3] := by cases args; simp_all
  obtain ⟨rfl, rfl⟩ := trodVars_none hV
  clear hA0 hval0 hsz0
  refine (AM.law_calls (params := [39, 25, 3, 3]) (ts := [39, 3, 22, 37, 94, 25, 4, 23]) sound (by kernel_rfl) (by simp) (args := #[v0, v1, v2, v3]) (fun j t v a b => hval j t v (by simpa using a) b) hA).mono fun e W' ⟨he, bel⟩ => ?_
  subst he
  exact ⟨_, rfl, _, _, _, [], _, [], hW', trodAll_mk1 (shut_bool Try.underlying4 _), AM.back_all AM.laid bel _ _ _ _ (by kernel_rfl) hA, rfl, bel.frame _, fun h => by cases h⟩
theorem over : Rows.fnExactCpuBreakRow.holds Try.pinned (OpenSpec.ofChange Rows.fnExactCpuBreakSpec) :=
  OpenClaim.holds_of_wide 11 Try.f11 rfl rfl rfl rfl rfl rfl rfl ⟨rfl, rfl, rfl, rfl, rfl⟩ rfl rfl rfl rfl rfl (by kernel_rfl) Try.func11 (by kernel_rfl)
    (of_decide_eq_true (by kernel_rfl)) (by unfold Func.isWrapper; first | (rw [if_pos (by decide +kernel)]; kernel_rfl) | (rw [if_neg (by decide +kernel)]; exact ⟨rfl, rfl⟩))
    (fun os started H enc _ => lifted os started H enc)
theorem proved : Rows.FnExactCpuBreakSaid := over
end Go.Proofs.Ytfgaoojogididaa.fnExactCpuBreak
namespace Go.Proofs.Ytfgaoojogididaa
theorem fnExactCpuBreak_holds : Rows.FnExactCpuBreakSaid := fnExactCpuBreak.proved
end Go.Proofs.Ytfgaoojogididaa
