/-
  FnExactDeadStores: for every argument, the law returns true, and the arguments read behind the call as they read before.
  Conditions: none beyond the given statement's own.
-/
import Derived.Test.YtlmlkkkgcbpaoaaKk4
import Derived.WalkKit
import Derived.ProofKit
import Derived.OpenShut
import Derived.ShutString
import Derived.ChangeOld
import Derived.Below
import Derived.SizedLaws
/-
  Graphs whose marks are held.
-/
set_option linter.unusedVariables false
set_option linter.unusedSimpArgs false
set_option maxRecDepth 4000
namespace Go.Proofs.Ytlmlkkkgcbpaoaa.AM
open Go.RowKit

private def MG29 : FuncId → Mode := fun f => .tree

set_option maxHeartbeats 4000000 in
theorem heldInstrS (n : Nat) (k : Int) (hk : 0 ≤ k) (hl : k + 7 * n ≤ 2 ^ 62) : Pure Try.prog 79 [instrs true (minstrs k n), .int .i64 k] (.int .i64 (k + 7 * n)) := by
  intro T
  refine enter mixed MG29 Try.func79 rfl (by kernel_rfl) rfl ?_
  repeat' (first
   | with_reducible refine stp ?_
   | with_reducible refine k_blk_o rfl ?_
   | with_reducible refine k_seq_n ?_
   | ((try (conv => arg 1; simp [instrs])); with_reducible refine evp ?_)
   | ((with_reducible refine apn ?na ?_); (case na => simp [appNames, ints, intss] <;> first | kernel_rfl | (refine ⟨?_, ?_⟩ <;> kernel_rfl)))
   | fail)
  refine st_loop (fun (i : Nat) σ h => i ≤ n ∧ σ 0 = instrs true (minstrs k n) ∧ σ 1 = .int .i64 (k + 7 * i) ∧ σ 5 = .int .i64 i) (fun i => n - i) 0 ?init ?step
  case init => simp
  case step =>
    rintro i σ h ⟨hi, h0, h1, h5⟩
    by_cases hlt : i < n
    · have hlt2 : (i : Int) < n := by omega
      have hg := minstrs_get (k := k) hlt
      have w1 : IntKind.i64.wrap (k + 7 * i + 1) = k + 7 * i + 1 := wrap_id (by omega) (by omega)
      have w2 : IntKind.i64.wrap (k + 7 * i + 1 + 1) = k + 7 * i + 1 + 1 := wrap_id (by omega) (by omega)
      have w3 : IntKind.i64.wrap (k + 7 * i + 1 + 1 + 1) = k + 7 * i + 1 + 1 + 1 := wrap_id (by omega) (by omega)
      have w4 : IntKind.i64.wrap (k + 7 * i + 1 + 1 + 1 + 1) = k + 7 * i + 1 + 1 + 1 + 1 := wrap_id (by omega) (by omega)
      have w5 : IntKind.i64.wrap (k + 7 * i + 1 + 1 + 1 + 1 + 1) = k + 7 * i + 1 + 1 + 1 + 1 + 1 := wrap_id (by omega) (by omega)
      have w6 : IntKind.i64.wrap (k + 7 * i + 1 + 1 + 1 + 1 + 1 + 1) = k + 7 * i + 1 + 1 + 1 + 1 + 1 + 1 := wrap_id (by omega) (by omega)
      have w7 : IntKind.i64.wrap (k + 7 * i + 1 + 1 + 1 + 1 + 1 + 1 + 1) = k + 7 * i + 1 + 1 + 1 + 1 + 1 + 1 + 1 := wrap_id (by omega) (by omega)
      have hw : IntKind.i64.wrap (i + 1) = i + 1 := wrap_id (by omega) (by omega)
      have mt := markText (k + 7 * i + 1 + 1 + 1 + 1 + 1 + 1) (by omega)
      have hml := minstrs_length k n
      generalize minstrs k n = ys at *
      have hg2 := fun hh => Option.some.inj ((List.getElem?_eq_getElem (l := ys) (i := i) hh).symm.trans hg)
      repeat' (first
       | with_reducible refine stp ?_
       | with_reducible refine k_blk_o rfl ?_
       | with_reducible refine k_seq_n ?_
       | ((try (conv => arg 1; simp [instrs, h0, h1, h5, hlt, hlt2, hml, hg2, Instr.cells, w1, w2, w3, w4, w5, w6, w7])); with_reducible refine evp ?_)
       | ((with_reducible refine apn ?na ?_); (case na => simp [appNames, ints, intss] <;> first | kernel_rfl | (refine ⟨?_, ?_⟩ <;> kernel_rfl)))
       | fail)
      repeat (with_reducible first | refine stp ?_ | refine k_seq_n ?_)
      refine st_draw 8 (fun _ => false) (by kernel_rfl) ?_
      simp only [List.take_succ_cons, List.take_zero, List.drop_succ_cons, List.drop_zero, List.take_nil, List.drop_nil]
      repeat' (first
       | with_reducible refine stp ?_
       | with_reducible refine k_blk_o rfl ?_
       | with_reducible refine k_seq_n ?_
       | ((try (conv => arg 1; simp [instrs, h0, h1, h5, hlt, hlt2, hml, hg2, Instr.cells, hw, w7])); with_reducible refine evp ?_)
       | ((with_reducible refine apn ?na ?_); (case na => simp [appNames, ints, intss] <;> first | kernel_rfl | (refine ⟨?_, ?_⟩ <;> kernel_rfl)))
       | ((with_reducible refine tcl ?_); first | ((apply tg (mt)); (case e => rfl); (case d => (refine dq ?_); (repeat' (first | ((refine Da.mk ?_); first | assumption) | constructor)))))
       | fail)
      refine k_lp_n (i + 1) (by omega) ⟨by omega, by simp [h0], by simp; omega, by simp⟩
    · have hge : i = n := by omega
      have hlt2 : ¬ (i : Int) < n := by omega
      repeat' (first
       | with_reducible refine stp ?_
       | with_reducible refine k_blk_o rfl ?_
       | with_reducible refine k_seq_n ?_
       | ((try (conv => arg 1; simp [instrs, h0, h1, h5, hlt2, minstrs_length])); with_reducible refine evp ?_)
       | ((with_reducible refine apn ?na ?_); (case na => simp [appNames, ints, intss] <;> first | kernel_rfl | (refine ⟨?_, ?_⟩ <;> kernel_rfl)))
       | fail)
      rw [hge]
      exact .int _ _
set_option maxHeartbeats 4000000 in
theorem heldBlockS (xs : List Block) (k : Int) (hk : 0 ≤ k) (hl : k + gsum bwt xs xs.length ≤ 2 ^ 62) (hlx : xs.length ≤ 2 ^ 62) : Pure Try.prog 50 [blocks true (mblocks k xs), .int .i64 k] (.int .i64 (k + gsum bwt xs xs.length)) := by
  intro T
  refine enter mixed MG29 Try.func50 rfl (by kernel_rfl) rfl ?_
  repeat' (first
   | with_reducible refine stp ?_
   | with_reducible refine k_blk_o rfl ?_
   | with_reducible refine k_seq_n ?_
   | ((try (conv => arg 1; simp [blocks])); with_reducible refine evp ?_)
   | ((with_reducible refine apn ?na ?_); (case na => simp [appNames, ints, intss] <;> first | kernel_rfl | (refine ⟨?_, ?_⟩ <;> kernel_rfl)))
   | fail)
  refine st_loop (fun (i : Nat) σ h => i ≤ xs.length ∧ σ 0 = blocks true (mblocks k xs) ∧ σ 1 = .int .i64 (k + gsum bwt xs i) ∧ σ 5 = .int .i64 i) (fun i => xs.length - i) 0 ?init ?step
  case init => simp [gsum_zero]
  case step =>
    rintro i σ h ⟨hi, h0, h1, h5⟩
    by_cases hlt : i < xs.length
    · have hlt2 : (i : Int) < xs.length := by omega
      have hg := mblocks_get (k := k) hlt
      have hs := gsum_succ bwt xs i hlt
      have hs2 := gsum_le bwt xs (i + 1)
      have hb : bwt xs[i] = 7 * xs[i].Code.length + 4 := rfl
      have H := heldInstrS xs[i].Code.length (k + gsum bwt xs i) (by omega) (by omega)
      have hml := mblocks_length k xs
      have hw : IntKind.i64.wrap (i + 1) = i + 1 := wrap_id (by omega) (by omega)
      have hblen := block_len true (mblock (k + gsum bwt xs i) xs[i])
      rw [show mblock (k + gsum bwt xs i) xs[i] = ⟨minstrs (k + gsum bwt xs i) xs[i].Code.length, k + gsum bwt xs i + 7 * xs[i].Code.length, k + gsum bwt xs i + 7 * xs[i].Code.length + 1, k + gsum bwt xs i + 7 * xs[i].Code.length + 1 + 1, k + gsum bwt xs i + 7 * xs[i].Code.length + 1 + 1 + 1⟩ from rfl] at hg hblen
      generalize mblocks k xs = ys at *
      have hg2 := fun hh => Option.some.inj ((List.getElem?_eq_getElem (l := ys) (i := i) hh).symm.trans hg)
      replace hblen := fun hh => (congrArg (fun b => (Block.cells true b).length) (hg2 hh)).trans hblen
      generalize hK : (k : Int) + gsum bwt xs i + 7 * xs[i].Code.length = K at *
      have w1 : IntKind.i64.wrap (K + 1) = K + 1 := wrap_id (by omega) (by omega)
      have w2 : IntKind.i64.wrap (K + 1 + 1) = K + 1 + 1 := wrap_id (by omega) (by omega)
      have w3 : IntKind.i64.wrap (K + 1 + 1 + 1) = K + 1 + 1 + 1 := wrap_id (by omega) (by omega)
      have w4 : IntKind.i64.wrap (K + 1 + 1 + 1 + 1) = K + 1 + 1 + 1 + 1 := wrap_id (by omega) (by omega)
      have hK0 : ¬ K < 0 := by omega
      repeat' (first
       | with_reducible refine stp ?_
       | with_reducible refine k_blk_o rfl ?_
       | with_reducible refine k_seq_n ?_
       | ((try (conv => arg 1; simp [blocks, h0, h1, h5, hlt, hlt2, hml, hg2, hblen, Block.cells, hK0, w1, w2, w3, w4, hw])); with_reducible refine evp ?_)
       | ((with_reducible refine apn ?na ?_); (case na => simp [appNames, ints, intss] <;> first | kernel_rfl | (refine ⟨?_, ?_⟩ <;> kernel_rfl)))
       | ((with_reducible refine tcl ?_); first | ((apply tg (H)); (case e => rfl); (case d => (refine dq ?_); (repeat' (first | ((refine Da.mk ?_); first | exact dr_instrs (by simp) _ | assumption) | constructor)))))
       | fail)
      refine k_lp_n (i + 1) (by omega) ⟨by omega, by simp [h0], by simp; omega, by simp⟩
    · have hge : i = xs.length := by omega
      have hlt2 : ¬ (i : Int) < xs.length := by omega
      repeat' (first
       | with_reducible refine stp ?_
       | with_reducible refine k_blk_o rfl ?_
       | with_reducible refine k_seq_n ?_
       | ((try (conv => arg 1; simp [blocks, h0, h1, h5, hlt2, mblocks_length])); with_reducible refine evp ?_)
       | ((with_reducible refine apn ?na ?_); (case na => simp [appNames, ints, intss] <;> first | kernel_rfl | (refine ⟨?_, ?_⟩ <;> kernel_rfl)))
       | fail)
      rw [hge]
      exact .int _ _
theorem heldGraph (g : Graph) (hs : g.Small) (k : Int) (hk : 0 ≤ k) (hk2 : k ≤ 2 ^ 40) : Pure Try.prog 25 [.agg ((mgraph k g).cells true), .int .i64 k] (.int .i64 (k + g.tot)) := by
  intro T
  have ht := hs.tot
  have hsz := hs.sizes
  have hln := hs.len
  have ht2 : g.tot = g.Sizes.length + gsum bwt g.Blocks g.Blocks.length := rfl
  have H1 := heldIntS g.Sizes.length k hk (by omega)
  have H2 := heldBlockS g.Blocks (k + g.Sizes.length) (by omega) (by omega) (by omega)
  have n1 : ¬ k + (g.Sizes.length : Int) < 0 := by omega
  have n2 : ¬ k + (g.Sizes.length : Int) + (gsum bwt g.Blocks g.Blocks.length : Int) < 0 := by omega
  refine enter mixed MG29 Try.func25 rfl (by kernel_rfl) rfl ?_
  repeat' (first
   | with_reducible refine stp ?_
   | with_reducible refine k_blk_o rfl ?_
   | with_reducible refine k_seq_n ?_
   | ((try (conv => arg 1; simp [Graph.cells, mgraph, n1, n2])); with_reducible refine evp ?_)
   | ((with_reducible refine apn ?na ?_); (case na => simp [appNames, ints, intss] <;> first | kernel_rfl | (refine ⟨?_, ?_⟩ <;> kernel_rfl)))
   | ((with_reducible refine tcl ?_); first | ((apply tg (H1)); (case e => rfl); (case d => (refine dq ?_); (repeat' (first | ((refine Da.mk ?_); first | exact dr_blocks (by simp) _ | assumption) | constructor)))) | ((apply tg (H2)); (case e => rfl); (case d => (refine dq ?_); (repeat' (first | ((refine Da.mk ?_); first | exact dr_blocks (by simp) _ | assumption) | constructor)))))
   | fail)
  exact dr_int (by rw [ht2]; push_cast; omega)
end Go.Proofs.Ytlmlkkkgcbpaoaa.AM

/-
  Stores that are dead: both sides, and its size.
-/

/-
  The law of DeadStores.
-/
set_option linter.unusedVariables false
set_option linter.unusedSimpArgs false
set_option maxRecDepth 4000
namespace Go.Proofs.Ytlmlkkkgcbpaoaa.AM
open Go.RowKit

private def MLDeadStores : FuncId → Mode := fun f => if f = 13 ∨ f = 17 ∨ f = 31 then .fresh else if f = 20 ∨ f = 21 then .heap else .tree

set_option maxHeartbeats 2000000 in
theorem lawDeadStores (g : Graph) (d_g : g.Data) : Sound Try.prog 8 [.agg (g.cells true)] (.mt 0) fun v _ => v = .bool true := by
  have hnil : True := trivial
  refine enter mixed MLDeadStores Try.func8 rfl (by kernel_rfl) rfl ?_
  repeat' (first
   | with_reducible refine stp ?_
   | with_reducible refine k_blk_o rfl ?_
   | ((try (conv => arg 1; simp [Graph.cells])); with_reducible refine evp ?_)
   | ((with_reducible refine apn ?na ?_); (case na => simp [appNames, ints, intss] <;> first | kernel_rfl | (refine ⟨?_, ?_⟩ <;> kernel_rfl)))
   | fail)
  refine cx_k Cx.mt_box ?_
  intro h1 x1
  repeat' (first
   | with_reducible refine stp ?_
   | with_reducible refine k_blk_o rfl ?_
   | ((try (conv => arg 1; simp [hnil])); with_reducible refine evp ?_)
   | ((with_reducible refine apn ?na ?_); (case na => simp [appNames, ints, intss] <;> first | kernel_rfl | (refine ⟨?_, ?_⟩ <;> kernel_rfl)))
   | fail)
  refine cx_k x1.next ?_
  intro h2 x2
  obtain ⟨r1, hr_g, hs_g⟩ := szGraph g 1048576 (by omega) (by omega) d_g
  repeat' (first
   | with_reducible refine stp ?_
   | with_reducible refine k_blk_o rfl ?_
   | ((try (conv => arg 1; simp [x2.b0])); with_reducible refine evp ?_)
   | ((with_reducible refine apn ?na ?_); (case na => simp [appNames, ints, intss] <;> first | kernel_rfl | (refine ⟨?_, ?_⟩ <;> kernel_rfl)))
   | fail)
  refine st_tree rfl (hr_g) (.cons (dr_agg (drs_graphL g fun h => h)) (.cons (.int _ _) .nil)) ?_
  repeat' (first
   | with_reducible refine stp ?_
   | with_reducible refine k_blk_o rfl ?_
   | ((try (conv => arg 1; simp [x2.b0])); with_reducible refine evp ?_)
   | ((with_reducible refine apn ?na ?_); (case na => simp [appNames, ints, intss] <;> first | kernel_rfl | (refine ⟨?_, ?_⟩ <;> kernel_rfl)))
   | fail)
  refine cx_k x2.next ?_
  intro h3 x3
  repeat' (first
   | with_reducible refine stp ?_
   | with_reducible refine k_blk_o rfl ?_
   | ((try (conv => arg 1; simp [hnil])); with_reducible refine evp ?_)
   | ((with_reducible refine apn ?na ?_); (case na => simp [appNames, ints, intss] <;> first | kernel_rfl | (refine ⟨?_, ?_⟩ <;> kernel_rfl)))
   | fail)
  refine cx_k x3.next ?_
  intro h4 x4
  by_cases hneg : r1 < 0
  · skip
    repeat' (first
     | with_reducible refine stp ?_
     | with_reducible refine k_blk_o rfl ?_
     | with_reducible refine k_seq_n ?_
     | ((try (conv => arg 1; simp [hneg])); with_reducible refine evp ?_)
     | ((with_reducible refine apn ?na ?_); (case na => simp [appNames, ints, intss] <;> first | kernel_rfl | (refine ⟨?_, ?_⟩ <;> kernel_rfl)))
     | fail)
    rfl
  repeat' (first
   | with_reducible refine stp ?_
   | with_reducible refine k_blk_o rfl ?_
   | ((try (conv => arg 1; simp [hneg])); with_reducible refine evp ?_)
   | ((with_reducible refine apn ?na ?_); (case na => simp [appNames, ints, intss] <;> first | kernel_rfl | (refine ⟨?_, ?_⟩ <;> kernel_rfl)))
   | fail)
  refine k_seq_n ?_
  replace hs_g := hs_g.resolve_left hneg
  obtain ⟨hs_g, hg1_g, hg2_g⟩ := hs_g
  have S := (specDead g hs_g).pure
  have I := implDead g hs_g
  have hr := deadR_small g hs_g
  have ht_g := hs_g.tot
  generalize deadR g = R at S I hr
  have ht_R := hr.tot
  repeat' (first
   | with_reducible refine stp ?_
   | with_reducible refine k_blk_o rfl ?_
   | ((try (conv => arg 1; simp [x4.b0])); with_reducible refine evp ?_)
   | ((with_reducible refine apn ?na ?_); (case na => simp [appNames, ints, intss] <;> first | kernel_rfl | (refine ⟨?_, ?_⟩ <;> kernel_rfl)))
   | fail)
  refine st_freshw rfl (toGraph g hs_g) (.cons (dr_agg (drs_graphL g fun h => h)) .nil) ?_
  intro v1 h5 n1 o1 e1 f1 p1 t1
  have x5 := x4.next.fresh o1 e1 f1 p1 t1
  have z5 : h4.tick < h5.tick := by simp only [hp_next_tick] at t1; omega
  obtain ⟨wa1, wb1, _, _, rfl, _, qa1, qb1⟩ := ownV_graph (o1 true)
  have qa1 := own_one qa1
  have qb1 := own_one' qb1
  repeat' (first
   | with_reducible refine stp ?_
   | with_reducible refine k_blk_o rfl ?_
   | ((try (conv => arg 1; simp [x5.b0, z5, qa1.1, qb1.1])); with_reducible refine evp ?_)
   | ((with_reducible refine apn ?na ?_); (case na => simp [appNames, ints, intss] <;> first | kernel_rfl | (refine ⟨?_, ?_⟩ <;> kernel_rfl)))
   | fail)
  refine st_tree rfl (S) (.cons ((x5.o0 true).dr) .nil) ?_
  repeat' (first
   | with_reducible refine stp ?_
   | with_reducible refine k_blk_o rfl ?_
   | ((try (conv => arg 1; simp [x5.b0, z5, qa1.1, qb1.1, Graph.cells])); with_reducible refine evp ?_)
   | ((with_reducible refine apn ?na ?_); (case na => simp [appNames, ints, intss] <;> first | kernel_rfl | (refine ⟨?_, ?_⟩ <;> kernel_rfl)))
   | fail)
  refine cx_k (x5.box_new (x4.off.fresh f1 (by simp [hp_next_tick])) z5) ?_
  intro h6 x6
  repeat' (first
   | with_reducible refine stp ?_
   | with_reducible refine k_blk_o rfl ?_
   | ((try (conv => arg 1; simp [x6.b1])); with_reducible refine evp ?_)
   | ((with_reducible refine apn ?na ?_); (case na => simp [appNames, ints, intss] <;> first | kernel_rfl | (refine ⟨?_, ?_⟩ <;> kernel_rfl)))
   | fail)
  refine st_freshw rfl (toGraph g hs_g) (.cons (dr_agg (drs_graphL g fun h => h)) .nil) ?_
  intro v2 h7 n2 o2 e2 f2 p2 t2
  have x7 := x6.next.fresh o2 e2 f2 p2 t2
  have z7 : h6.tick < h7.tick := by simp only [hp_next_tick] at t2; omega
  obtain ⟨wa2, wb2, _, _, rfl, _, qa2, qb2⟩ := ownV_graph (o2 true)
  have qa2 := own_one qa2
  have qb2 := own_one' qb2
  repeat' (first
   | with_reducible refine stp ?_
   | with_reducible refine k_blk_o rfl ?_
   | ((try (conv => arg 1; simp [x7.b1, z7, qa2.1, qb2.1])); with_reducible refine evp ?_)
   | ((with_reducible refine apn ?na ?_); (case na => simp [appNames, ints, intss] <;> first | kernel_rfl | (refine ⟨?_, ?_⟩ <;> kernel_rfl)))
   | fail)
  refine cx_k (x7.box_new (x6.off.fresh f2 (by simp [hp_next_tick])) z7) ?_
  intro h8 x8
  repeat' (first
   | with_reducible refine stp ?_
   | with_reducible refine k_blk_o rfl ?_
   | ((try (conv => arg 1; simp [x8.b0, qa2.1, qb2.1])); with_reducible refine evp ?_)
   | ((with_reducible refine apn ?na ?_); (case na => simp [appNames, ints, intss] <;> first | kernel_rfl | (refine ⟨?_, ?_⟩ <;> kernel_rfl)))
   | fail)
  refine st_freshw rfl I (.cons ((x8.next.o0 true).dr) .nil) ?_
  intro v3 h9 n3 o3 e3 f3 p3 t3
  have x9 := x8.next.fresh o3 e3 f3 p3 t3
  have z9 : h8.tick < h9.tick := by simp only [hp_next_tick] at t3; omega
  obtain ⟨wa3, wb3, _, _, rfl, _, qa3, qb3⟩ := ownV_graph (o3 true)
  have qa3 := own_one qa3
  have qb3 := own_one' qb3
  repeat' (first
   | with_reducible refine stp ?_
   | with_reducible refine k_blk_o rfl ?_
   | ((try (conv => arg 1; simp [x9.b0, qa2.1, qb2.1, z9, qa3.1, qb3.1])); with_reducible refine evp ?_)
   | ((with_reducible refine apn ?na ?_); (case na => simp [appNames, ints, intss] <;> first | kernel_rfl | (refine ⟨?_, ?_⟩ <;> kernel_rfl)))
   | fail)
  refine cx_k (x9.box_new (x8.off.fresh f3 (by simp [hp_next_tick])) z9) ?_
  intro h10 x10
  repeat' (first
   | with_reducible refine stp ?_
   | with_reducible refine k_blk_o rfl ?_
   | ((try (conv => arg 1; simp [x10.b0, x10.b2, qa3.1, qb3.1])); with_reducible refine evp ?_)
   | ((with_reducible refine apn ?na ?_); (case na => simp [appNames, ints, intss] <;> first | kernel_rfl | (refine ⟨?_, ?_⟩ <;> kernel_rfl)))
   | fail)
  refine st_tree rfl (eqGraph R hr) (.cons ((x10.next.o0 true).dr) (.cons (dr_agg (drs_graphL R (by simp))) .nil)) ?_
  repeat' (first
   | with_reducible refine stp ?_
   | with_reducible refine k_blk_o rfl ?_
   | ((try (conv => arg 1; simp [x10.b0, x10.b2, qa3.1, qb3.1])); with_reducible refine evp ?_)
   | ((with_reducible refine apn ?na ?_); (case na => simp [appNames, ints, intss] <;> first | kernel_rfl | (refine ⟨?_, ?_⟩ <;> kernel_rfl)))
   | fail)
  refine cx_k x10.next ?_
  intro h11 x11
  repeat' (first
   | with_reducible refine stp ?_
   | with_reducible refine k_blk_o rfl ?_
   | ((try (conv => arg 1; simp [hnil])); with_reducible refine evp ?_)
   | ((with_reducible refine apn ?na ?_); (case na => simp [appNames, ints, intss] <;> first | kernel_rfl | (refine ⟨?_, ?_⟩ <;> kernel_rfl)))
   | fail)
  refine k_seq_n ?_
  repeat' (first
   | with_reducible refine stp ?_
   | with_reducible refine k_blk_o rfl ?_
   | ((try (conv => arg 1; simp [hnil])); with_reducible refine evp ?_)
   | ((with_reducible refine apn ?na ?_); (case na => simp [appNames, ints, intss] <;> first | kernel_rfl | (refine ⟨?_, ?_⟩ <;> kernel_rfl)))
   | fail)
  repeat (with_reducible first | refine stp ?_ | refine k_seq_n ?_)
  refine st_draw 5 (fun _ => false) (by kernel_rfl) ?_
  simp only [List.take_succ_cons, List.take_zero, List.drop_succ_cons, List.drop_zero, List.take_nil, List.drop_nil]
  repeat' (first
   | with_reducible refine stp ?_
   | with_reducible refine k_blk_o rfl ?_
   | ((try (conv => arg 1; simp [x11.b1, x11.b3, x11.l1, x11.l3, qa2.1, qb2.1])); with_reducible refine evp ?_)
   | ((with_reducible refine apn ?na ?_); (case na => simp [appNames, ints, intss] <;> first | kernel_rfl | (refine ⟨?_, ?_⟩ <;> kernel_rfl)))
   | fail)
  refine treeW_pure (toGraph g hs_g).pure (.cons (dr_agg (drs_graphL g fun h => h)) .nil) ?_
  repeat' (first
   | with_reducible refine stp ?_
   | with_reducible refine k_blk_o rfl ?_
   | ((try (conv => arg 1; simp [x11.b1, x11.b3, x11.l1, x11.l3, qa2.1, qb2.1])); with_reducible refine evp ?_)
   | ((with_reducible refine apn ?na ?_); (case na => simp [appNames, ints, intss] <;> first | kernel_rfl | (refine ⟨?_, ?_⟩ <;> kernel_rfl)))
   | fail)
  refine treeW_pure (eqGraph g hs_g) (.cons ((x11.m1 true).dr) (.cons (dr_agg (drs_graphL g (by simp))) .nil)) ?_
  repeat' (first
   | with_reducible refine stp ?_
   | with_reducible refine k_blk_o rfl ?_
   | ((try (conv => arg 1; simp [x11.b1, x11.b3, x11.l1, x11.l3, qa2.1, qb2.1])); with_reducible refine evp ?_)
   | ((with_reducible refine apn ?na ?_); (case na => simp [appNames, ints, intss] <;> first | kernel_rfl | (refine ⟨?_, ?_⟩ <;> kernel_rfl)))
   | fail)
  refine cx_k x11.next ?_
  intro h12 x12
  repeat' (first
   | with_reducible refine stp ?_
   | with_reducible refine k_blk_o rfl ?_
   | ((try (conv => arg 1; simp [hnil])); with_reducible refine evp ?_)
   | ((with_reducible refine apn ?na ?_); (case na => simp [appNames, ints, intss] <;> first | kernel_rfl | (refine ⟨?_, ?_⟩ <;> kernel_rfl)))
   | fail)
  refine k_seq_n ?_
  repeat' (first
   | with_reducible refine stp ?_
   | with_reducible refine k_blk_o rfl ?_
   | ((try (conv => arg 1; simp [hnil])); with_reducible refine evp ?_)
   | ((with_reducible refine apn ?na ?_); (case na => simp [appNames, ints, intss] <;> first | kernel_rfl | (refine ⟨?_, ?_⟩ <;> kernel_rfl)))
   | fail)
  refine cx_k x12.next ?_
  intro h13 x13
  repeat' (first
   | with_reducible refine stp ?_
   | with_reducible refine k_blk_o rfl ?_
   | ((try (conv => arg 1; simp [x13.b1, qa2.1, qb2.1])); with_reducible refine evp ?_)
   | ((with_reducible refine apn ?na ?_); (case na => simp [appNames, ints, intss] <;> first | kernel_rfl | (refine ⟨?_, ?_⟩ <;> kernel_rfl)))
   | fail)
  have y1 := x13.next.rot1
  refine st_heap rfl (markGraph y1 hs_g (1) (by omega) (by omega)) ?_
  rintro r h14 ⟨rfl, yy1⟩
  have x14 := yy1.drop
  repeat' (first
   | with_reducible refine stp ?_
   | with_reducible refine k_blk_o rfl ?_
   | ((try (conv => arg 1; simp [x14.b1, qa2.1, qb2.1])); with_reducible refine evp ?_)
   | ((with_reducible refine apn ?na ?_); (case na => simp [appNames, ints, intss] <;> first | kernel_rfl | (refine ⟨?_, ?_⟩ <;> kernel_rfl)))
   | fail)
  refine cx_k x14 ?_
  intro h15 x15
  have hkneg : ¬ 1 + (g.tot : Int) < 0 := by omega
  repeat' (first
   | with_reducible refine stp ?_
   | with_reducible refine k_blk_o rfl ?_
   | ((try (conv => arg 1; simp [x15.b0, x15.b2, qa3.1, qb3.1, hkneg])); with_reducible refine evp ?_)
   | ((with_reducible refine apn ?na ?_); (case na => simp [appNames, ints, intss] <;> first | kernel_rfl | (refine ⟨?_, ?_⟩ <;> kernel_rfl)))
   | fail)
  refine st_tree rfl (eqGraph R hr) (.cons ((x15.next.o0 true).dr) (.cons (dr_agg (drs_graphL R (by simp))) .nil)) ?_
  repeat' (first
   | with_reducible refine stp ?_
   | with_reducible refine k_blk_o rfl ?_
   | ((try (conv => arg 1; simp [x15.b0, x15.b2, qa3.1, qb3.1, hkneg])); with_reducible refine evp ?_)
   | ((with_reducible refine apn ?na ?_); (case na => simp [appNames, ints, intss] <;> first | kernel_rfl | (refine ⟨?_, ?_⟩ <;> kernel_rfl)))
   | fail)
  refine cx_k x15.next ?_
  intro h16 x16
  repeat' (first
   | with_reducible refine stp ?_
   | with_reducible refine k_blk_o rfl ?_
   | ((try (conv => arg 1; simp [hkneg])); with_reducible refine evp ?_)
   | ((with_reducible refine apn ?na ?_); (case na => simp [appNames, ints, intss] <;> first | kernel_rfl | (refine ⟨?_, ?_⟩ <;> kernel_rfl)))
   | fail)
  refine k_seq_n ?_
  repeat' (first
   | with_reducible refine stp ?_
   | with_reducible refine k_blk_o rfl ?_
   | ((try (conv => arg 1; simp [hkneg])); with_reducible refine evp ?_)
   | ((with_reducible refine apn ?na ?_); (case na => simp [appNames, ints, intss] <;> first | kernel_rfl | (refine ⟨?_, ?_⟩ <;> kernel_rfl)))
   | fail)
  refine cx_k x16.next ?_
  intro h17 x17
  repeat' (first
   | with_reducible refine stp ?_
   | with_reducible refine k_blk_o rfl ?_
   | ((try (conv => arg 1; simp [x17.b0, qa3.1, qb3.1, hkneg])); with_reducible refine evp ?_)
   | ((with_reducible refine apn ?na ?_); (case na => simp [appNames, ints, intss] <;> first | kernel_rfl | (refine ⟨?_, ?_⟩ <;> kernel_rfl)))
   | fail)
  have y2 := x17.next.rot0
  refine st_heap rfl (markGraph y2 hr 1 (by omega) (by omega)) ?_
  rintro r h18 ⟨rfl, x18⟩
  have hgneg : ¬ 1 + (R.tot : Int) < 0 := by omega
  repeat' (first
   | with_reducible refine stp ?_
   | with_reducible refine k_blk_o rfl ?_
   | ((try (conv => arg 1; simp [x18.b0, qa3.1, qb3.1, hkneg, hgneg])); with_reducible refine evp ?_)
   | ((with_reducible refine apn ?na ?_); (case na => simp [appNames, ints, intss] <;> first | kernel_rfl | (refine ⟨?_, ?_⟩ <;> kernel_rfl)))
   | fail)
  refine cx_k x18 ?_
  intro h19 x19
  repeat' (first
   | with_reducible refine stp ?_
   | with_reducible refine k_blk_o rfl ?_
   | ((try (conv => arg 1; simp [hkneg, hgneg])); with_reducible refine evp ?_)
   | ((with_reducible refine apn ?na ?_); (case na => simp [appNames, ints, intss] <;> first | kernel_rfl | (refine ⟨?_, ?_⟩ <;> kernel_rfl)))
   | fail)
  refine cx_k x19.next ?_
  intro h20 x20
  repeat' (first
   | with_reducible refine stp ?_
   | with_reducible refine k_blk_o rfl ?_
   | ((try (conv => arg 1; simp [x20.b0, qa3.1, qb3.1, hkneg, hgneg])); with_reducible refine evp ?_)
   | ((with_reducible refine apn ?na ?_); (case na => simp [appNames, ints, intss] <;> first | kernel_rfl | (refine ⟨?_, ?_⟩ <;> kernel_rfl)))
   | fail)
  refine st_tree rfl (heldGraph R hr 1 (by omega) (by omega)) (.cons ((x20.next.o0 true).dr) (.cons (.int _ _) .nil)) ?_
  repeat' (first
   | with_reducible refine stp ?_
   | with_reducible refine k_blk_o rfl ?_
   | ((try (conv => arg 1; simp [x20.b0, qa3.1, qb3.1, hkneg, hgneg])); with_reducible refine evp ?_)
   | ((with_reducible refine apn ?na ?_); (case na => simp [appNames, ints, intss] <;> first | kernel_rfl | (refine ⟨?_, ?_⟩ <;> kernel_rfl)))
   | fail)
  refine cx_k x20.next ?_
  intro h21 x21
  repeat' (first
   | with_reducible refine stp ?_
   | with_reducible refine k_blk_o rfl ?_
   | ((try (conv => arg 1; simp [hkneg, hgneg])); with_reducible refine evp ?_)
   | ((with_reducible refine apn ?na ?_); (case na => simp [appNames, ints, intss] <;> first | kernel_rfl | (refine ⟨?_, ?_⟩ <;> kernel_rfl)))
   | fail)
  refine cx_k x21.next ?_
  intro h22 x22
  repeat' (first
   | with_reducible refine stp ?_
   | with_reducible refine k_blk_o rfl ?_
   | ((try (conv => arg 1; simp [hkneg, hgneg])); with_reducible refine evp ?_)
   | ((with_reducible refine apn ?na ?_); (case na => simp [appNames, ints, intss] <;> first | kernel_rfl | (refine ⟨?_, ?_⟩ <;> kernel_rfl)))
   | fail)
  refine k_seq_n ?_
  repeat' (first
   | with_reducible refine stp ?_
   | with_reducible refine k_blk_o rfl ?_
   | ((try (conv => arg 1; simp [hkneg, hgneg])); with_reducible refine evp ?_)
   | ((with_reducible refine apn ?na ?_); (case na => simp [appNames, ints, intss] <;> first | kernel_rfl | (refine ⟨?_, ?_⟩ <;> kernel_rfl)))
   | fail)
  refine cx_k x22.next ?_
  intro h23 x23
  repeat' (first
   | with_reducible refine stp ?_
   | with_reducible refine k_blk_o rfl ?_
   | ((try (conv => arg 1; simp [hkneg, hgneg])); with_reducible refine evp ?_)
   | ((with_reducible refine apn ?na ?_); (case na => simp [appNames, ints, intss] <;> first | kernel_rfl | (refine ⟨?_, ?_⟩ <;> kernel_rfl)))
   | fail)
  refine k_seq_n ?_
  repeat' (first
   | with_reducible refine stp ?_
   | with_reducible refine k_blk_o rfl ?_
   | ((try (conv => arg 1; simp [x23.b3, hkneg, hgneg])); with_reducible refine evp ?_)
   | ((with_reducible refine apn ?na ?_); (case na => simp [appNames, ints, intss] <;> first | kernel_rfl | (refine ⟨?_, ?_⟩ <;> kernel_rfl)))
   | fail)
  refine st_freshw rfl (toGraph g hs_g) (.cons (dr_agg (drs_graphL g fun h => h)) .nil) ?_
  intro v4 h24 n4 o4 e4 f4 p4 t4
  have x24 := x23.next.fresh o4 e4 f4 p4 t4
  have z24 : h23.tick < h24.tick := by simp only [hp_next_tick] at t4; omega
  obtain ⟨wa4, wb4, _, _, rfl, _, qa4, qb4⟩ := ownV_graph (o4 true)
  have qa4 := own_one qa4
  have qb4 := own_one' qb4
  repeat' (first
   | with_reducible refine stp ?_
   | with_reducible refine k_blk_o rfl ?_
   | ((try (conv => arg 1; simp [x24.b3, z24, qa4.1, qb4.1, hkneg, hgneg])); with_reducible refine evp ?_)
   | ((with_reducible refine apn ?na ?_); (case na => simp [appNames, ints, intss] <;> first | kernel_rfl | (refine ⟨?_, ?_⟩ <;> kernel_rfl)))
   | fail)
  refine st_freshw rfl I (.cons ((x24.o0 true).dr) .nil) ?_
  intro v5 h25 n5 o5 e5 f5 p5 t5
  have x25 := x24.fresh o5 e5 f5 p5 t5
  have z25 : h23.tick < h25.tick := by omega
  obtain ⟨wa5, wb5, _, _, rfl, _, qa5, qb5⟩ := ownV_graph (o5 true)
  have qa5 := own_one qa5
  have qb5 := own_one' qb5
  repeat' (first
   | with_reducible refine stp ?_
   | with_reducible refine k_blk_o rfl ?_
   | ((try (conv => arg 1; simp [x25.b3, z25, qa5.1, qb5.1, hkneg, hgneg])); with_reducible refine evp ?_)
   | ((with_reducible refine apn ?na ?_); (case na => simp [appNames, ints, intss] <;> first | kernel_rfl | (refine ⟨?_, ?_⟩ <;> kernel_rfl)))
   | fail)
  refine cx_k (x25.box_new ((x23.off.fresh f4 (by simp [hp_next_tick])).fresh f5 z24) z25) ?_
  intro h26 x26
  repeat' (first
   | with_reducible refine stp ?_
   | with_reducible refine k_blk_o rfl ?_
   | ((try (conv => arg 1; simp [x26.b0, x26.b3, qa5.1, qb5.1, hkneg, hgneg])); with_reducible refine evp ?_)
   | ((with_reducible refine apn ?na ?_); (case na => simp [appNames, ints, intss] <;> first | kernel_rfl | (refine ⟨?_, ?_⟩ <;> kernel_rfl)))
   | fail)
  refine st_tree rfl (eqGraph R hr) (.cons ((x26.next.o0 true).dr) (.cons (dr_agg (drs_graphL R (by simp))) .nil)) ?_
  repeat' (first
   | with_reducible refine stp ?_
   | with_reducible refine k_blk_o rfl ?_
   | ((try (conv => arg 1; simp [x26.b0, x26.b3, qa5.1, qb5.1, hkneg, hgneg])); with_reducible refine evp ?_)
   | ((with_reducible refine apn ?na ?_); (case na => simp [appNames, ints, intss] <;> first | kernel_rfl | (refine ⟨?_, ?_⟩ <;> kernel_rfl)))
   | fail)
  refine cx_k x26.next ?_
  intro h27 x27
  repeat' (first
   | with_reducible refine stp ?_
   | with_reducible refine k_blk_o rfl ?_
   | ((try (conv => arg 1; simp [hkneg, hgneg])); with_reducible refine evp ?_)
   | ((with_reducible refine apn ?na ?_); (case na => simp [appNames, ints, intss] <;> first | kernel_rfl | (refine ⟨?_, ?_⟩ <;> kernel_rfl)))
   | fail)
  refine k_seq_n ?_
  repeat' (first
   | with_reducible refine stp ?_
   | with_reducible refine k_blk_o rfl ?_
   | ((try (conv => arg 1; simp [hkneg, hgneg])); with_reducible refine evp ?_)
   | ((with_reducible refine apn ?na ?_); (case na => simp [appNames, ints, intss] <;> first | kernel_rfl | (refine ⟨?_, ?_⟩ <;> kernel_rfl)))
   | fail)
  refine cx_k x27.next ?_
  intro h28 x28
  repeat' (first
   | with_reducible refine stp ?_
   | with_reducible refine k_blk_o rfl ?_
   | ((try (conv => arg 1; simp [x28.b1, qa3.1, qb3.1, hkneg, hgneg])); with_reducible refine evp ?_)
   | ((with_reducible refine apn ?na ?_); (case na => simp [appNames, ints, intss] <;> first | kernel_rfl | (refine ⟨?_, ?_⟩ <;> kernel_rfl)))
   | fail)
  refine st_tree rfl (heldGraph R hr 1 (by omega) (by omega)) (.cons ((x28.next.o2 true).dr) (.cons (.int _ _) .nil)) ?_
  repeat' (first
   | with_reducible refine stp ?_
   | with_reducible refine k_blk_o rfl ?_
   | ((try (conv => arg 1; simp [x28.b1, qa3.1, qb3.1, hkneg, hgneg])); with_reducible refine evp ?_)
   | ((with_reducible refine apn ?na ?_); (case na => simp [appNames, ints, intss] <;> first | kernel_rfl | (refine ⟨?_, ?_⟩ <;> kernel_rfl)))
   | fail)
  refine cx_k x28.next ?_
  intro h29 x29
  repeat' (first
   | with_reducible refine stp ?_
   | with_reducible refine k_blk_o rfl ?_
   | ((try (conv => arg 1; simp [hkneg, hgneg])); with_reducible refine evp ?_)
   | ((with_reducible refine apn ?na ?_); (case na => simp [appNames, ints, intss] <;> first | kernel_rfl | (refine ⟨?_, ?_⟩ <;> kernel_rfl)))
   | fail)
  refine cx_k x29.next ?_
  intro h30 x30
  repeat' (first
   | with_reducible refine stp ?_
   | with_reducible refine k_blk_o rfl ?_
   | ((try (conv => arg 1; simp [hkneg, hgneg])); with_reducible refine evp ?_)
   | ((with_reducible refine apn ?na ?_); (case na => simp [appNames, ints, intss] <;> first | kernel_rfl | (refine ⟨?_, ?_⟩ <;> kernel_rfl)))
   | fail)
  refine k_seq_n ?_
  repeat' (first
   | with_reducible refine stp ?_
   | with_reducible refine k_blk_o rfl ?_
   | ((try (conv => arg 1; simp [hkneg, hgneg])); with_reducible refine evp ?_)
   | ((with_reducible refine apn ?na ?_); (case na => simp [appNames, ints, intss] <;> first | kernel_rfl | (refine ⟨?_, ?_⟩ <;> kernel_rfl)))
   | fail)
  refine cx_k x30.next ?_
  intro h31 x31
  repeat' (first
   | with_reducible refine stp ?_
   | with_reducible refine k_blk_o rfl ?_
   | ((try (conv => arg 1; simp [hkneg, hgneg])); with_reducible refine evp ?_)
   | ((with_reducible refine apn ?na ?_); (case na => simp [appNames, ints, intss] <;> first | kernel_rfl | (refine ⟨?_, ?_⟩ <;> kernel_rfl)))
   | fail)
  refine k_seq_n ?_
  repeat' (first
   | with_reducible refine stp ?_
   | with_reducible refine k_blk_o rfl ?_
   | with_reducible refine k_seq_n ?_
   | ((try (conv => arg 1; simp [hkneg, hgneg])); with_reducible refine evp ?_)
   | ((with_reducible refine apn ?na ?_); (case na => simp [appNames, ints, intss] <;> first | kernel_rfl | (refine ⟨?_, ?_⟩ <;> kernel_rfl)))
   | fail)
  rfl
end Go.Proofs.Ytlmlkkkgcbpaoaa.AM


namespace Go.Proofs.Ytlmlkkkgcbpaoaa.fnExactDeadStores
open Go.ChangeShapes Go.WideShapes Go.ChangeAt Go.RowKit
set_option linter.unusedVariables false
theorem own : ownKnob Try.prog.godebug = none := by kernel_rfl

theorem sound (l : List AM.AV) (h : AM.ShpAll Try.prog [25] l) : AM.Sound Try.prog 8 l (.mt 0) fun v _ => v = .bool true := by
  obtain ⟨cells0, l0, g0, e0, k0⟩ := AM.shpAll_cons h
  have e' := AM.shpAll_nil k0
  subst e' e0
  obtain ⟨a0, rfl, d0⟩ := AM.shp_graph g0
  rw [AM.agg_graph]
  exact AM.lawDeadStores a0 d0

set_option maxRecDepth 100000 in
theorem lifted (os : Os) (started : os.Started) (H : Type) (enc : TypeId × Value → H) :
    ReturnsInHanded {} Try.checked os 8 .any (Rows.fnExactDeadStoresSpec.pre6 enc Try.prog Try.f8 Rows.fnExactDeadStoresRow.domain false) (Rows.fnExactDeadStoresSpec.post enc Try.prog Try.f8 false true false false) := by
  refine returnsInHanded_of_change_sized (C := Try.checked) own started (by kernel_rfl) Try.func8
    (ChangeSpec.witness6 (enc := enc) (C := Try.checked) false ⟨#[], #[.agg #[.slice none 0 0, .int .i64 0, .int .i64 0, .int .i64 0, .slice none 0 0]], []⟩ 8 (by kernel_rfl) (by kernel_rfl) (by kernel_rfl) (by kernel_rfl)) ?_
  intro W base args ds gs before hval0 hW hcnd hsz0 _
  have hval : ∀ (j : Nat) t v, Try.f8.params[j]? = some t → args[j]? = some v → Value.okWide Try.prog W .any base t v := hval0
  have hW' := hW
  obtain ⟨p, q, hA0, hV, rfl, hfz, hnd⟩ := hW
  have hA : DataW.TrodAll enc Try.prog W 0 (fun _ => true) true Try.f8.params.toList args.toList ds p := hA0
  rw [Try.params8] at hA hval
  obtain ⟨v0, vs0, d0, ds0, p0, q0, hargs, rfl, rfl, h0, r0⟩ := trodAll_cons hA
  obtain ⟨rfl, rfl, rfl⟩ := trodAll_nil r0
  obtain rfl : args = #[v0] := by cases args; simp_all
  obtain ⟨rfl, rfl⟩ := trodVars_none hV
  clear hA0 hval0 hsz0
  refine (AM.law_calls (params := [25]) (ts := [25, 3, 22, 23, 80, 78, 156, 9]) sound (by kernel_rfl) (by simp) (args := #[v0]) (fun j t v a b => hval j t v (by simpa using a) b) hA).mono fun e W' ⟨he, bel⟩ => ?_
  subst he
  exact ⟨_, rfl, _, _, _, [], _, [], hW', trodAll_mk1 (shut_bool Try.underlying4 _), AM.back_all AM.laid bel _ _ _ _ (by kernel_rfl) hA, rfl, bel.frame _, fun h => by cases h⟩
theorem over : Rows.fnExactDeadStoresRow.holds Try.pinned (OpenSpec.ofChange Rows.fnExactDeadStoresSpec) :=
  OpenClaim.holds_of_wide 8 Try.f8 rfl rfl rfl rfl rfl rfl rfl ⟨rfl, rfl, rfl, rfl, rfl⟩ rfl rfl rfl rfl rfl (by kernel_rfl) Try.func8 (by kernel_rfl)
    (of_decide_eq_true (by kernel_rfl)) (by unfold Func.isWrapper; first | (rw [if_pos (by decide +kernel)]; kernel_rfl) | (rw [if_neg (by decide +kernel)]; exact ⟨rfl, rfl⟩))
    (fun os started H enc _ => lifted os started H enc)
theorem proved : Rows.FnExactDeadStoresSaid := over
end Go.Proofs.Ytlmlkkkgcbpaoaa.fnExactDeadStores
namespace Go.Proofs.Ytlmlkkkgcbpaoaa
theorem fnExactDeadStores_holds : Rows.FnExactDeadStoresSaid := fnExactDeadStores.proved
end Go.Proofs.Ytlmlkkkgcbpaoaa
