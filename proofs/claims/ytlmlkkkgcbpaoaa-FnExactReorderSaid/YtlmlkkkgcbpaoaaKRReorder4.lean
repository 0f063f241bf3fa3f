/-
  FnExactReorder: for every argument, the law returns true, and the arguments read behind the call as they read before.
  Conditions: none beyond the given statement's own.
-/
import Derived.Test.YtlmlkkkgcbpaoaaKk3
import Derived.WalkKit
import Derived.ProofKit
import Derived.OpenShut
import Derived.ShutString
import Derived.ChangeOld
import Derived.Below
import Derived.SizedLaws
/-
  Orders of blocks: the program's.
-/
set_option linter.unusedVariables false
set_option linter.unusedSimpArgs false
set_option maxRecDepth 4000
namespace Go.Proofs.Ytlmlkkkgcbpaoaa.AM
open Go.RowKit

private def MG73 : FuncId → Mode := fun f => if f = 124 ∨ f = 125 ∨ f = 85 then .heap else .tree

theorem cl1_at {xs : List Int} {i : Nat} (hi : i < xs.length) : (cl1 xs)[i]? = some [.int .i64 xs[i]] := by simp [cl1, hi]
theorem not_nodup {xs : List Int} {i : Nat} (hi : i + 1 < xs.length) (he : xs[i + 1] = xs[i]) : ¬ xs.Nodup := fun h => by
  have := (List.pairwise_iff_getElem.1 h) i (i + 1) (by omega) hi (by omega)
  exact this he.symm

set_option maxHeartbeats 2000000 in
theorem compactS (xs : List Int) {m : Nat} (hm : xs.length = m) (hl : m ≤ 2 ^ 31) {h : Hp} {bs : Bx} {os : Ox} {n : Nm} {ver : Nat} (x : Cx h ((n, ⟨ver, 1, cl1 xs⟩) :: bs) os) :
    Sound Try.prog 125 [.sl n ver 0 m] h fun v h' => ∃ ys sp, v = .sl n ver 0 ys.length ∧ (ys = xs ∨ (ys.length < xs.length ∧ ¬ xs.Nodup)) ∧ Cx h' ((n, ⟨ver, 1, cl1 ys ++ sp⟩) :: bs) os := by
  have hnil : True := trivial
  subst hm
  refine enter mixed MG73 Try.func125 rfl (by kernel_rfl) rfl ?_
  by_cases h2 : (xs.length : Int) < 2
  · skip
    repeat' (first
     | with_reducible refine stp ?_
     | with_reducible refine k_blk_o rfl ?_
     | with_reducible refine k_seq_n ?_
     | ((try (conv => arg 1; simp [h2])); with_reducible refine evp ?_)
     | ((with_reducible refine apn ?na ?_); (case na => simp [appNames, ints, intss] <;> first | kernel_rfl | (refine ⟨?_, ?_⟩ <;> kernel_rfl)))
     | fail)
    exact ⟨xs, [], rfl, .inl rfl, by rw [List.append_nil]; exact Cx.to x⟩
  · skip
    repeat' (first
     | with_reducible refine stp ?_
     | with_reducible refine k_blk_o rfl ?_
     | with_reducible refine k_seq_n ?_
     | ((try (conv => arg 1; simp [h2])); with_reducible refine evp ?_)
     | ((with_reducible refine apn ?na ?_); (case na => simp [appNames, ints, intss] <;> first | kernel_rfl | (refine ⟨?_, ?_⟩ <;> kernel_rfl)))
     | fail)
    refine st_loop (fun (k : Nat) σ h' => 1 ≤ k ∧ k ≤ xs.length ∧ σ 0 = .sl n ver 0 xs.length ∧ σ 3 = .int .i64 k ∧ Cx h' ((n, ⟨ver, 1, cl1 xs⟩) :: bs) os) (fun k => xs.length - k) 1 ?init ?step
    case init => exact ⟨Nat.le_refl _, by omega, by simp, by simp, Cx.to x⟩
    case step =>
      rintro k σ h' ⟨hk1, hk, s0, s3, y⟩
      have b := y.bxs
      simp only [Bxs] at b
      by_cases hlt : k < xs.length
      · have hlt2 : (k : Int) < xs.length := by omega
        have hw : IntKind.i64.wrap (k + 1) = k + 1 := wrap_id (by omega) (by omega)
        have hwk : IntKind.i64.wrap ((k : Int) - 1) = ((k - 1 : Nat) : Int) := by rw [wrap_id (by omega) (by omega)]; omega
        have hg1 := cl1_at hlt
        have hk2 : k - 1 < xs.length := by omega
        have hg2 := cl1_at hk2
        have hT : ¬ n.1 = h'.tick + 1 := by have := b.2.1; omega
        have hcl : (cl1 xs).length = xs.length := by simp [cl1]
        have hsl : k ≤ xs.length := by omega
        generalize hE : cl1 xs = E at *
        generalize hj : k - 1 = j at *
        by_cases he : xs[k] = xs[j]
        · have hnn : ¬ xs.Nodup := by
            have e1 : k = j + 1 := by omega
            subst e1
            exact not_nodup hlt he
          repeat' (first
           | with_reducible refine stp ?_
           | with_reducible refine k_blk_o rfl ?_
           | with_reducible refine k_seq_n ?_
           | ((try (conv => arg 1; simp [s0, s3, hlt2])); with_reducible refine evp ?_)
           | ((with_reducible refine apn ?na ?_); (case na => simp [appNames, ints, intss] <;> first | kernel_rfl | (refine ⟨?_, ?_⟩ <;> kernel_rfl)))
           | fail)
          repeat (with_reducible first | refine stp ?_ | refine k_seq_n ?_)
          refine st_draw 10 (fun _ => false) (by kernel_rfl) ?_
          simp only [List.take_succ_cons, List.take_zero, List.drop_succ_cons, List.drop_zero, List.take_nil, List.drop_nil]
          repeat' (first
           | with_reducible refine stp ?_
           | with_reducible refine k_blk_o rfl ?_
           | with_reducible refine k_seq_n ?_
           | ((try (conv => arg 1; simp [s0, s3, b, hlt, hlt2, hk2, hwk, hg1, hg2, he, maskR, hT])); with_reducible refine evp ?_)
           | ((with_reducible refine apn ?na ?_); (case na => simp [appNames, ints, intss] <;> first | kernel_rfl | (refine ⟨?_, ?_⟩ <;> kernel_rfl)))
           | fail)
          repeat' (first
           | with_reducible refine stp ?_
           | with_reducible refine k_blk_o rfl ?_
           | with_reducible refine k_seq_n ?_
           | ((try (conv => arg 1; simp [s0, s3, b, hlt, hlt2, hsl, hcl, sliceA, bnd])); with_reducible refine evp ?_)
           | ((with_reducible refine apn ?na ?_); (case na => simp [appNames, ints, intss] <;> first | kernel_rfl | (refine ⟨?_, ?_⟩ <;> kernel_rfl)))
           | fail)
          refine st_loop (fun (i : Nat) σ h' => 1 ≤ i ∧ i ≤ xs.length - k ∧ σ 0 = .sl n ver 0 xs.length ∧ σ 4 = .sl n ver k (xs.length - k) ∧ σ 5 = .int .i64 i ∧ ∃ (cur : List Int) (m : Nat), cur.length = xs.length ∧ k ≤ m ∧ m < k + i ∧ σ 3 = .int .i64 m ∧ Cx h' ((n, ⟨ver, 1, cl1 cur⟩) :: bs) os) (fun i => xs.length - k - i) 1 ?init ?step
          case init => exact ⟨Nat.le_refl _, by omega, by simp [s0], by simp, by simp, xs, k, rfl, Nat.le_refl _, by omega, by simp [s3], by rw [hE]; exact Cx.to y⟩
          case step =>
            rintro i σ h2 ⟨hi1, hi, s0, s4, s5, cur, m, hcu, hm1, hm2, s3, z⟩
            have bz := z.bxs
            simp only [Bxs] at bz
            by_cases hil : i < xs.length - k
            · have hil2 : (i : Int) < ((xs.length - k : Nat) : Int) := by omega
              have hwi : IntKind.i64.wrap (i + 1) = i + 1 := wrap_id (by omega) (by omega)
              have hwm : IntKind.i64.wrap (m + 1) = m + 1 := wrap_id (by omega) (by omega)
              have hwi2 : IntKind.i64.wrap ((i : Int) - 1) = ((i - 1 : Nat) : Int) := by rw [wrap_id (by omega) (by omega)]; omega
              have ha : k + i < cur.length := by omega
              have ha2 : k + (i - 1) < cur.length := by omega
              have hg3 := cl1_at ha
              have hg4 := cl1_at ha2
              have hmx : m < xs.length := by omega
              have hg5 := cl1_at (xs := cur) (i := m) (by omega)
              have hT2 : ¬ n.1 = h2.tick + 1 := by have := bz.2.1; omega
              have hi2l : i - 1 < xs.length - k := by omega
              have hset : ∀ c : Int, (cl1 cur).set m [.int .i64 c] = cl1 (cur.set m c) := fun c => by simp [cl1, List.map_set]
              generalize hq : i - 1 = q at *
              generalize hrm : xs.length - k = rm at *
              generalize hF : cl1 cur = F at *
              by_cases hc : cur[k + i] = cur[k + q]
              · skip
                repeat' (first
                 | with_reducible refine stp ?_
                 | with_reducible refine k_blk_o rfl ?_
                 | with_reducible refine k_seq_n ?_
                 | ((try (conv => arg 1; simp [s0, s3, s4, s5, hil2])); with_reducible refine evp ?_)
                 | ((with_reducible refine apn ?na ?_); (case na => simp [appNames, ints, intss] <;> first | kernel_rfl | (refine ⟨?_, ?_⟩ <;> kernel_rfl)))
                 | fail)
                repeat (with_reducible first | refine stp ?_ | refine k_seq_n ?_)
                refine st_draw 10 (fun _ => false) (by kernel_rfl) ?_
                simp only [List.take_succ_cons, List.take_zero, List.drop_succ_cons, List.drop_zero, List.take_nil, List.drop_nil]
                repeat' (first
                 | with_reducible refine stp ?_
                 | with_reducible refine k_blk_o rfl ?_
                 | with_reducible refine k_seq_n ?_
                 | ((try (conv => arg 1; simp [s0, s3, s4, s5, bz, hil, hi2l, hwi2, hg3, hg4, hc, hwi, maskR, hT2])); with_reducible refine evp ?_)
                 | ((with_reducible refine apn ?na ?_); (case na => simp [appNames, ints, intss] <;> first | kernel_rfl | (refine ⟨?_, ?_⟩ <;> kernel_rfl)))
                 | fail)
                refine k_lp_n (i + 1) (by omega) ⟨by omega, by omega, by simp [s0], by simp [s4], by simp, cur, m, hcu, hm1, by omega, by simp [s3], by rw [hF]; exact Cx.to z⟩
              · skip
                repeat' (first
                 | with_reducible refine stp ?_
                 | with_reducible refine k_blk_o rfl ?_
                 | with_reducible refine k_seq_n ?_
                 | ((try (conv => arg 1; simp [s0, s3, s4, s5, hil2])); with_reducible refine evp ?_)
                 | ((with_reducible refine apn ?na ?_); (case na => simp [appNames, ints, intss] <;> first | kernel_rfl | (refine ⟨?_, ?_⟩ <;> kernel_rfl)))
                 | fail)
                repeat (with_reducible first | refine stp ?_ | refine k_seq_n ?_)
                refine st_draw 10 (fun _ => false) (by kernel_rfl) ?_
                simp only [List.take_succ_cons, List.take_zero, List.drop_succ_cons, List.drop_zero, List.take_nil, List.drop_nil]
                repeat' (first
                 | with_reducible refine stp ?_
                 | with_reducible refine k_blk_o rfl ?_
                 | with_reducible refine k_seq_n ?_
                 | ((try (conv => arg 1; simp [s0, s3, s4, s5, bz, hil, hi2l, hwi2, hg3, hg4, hg5, hmx, hc, hwi, hwm, maskR, hT2])); with_reducible refine evp ?_)
                 | ((with_reducible refine apn ?na ?_); (case na => simp [appNames, ints, intss] <;> first | kernel_rfl | (refine ⟨?_, ?_⟩ <;> kernel_rfl)))
                 | fail)
                refine k_lp_n (i + 1) (by omega) ⟨by omega, by omega, by simp [s0], by simp [s4], by simp, cur.set m cur[k + i], m + 1, by simp [hcu], by omega, by omega, by simp, ?_⟩
                rw [← hset]
                exact Cx.to z
            · have hil2 : ¬ (i : Int) < ((xs.length - k : Nat) : Int) := by omega
              have hmn : m < xs.length := by omega
              have hml : m ≤ xs.length := by omega
              have ee : cl1 cur = cl1 (cur.take m) ++ (cl1 (cur.drop m) ++ []) := by
                rw [List.append_nil]; simp only [cl1]; rw [← List.map_append, List.take_append_drop]
              have row := bz.1
              rw [ee] at row
              have hcl2 : (cl1 cur).length = xs.length := by simp [cl1, hcu]
              have hpl : (cl1 (cur.take m)).length = m := by simp [cl1]; omega
              have hdl : (cl1 (cur.drop m)).length = xs.length - m := by simp [cl1]; omega
              generalize hrm : xs.length - k = rm at *
              generalize hF : cl1 cur = F at *
              repeat' (first
               | with_reducible refine stp ?_
               | with_reducible refine k_blk_o rfl ?_
               | with_reducible refine k_seq_n ?_
               | ((try (conv => arg 1; simp [s0, s3, s4, s5, hil2, bz, hml, hcl2, sliceA, bnd])); with_reducible refine evp ?_)
               | ((with_reducible refine apn ?na ?_); (case na => simp [appNames, ints, intss] <;> first | kernel_rfl | (refine ⟨?_, ?_⟩ <;> kernel_rfl)))
               | fail)
              conv => arg 1; simp
              rw [clearA_at (s := 1) (z := [AV.int .i64 0]) (pre := cl1 (cur.take m)) (mid := cl1 (cur.drop m)) (post := []) (by kernel_rfl) (by simpa using row) hpl hdl (by have := bz.2.1; simp; omega)]
              refine ev2_some ?_
              have hRl : m ≤ (cl1 (cur.take m) ++ (List.replicate (xs.length - m) [AV.int .i64 0] ++ [])).length := by simp [cl1]; omega
              generalize hR : cl1 (cur.take m) ++ (List.replicate (xs.length - m) [AV.int .i64 0] ++ []) = R at *
              repeat' (first
               | with_reducible refine stp ?_
               | with_reducible refine k_blk_o rfl ?_
               | with_reducible refine k_seq_n ?_
               | ((try (conv => arg 1; simp [s0, s3, s4, s5, bz, hml, hRl, sliceA, bnd])); with_reducible refine evp ?_)
               | ((with_reducible refine apn ?na ?_); (case na => simp [appNames, ints, intss] <;> first | kernel_rfl | (refine ⟨?_, ?_⟩ <;> kernel_rfl)))
               | fail)
              refine ⟨cur.take m, List.replicate (xs.length - m) [AV.int .i64 0] ++ [], ?_, .inr ⟨by simp; omega, hnn⟩, by rw [hR]; exact Cx.to z⟩
              rw [show (cur.take m).length = m by simp; omega]
              rfl
        · skip
          repeat' (first
           | with_reducible refine stp ?_
           | with_reducible refine k_blk_o rfl ?_
           | with_reducible refine k_seq_n ?_
           | ((try (conv => arg 1; simp [s0, s3, hlt2])); with_reducible refine evp ?_)
           | ((with_reducible refine apn ?na ?_); (case na => simp [appNames, ints, intss] <;> first | kernel_rfl | (refine ⟨?_, ?_⟩ <;> kernel_rfl)))
           | fail)
          repeat (with_reducible first | refine stp ?_ | refine k_seq_n ?_)
          refine st_draw 10 (fun _ => false) (by kernel_rfl) ?_
          simp only [List.take_succ_cons, List.take_zero, List.drop_succ_cons, List.drop_zero, List.take_nil, List.drop_nil]
          repeat' (first
           | with_reducible refine stp ?_
           | with_reducible refine k_blk_o rfl ?_
           | with_reducible refine k_seq_n ?_
           | ((try (conv => arg 1; simp [s0, s3, b, hlt, hlt2, hk2, hwk, hg1, hg2, he, hw, maskR, hT])); with_reducible refine evp ?_)
           | ((with_reducible refine apn ?na ?_); (case na => simp [appNames, ints, intss] <;> first | kernel_rfl | (refine ⟨?_, ?_⟩ <;> kernel_rfl)))
           | fail)
          refine k_lp_n (k + 1) (by omega) ⟨by omega, by omega, by simp [s0], by simp, Cx.to y⟩
      · have hge : k = xs.length := by omega
        have hlt2 : ¬ (k : Int) < xs.length := by omega
        repeat' (first
         | with_reducible refine stp ?_
         | with_reducible refine k_blk_o rfl ?_
         | with_reducible refine k_seq_n ?_
         | ((try (conv => arg 1; simp [s0, s3, hlt2])); with_reducible refine evp ?_)
         | ((with_reducible refine apn ?na ?_); (case na => simp [appNames, ints, intss] <;> first | kernel_rfl | (refine ⟨?_, ?_⟩ <;> kernel_rfl)))
         | fail)
        exact ⟨xs, [], rfl, .inl rfl, by rw [List.append_nil]; exact Cx.to y⟩

theorem ascendingS (xs : List Int) (hne : xs ≠ []) (hl : xs.length ≤ 2 ^ 30) {h : Hp} {bs : Bx} {os : Ox} {n : Nm} {ver : Nat} (x : Cx h ((n, ⟨ver, 1, cl1 xs⟩) :: bs) os) :
    Sound Try.prog 85 [.sl n ver 0 xs.length] h fun v h' => ∃ ys sp, v = .sl n ver 0 ys.length ∧ (ys = sorted xs ∨ (ys.length < xs.length ∧ ¬ (sorted xs).Nodup)) ∧ Cx h' ((n, ⟨ver, 1, cl1 ys ++ sp⟩) :: bs) os := by
  have hnil : True := trivial
  have b := x.bxs
  simp only [Bxs] at b
  refine enter mixed MG73 Try.func85 rfl (by kernel_rfl) rfl ?_
  repeat' (first
   | with_reducible refine stp ?_
   | with_reducible refine k_blk_o rfl ?_
   | with_reducible refine k_seq_n ?_
   | ((try (conv => arg 1; simp [hnil])); with_reducible refine evp ?_)
   | ((with_reducible refine apn ?na ?_); (case na => simp [appNames, ints, intss] <;> first | kernel_rfl | (refine ⟨?_, ?_⟩ <;> kernel_rfl)))
   | fail)
  refine st_heap rfl (sortS xs hne (by omega) (sp := []) (ver := ver) (n := n) (by simp [b]) (by have := b.2.1; simp; omega)) ?_
  rintro v h' rfl
  repeat' (first
   | with_reducible refine stp ?_
   | with_reducible refine k_blk_o rfl ?_
   | with_reducible refine k_seq_n ?_
   | ((try (conv => arg 1; simp [hnil])); with_reducible refine evp ?_)
   | ((with_reducible refine apn ?na ?_); (case na => simp [appNames, ints, intss] <;> first | kernel_rfl | (refine ⟨?_, ?_⟩ <;> kernel_rfl)))
   | fail)
  rw [List.append_nil]
  refine st_heap rfl (compactS (sorted xs) (sorted_len xs) (by omega) (Cx.to x)) ?_
  rintro v h' ⟨ys, sp, rfl, hy, z⟩
  repeat' (first
   | with_reducible refine stp ?_
   | with_reducible refine k_blk_o rfl ?_
   | with_reducible refine k_seq_n ?_
   | ((try (conv => arg 1; simp [hnil])); with_reducible refine evp ?_)
   | ((with_reducible refine apn ?na ?_); (case na => simp [appNames, ints, intss] <;> first | kernel_rfl | (refine ⟨?_, ?_⟩ <;> kernel_rfl)))
   | fail)
  exact ⟨ys, sp, rfl, by rw [sorted_len] at hy; exact hy, Cx.to z⟩
end Go.Proofs.Ytlmlkkkgcbpaoaa.AM

/-
  Orders of blocks: both sides.
-/
set_option linter.unusedVariables false
set_option linter.unusedSimpArgs false
set_option maxRecDepth 4000
namespace Go.Proofs.Ytlmlkkkgcbpaoaa.AM
open Go.RowKit

private def MG74 : FuncId → Mode := fun f => if f = 85 then .heap else .tree

theorem orderB_f1 {g : Graph} {l : List Int} (h : graphOk g = false) : orderB g l = false := by simp [orderB, h]
theorem orderB_f2 {g : Graph} {l : List Int} (h : ¬ l.length = g.Blocks.length) : orderB g l = false := by simp [orderB, h]
theorem orderB_f3 {g : Graph} {l : List Int} (h : ¬ l.getD 0 1 = 0) : orderB g l = false := by simp only [orderB, h]; simp
theorem ok_blocks {g : Graph} (hk : graphOk g = true) : 1 ≤ g.Blocks.length ∧ g.Blocks.length ≤ 300 := (headOk_head (by simp only [graphOk, Bool.and_eq_true] at hk; exact hk.1.1)).blocks
/-- Which are there. -/
def markOf (n : Nat) (l : List Int) : List Bool := (List.range n).map fun k : Nat => decide ((k : Int) ∈ l)
theorem markOf_len (n : Nat) (l : List Int) : (markOf n l).length = n := by simp [markOf]
theorem markOf_at {n : Nat} {l : List Int} {k : Nat} (hk : k < n) : (markOf n l)[k]'(by rw [markOf_len]; exact hk) = decide ((k : Int) ∈ l) := by simp [markOf]
theorem markOf_set {n : Nat} {l : List Int} {k : Nat} (hk : k < n) : (markOf n l).set k true = markOf n (l ++ [(k : Int)]) := by
  refine List.ext_getElem (by simp [markOf]) fun i h1 h2 => ?_
  simp only [markOf_len, List.length_set] at h1
  rw [List.getElem_set, markOf_at h1, markOf_at h1]
  by_cases e : k = i
  · subst e; simp
  · rw [if_neg e]
    have : ¬ (i : Int) = (k : Int) := by omega
    simp [this]

set_option maxHeartbeats 2000000 in
theorem specOrderOk (g : Graph) (d : g.Small) (l : List Int) (hll : l.length ≤ 2 ^ 20) : Pure Try.prog 28 [.agg (g.cells true), ints true l] (.bool (orderB g l)) := by
  intro T
  have hln := d.len
  have hnil : True := trivial
  have G := graphOkSpec g d.fit
  refine enter mixed MG74 Try.func28 rfl (by kernel_rfl) rfl ?_
  repeat' (first
   | with_reducible refine stp ?_
   | with_reducible refine k_blk_o rfl ?_
   | ((try (conv => arg 1; simp [Graph.cells])); with_reducible refine evp ?_)
   | ((with_reducible refine apn ?na ?_); (case na => simp [appNames, ints, intss] <;> first | kernel_rfl | (refine ⟨?_, ?_⟩ <;> kernel_rfl)))
   | fail)
  refine cx_k (Cx.mt.next.box_one (T := T) (i := 0) Cx.mt.off (by simp)) ?_
  intro h1 x1
  have b1 := x1.bxs
  simp only [Bxs] at b1
  cases hk : graphOk g with
  | false =>
    rw [hk] at G
    rw [orderB_f1 hk]
    repeat' (first
     | with_reducible refine stp ?_
     | with_reducible refine k_blk_o rfl ?_
     | with_reducible refine k_seq_n ?_
     | ((try (conv => arg 1; simp [b1, ltS, nm_ne, tk_ne])); with_reducible refine evp ?_)
     | ((with_reducible refine apn ?na ?_); (case na => simp [appNames, ints, intss] <;> first | kernel_rfl | (refine ⟨?_, ?_⟩ <;> kernel_rfl)))
     | ((with_reducible refine tcl ?_); first | ((apply tg (G)); (case e => rfl); (case d => (refine dq ?_); (repeat' (first | ((refine Da.mk ?_); first | exact dr_blocks (by simp) _ | assumption) | constructor)))))
     | fail)
    exact .bool _
  | true =>
    rw [hk] at G
    have hnb := ok_blocks hk
    by_cases hl : l.length = g.Blocks.length
    · have hl2 : (l.length : Int) = g.Blocks.length := by omega
      have hl0 : l[0]? = some (l[0]'(by omega)) := by simp
      have hg0 : l.getD 0 1 = l[0]'(by omega) := by simp [List.getD, hl0]
      have hlp : 0 < l.length := by omega
      by_cases h0 : l[0]'(by omega) = 0
      · have hnb3 : (g.Blocks.length : Int) ≤ 4294967296 := by omega
        repeat' (first
         | with_reducible refine stp ?_
         | with_reducible refine k_blk_o rfl ?_
         | with_reducible refine k_seq_n ?_
         | ((try (conv => arg 1; simp [b1, ints, blocks, hl, hl2, hl0, hlp, h0, hnb3, ltS, nm_ne, tk_ne])); with_reducible refine evp ?_)
         | ((with_reducible refine apn ?na ?_); (case na => simp [appNames, ints, intss] <;> first | kernel_rfl | (refine ⟨?_, ?_⟩ <;> kernel_rfl)))
         | ((with_reducible refine tcl ?_); first | ((apply tg (G)); (case e => rfl); (case d => (refine dq ?_); (repeat' (first | ((refine Da.mk ?_); first | exact dr_blocks (by simp) _ | assumption) | constructor)))))
         | fail)
        have oe : orderB g l = decide ((∀ x ∈ l, inB x 0 ((g.Blocks.length : Int) - 1) = true) ∧ l.Nodup) := by
          simp only [orderB, hk, hl, hg0, h0, decide_true, Bool.true_and]
          exact decide_eq_decide.2 (sorted_range hl)
        rw [oe]
        refine st_loop (fun (i : Nat) σ h => i ≤ l.length ∧ σ 1 = ints true l ∧ σ 5 = .sl (h1.tick + 1, 2, 0) 0 0 g.Blocks.length ∧ σ 6 = .int .i64 i ∧ (∀ x ∈ l.take i, inB x 0 ((g.Blocks.length : Int) - 1) = true) ∧ (l.take i).Nodup ∧
          ∃ L : List (List AV), L = (markOf g.Blocks.length (l.take i)).map (fun x => [.bool x]) ∧ Cx h [((h1.tick + 1, 2, 0), ⟨0, 1, L⟩)] []) (fun i => l.length - i) 0 ?init ?step
        case init =>
          have z0 : Cx h1 [] [] := x1.box_drop
          have z1 := z0.next.next.box_one (T := h1.tick + 1) (i := 2) (r := ⟨0, 1, List.replicate g.Blocks.length [.bool false]⟩) (fun n hn => by simp [nms] at hn) (by simp)
          refine ⟨Nat.zero_le _, by simp [ints], by simp, by simp, by simp, by simp, _, ?_, Cx.to z1⟩
          rw [List.take_zero]
          refine List.ext_getElem (by simp [markOf]) fun i h1 h2 => by simp [markOf]
        case step =>
          rintro i σ h ⟨hi, s1, s5, s6, hal, hnd, L, hL, x⟩
          have b := x.bxs
          simp only [Bxs] at b
          by_cases hlt : i < l.length
          · have hlt2 : (i : Int) < l.length := by omega
            have hw : IntKind.i64.wrap (i + 1) = i + 1 := wrap_id (by omega) (by omega)
            have hwl : IntKind.i64.wrap ((l.length : Int) - 1) = (l.length : Int) - 1 := wrap_id (by omega) (by omega)
            have hx : l[i]? = some l[i] := by simp
            have I := l01In l[i] 0 ((l.length : Int) - 1)
            have hmem : l[i] ∈ l := List.getElem_mem hlt
            have hLl : L.length = g.Blocks.length := by rw [hL, List.length_map, markOf_len]
            have hts := take_snoc hlt
            cases hb : inB l[i] 0 ((l.length : Int) - 1) with
            | false =>
              rw [hb] at I
              generalize hli : l[i] = li at *
              have hop : ∀ hh, l[i]'hh = li := fun _ => hli
              repeat' (first
               | with_reducible refine stp ?_
               | with_reducible refine k_blk_o rfl ?_
               | with_reducible refine k_seq_n ?_
               | ((try (conv => arg 1; simp [s1, s5, s6, ints, hlt2, hx, hlt, hop, hwl])); with_reducible refine evp ?_)
               | ((with_reducible refine apn ?na ?_); (case na => simp [appNames, ints, intss] <;> first | kernel_rfl | (refine ⟨?_, ?_⟩ <;> kernel_rfl)))
               | ((with_reducible refine tcl ?_); first | ((apply tg (I)); (case e => rfl); (case d => (refine dq ?_); (repeat' (first | ((refine Da.mk ?_); first | assumption) | constructor)))))
               | fail)
              refine dr_bool ?_
              symm
              rw [decide_eq_false_iff_not]
              rintro ⟨h1, _⟩
              have := h1 li hmem
              rw [← hl, hb] at this
              cases this
            | true =>
              rw [hb] at I
              obtain ⟨k, hk2⟩ : ∃ k : Nat, l[i] = (k : Int) := ⟨l[i].toNat, by simp [inB] at hb; omega⟩
              have hkN : k < g.Blocks.length := by rw [hk2] at hb; simp [inB] at hb; omega
              have hkN2 : (k : Int) < g.Blocks.length := by omega
              generalize hli : l[i] = li at *
              subst hk2
              have hop : ∀ hh, l[i]'hh = (k : Int) := fun _ => hli
              cases hm : decide ((k : Int) ∈ l.take i) with
              | true =>
                have hel : ∀ hh, L[k]'hh = [.bool true] := fun hh => by
                  simp only [hL, List.getElem_map, markOf_at hkN, hm]
                repeat' (first
                 | with_reducible refine stp ?_
                 | with_reducible refine k_blk_o rfl ?_
                 | with_reducible refine k_seq_n ?_
                 | ((try (conv => arg 1; simp [s1, s5, s6, ints, b, hlt2, hx, hlt, hop, hwl, hLl, hkN, hkN2, hel])); with_reducible refine evp ?_)
                 | ((with_reducible refine apn ?na ?_); (case na => simp [appNames, ints, intss] <;> first | kernel_rfl | (refine ⟨?_, ?_⟩ <;> kernel_rfl)))
                 | ((with_reducible refine tcl ?_); first | ((apply tg (I)); (case e => rfl); (case d => (refine dq ?_); (repeat' (first | ((refine Da.mk ?_); first | assumption) | constructor)))))
                 | fail)
                refine dr_bool ?_
                symm
                rw [decide_eq_false_iff_not]
                rintro ⟨_, h2⟩
                have h3 := h2.sublist (List.take_sublist (i + 1) l)
                rw [hts] at h3
                have h4 := List.nodup_append.1 h3
                exact h4.2.2 _ (of_decide_eq_true hm) _ (by simp) rfl
              | false =>
                have hel : ∀ hh, L[k]'hh = [.bool false] := fun hh => by
                  simp only [hL, List.getElem_map, markOf_at hkN, hm]
                have hls : L.set k [.bool true] = (markOf g.Blocks.length (l.take (i + 1))).map (fun x => [.bool x]) := by
                  rw [hL, ← List.map_set (f := fun x => [AV.bool x]), markOf_set hkN, hts]
                repeat' (first
                 | with_reducible refine stp ?_
                 | with_reducible refine k_blk_o rfl ?_
                 | with_reducible refine k_seq_n ?_
                 | ((try (conv => arg 1; simp [s1, s5, s6, ints, b, hlt2, hx, hlt, hop, hwl, hLl, hkN, hkN2, hel, hw])); with_reducible refine evp ?_)
                 | ((with_reducible refine apn ?na ?_); (case na => simp [appNames, ints, intss] <;> first | kernel_rfl | (refine ⟨?_, ?_⟩ <;> kernel_rfl)))
                 | ((with_reducible refine tcl ?_); first | ((apply tg (I)); (case e => rfl); (case d => (refine dq ?_); (repeat' (first | ((refine Da.mk ?_); first | assumption) | constructor)))))
                 | fail)
                refine k_lp_n (i + 1) (by omega) ⟨by omega, by simp [s1, ints], by simp [s5], by simp, ?_, ?_, _, hls, Cx.to x⟩
                · rw [hts]
                  intro y hy
                  rcases List.mem_append.1 hy with hy | hy
                  · exact hal y hy
                  · rw [List.mem_singleton.1 hy, ← hl]; exact hb
                · rw [hts, List.nodup_append]
                  refine ⟨hnd, by simp, fun a ha c hc e => ?_⟩
                  rw [List.mem_singleton.1 hc] at e
                  rw [e] at ha
                  exact absurd ha (of_decide_eq_false hm)
          · have hge : i = l.length := by omega
            have hlt2 : ¬ (i : Int) < l.length := by omega
            repeat' (first
             | with_reducible refine stp ?_
             | with_reducible refine k_blk_o rfl ?_
             | with_reducible refine k_seq_n ?_
             | ((try (conv => arg 1; simp [s1, s5, s6, ints, hlt2])); with_reducible refine evp ?_)
             | ((with_reducible refine apn ?na ?_); (case na => simp [appNames, ints, intss] <;> first | kernel_rfl | (refine ⟨?_, ?_⟩ <;> kernel_rfl)))
             | fail)
            rw [hge, List.take_length] at hal hnd
            refine dr_bool ?_
            symm
            rw [decide_eq_true_iff]
            exact ⟨hal, hnd⟩
      · rw [orderB_f3 (by rw [hg0]; exact h0)]
        repeat' (first
         | with_reducible refine stp ?_
         | with_reducible refine k_blk_o rfl ?_
         | with_reducible refine k_seq_n ?_
         | ((try (conv => arg 1; simp [b1, ints, blocks, hl, hl2, hl0, hlp, h0, ltS, nm_ne, tk_ne])); with_reducible refine evp ?_)
         | ((with_reducible refine apn ?na ?_); (case na => simp [appNames, ints, intss] <;> first | kernel_rfl | (refine ⟨?_, ?_⟩ <;> kernel_rfl)))
         | ((with_reducible refine tcl ?_); first | ((apply tg (G)); (case e => rfl); (case d => (refine dq ?_); (repeat' (first | ((refine Da.mk ?_); first | exact dr_blocks (by simp) _ | assumption) | constructor)))))
         | fail)
        exact .bool _
    · have hl2 : ¬ (l.length : Int) = g.Blocks.length := by omega
      rw [orderB_f2 hl]
      repeat' (first
       | with_reducible refine stp ?_
       | with_reducible refine k_blk_o rfl ?_
       | with_reducible refine k_seq_n ?_
       | ((try (conv => arg 1; simp [b1, ints, blocks, hl, hl2, ltS, nm_ne, tk_ne])); with_reducible refine evp ?_)
       | ((with_reducible refine apn ?na ?_); (case na => simp [appNames, ints, intss] <;> first | kernel_rfl | (refine ⟨?_, ?_⟩ <;> kernel_rfl)))
       | ((with_reducible refine tcl ?_); first | ((apply tg (G)); (case e => rfl); (case d => (refine dq ?_); (repeat' (first | ((refine Da.mk ?_); first | exact dr_blocks (by simp) _ | assumption) | constructor)))))
       | fail)
      exact .bool _
theorem dr_ints_sp {c : Bool} {rows : Nm → Option Row} {n : Nm} {ver : Nat} {l : List Int} {sp : List (List AV)} (h : rows n = some ⟨ver, 1, cl1 l ++ sp⟩) : DR c rows (.sl n ver 0 l.length) (ints c l) := by
  have := dr_flat_sl (c := c) (l := cl1 l) (sp := sp) h (fun e he x hx => by simp only [cl1, List.mem_map] at he; obtain ⟨a, _, rfl⟩ := he; simp at hx; subst hx; rfl)
  rw [show (cl1 l).length = l.length by simp [cl1]] at this
  exact this

set_option maxHeartbeats 2000000 in
theorem isOrder (g : Graph) (d : g.Small) (l : List Int) (hll : l.length ≤ 2 ^ 20) : Pure Try.prog 56 [.agg (g.cells true), ints true l] (.bool (orderB g l)) := by
  intro T
  have hln := d.len
  have hnil : True := trivial
  have G := isGraph g d
  refine enter mixed MG74 Try.func56 rfl (by kernel_rfl) rfl ?_
  repeat' (first
   | with_reducible refine stp ?_
   | with_reducible refine k_blk_o rfl ?_
   | ((try (conv => arg 1; simp [Graph.cells])); with_reducible refine evp ?_)
   | ((with_reducible refine apn ?na ?_); (case na => simp [appNames, ints, intss] <;> first | kernel_rfl | (refine ⟨?_, ?_⟩ <;> kernel_rfl)))
   | fail)
  refine cx_k (Cx.mt.next.box_one (T := T) (i := 0) Cx.mt.off (by simp)) ?_
  intro h1 x1
  have b1 := x1.bxs
  simp only [Bxs] at b1
  cases hk : graphOk g with
  | false =>
    rw [hk] at G
    rw [orderB_f1 hk]
    repeat' (first
     | with_reducible refine stp ?_
     | with_reducible refine k_blk_o rfl ?_
     | with_reducible refine k_seq_n ?_
     | ((try (conv => arg 1; simp [b1, ltS, nm_ne, tk_ne])); with_reducible refine evp ?_)
     | ((with_reducible refine apn ?na ?_); (case na => simp [appNames, ints, intss] <;> first | kernel_rfl | (refine ⟨?_, ?_⟩ <;> kernel_rfl)))
     | ((with_reducible refine tcl ?_); first | ((apply tg (G)); (case e => rfl); (case d => (refine dq ?_); (repeat' (first | ((refine Da.mk ?_); first | exact dr_blocks (by simp) _ | assumption) | constructor)))))
     | fail)
    exact .bool _
  | true =>
    rw [hk] at G
    have hnb := ok_blocks hk
    by_cases hl : l.length = g.Blocks.length
    · have hl2 : (l.length : Int) = g.Blocks.length := by omega
      have hl0 : l[0]? = some (l[0]'(by omega)) := by simp
      have hg0 : l.getD 0 1 = l[0]'(by omega) := by simp [List.getD, hl0]
      have hlp : 0 < l.length := by omega
      have hne : l ≠ [] := fun e => by rw [e] at hlp; simp at hlp
      have hll2 : l.length ≤ 4294967296 := by omega
      by_cases h0 : l[0]'(by omega) = 0
      · have oe : orderB g l = decide (sorted l = rangeI g.Blocks.length) := by simp only [orderB, hk, hl, hg0, h0, decide_true, Bool.true_and]
        have N := numbers l.length hll
        have z1 := x1.next.box_one (T := h1.tick) (i := 17) (r := ⟨0, 1, []⟩) x1.off (by simp)
        repeat' (first
         | with_reducible refine stp ?_
         | with_reducible refine k_blk_o rfl ?_
         | with_reducible refine k_seq_n ?_
         | ((try (conv => arg 1; simp [b1, ints, blocks, hl2, hl0, hlp, h0, hll2, ltS, nm_ne, tk_ne])); with_reducible refine evp ?_)
         | ((with_reducible refine apn ?na ?_); (case na => simp [appNames, ints, intss] <;> first | kernel_rfl | (refine ⟨?_, ?_⟩ <;> kernel_rfl)))
         | ((with_reducible refine tcl ?_); first | ((apply tg (G)); (case e => rfl); (case d => (refine dq ?_); (repeat' (first | ((refine Da.mk ?_); first | exact dr_blocks (by simp) _ | assumption) | constructor)))))
         | fail)
        conv => arg 1; simp
        rw [show AV.tr true (l.map fun n => [AV.int .i64 n]) = ints true l from rfl]
        repeat' (first
         | with_reducible refine stp ?_
         | with_reducible refine k_blk_o rfl ?_
         | with_reducible refine k_seq_n ?_
         | ((try (conv => arg 1; simp [b1, hll2, hlp, ltS, nm_ne, tk_ne])); with_reducible refine evp ?_)
         | ((with_reducible refine apn ?na ?_); (case na => simp [appNames, ints, intss] <;> first | kernel_rfl | (refine ⟨?_, ?_⟩ <;> kernel_rfl)))
         | fail)
        refine st_heap rfl (ascendingS l hne (by omega) (Cx.to z1)) ?_
        rintro v h2 ⟨ys, sp, rfl, hy, z⟩
        have bz := z.bxs
        simp only [Bxs] at bz
        have E := equalII ys (rangeI l.length) (by rcases hy with rfl | ⟨hy, _⟩; rw [sorted_len]; omega; omega)
        have er : decide (ys = rangeI l.length) = orderB g l := by
          rw [oe, ← hl]
          rcases hy with rfl | ⟨hy, hn⟩
          · rfl
          · rw [decide_eq_decide]
            constructor
            · intro e; rw [e, rangeI_len] at hy; omega
            · intro e; rw [e] at hn; exact absurd (rangeI_nodup _) hn
        rw [er] at E
        repeat' (first
         | with_reducible refine stp ?_
         | with_reducible refine k_blk_o rfl ?_
         | with_reducible refine k_seq_n ?_
         | ((try (conv => arg 1; simp [bz, ltS, nm_ne])); with_reducible refine evp ?_)
         | ((with_reducible refine apn ?na ?_); (case na => simp [appNames, ints, intss] <;> first | kernel_rfl | (refine ⟨?_, ?_⟩ <;> kernel_rfl)))
         | ((with_reducible refine tcl ?_); first | ((apply tg (N)); (case e => rfl); (case d => (refine dq ?_); (repeat' (first | ((refine Da.mk ?_); first | assumption) | constructor)))))
         | fail)
        refine st_tree rfl E (.cons (dr_ints_sp (sp := sp) (by simpa [hne] using bz.1)) (.cons (dr_ints (by simp) _) .nil)) ?_
        repeat' (first
         | with_reducible refine stp ?_
         | with_reducible refine k_blk_o rfl ?_
         | with_reducible refine k_seq_n ?_
         | ((try (conv => arg 1; simp [hnil])); with_reducible refine evp ?_)
         | ((with_reducible refine apn ?na ?_); (case na => simp [appNames, ints, intss] <;> first | kernel_rfl | (refine ⟨?_, ?_⟩ <;> kernel_rfl)))
         | fail)
        exact .bool _
      · rw [orderB_f3 (by rw [hg0]; exact h0)]
        repeat' (first
         | with_reducible refine stp ?_
         | with_reducible refine k_blk_o rfl ?_
         | with_reducible refine k_seq_n ?_
         | ((try (conv => arg 1; simp [b1, ints, blocks, hl2, hl0, hlp, h0, ltS, nm_ne, tk_ne])); with_reducible refine evp ?_)
         | ((with_reducible refine apn ?na ?_); (case na => simp [appNames, ints, intss] <;> first | kernel_rfl | (refine ⟨?_, ?_⟩ <;> kernel_rfl)))
         | ((with_reducible refine tcl ?_); first | ((apply tg (G)); (case e => rfl); (case d => (refine dq ?_); (repeat' (first | ((refine Da.mk ?_); first | exact dr_blocks (by simp) _ | assumption) | constructor)))))
         | fail)
        exact .bool _
    · have hl2 : ¬ (l.length : Int) = g.Blocks.length := by omega
      rw [orderB_f2 hl]
      repeat' (first
       | with_reducible refine stp ?_
       | with_reducible refine k_blk_o rfl ?_
       | with_reducible refine k_seq_n ?_
       | ((try (conv => arg 1; simp [b1, ints, blocks, hl2, ltS, nm_ne, tk_ne])); with_reducible refine evp ?_)
       | ((with_reducible refine apn ?na ?_); (case na => simp [appNames, ints, intss] <;> first | kernel_rfl | (refine ⟨?_, ?_⟩ <;> kernel_rfl)))
       | ((with_reducible refine tcl ?_); first | ((apply tg (G)); (case e => rfl); (case d => (refine dq ?_); (repeat' (first | ((refine Da.mk ?_); first | exact dr_blocks (by simp) _ | assumption) | constructor)))))
       | fail)
      exact .bool _
theorem implOrderOk (g : Graph) (d : g.Small) (l : List Int) (hll : l.length ≤ 2 ^ 20) : Pure Try.prog 29 [.agg (g.cells true), ints true l] (.bool (orderB g l)) := by
  intro T
  have I := isOrder g d l hll
  refine enter mixed MG74 Try.func29 rfl (by kernel_rfl) rfl ?_
  repeat' (first
   | with_reducible refine stp ?_
   | with_reducible refine k_blk_o rfl ?_
   | with_reducible refine k_seq_n ?_
   | ((try (conv => arg 1; simp [Graph.cells])); with_reducible refine evp ?_)
   | ((with_reducible refine apn ?na ?_); (case na => simp [appNames, ints, intss] <;> first | kernel_rfl | (refine ⟨?_, ?_⟩ <;> kernel_rfl)))
   | ((with_reducible refine tcl ?_); first | ((apply tg (I)); (case e => rfl); (case d => (refine dq ?_); (repeat' (first | ((refine Da.mk ?_); first | exact dr_blocks (by simp) _ | assumption) | constructor)))))
   | fail)
  exact .bool _
end Go.Proofs.Ytlmlkkkgcbpaoaa.AM

/-
  Blocks in another order: the parts.
-/
set_option linter.unusedVariables false
set_option linter.unusedSimpArgs false
set_option maxRecDepth 4000
namespace Go.Proofs.Ytlmlkkkgcbpaoaa.AM
open Go.RowKit

private def MG75 : FuncId → Mode := fun f => .tree

def placeI (l : List Int) (t : Int) : Int := idxOf (fun x => decide (t = x)) l
def reB (l : List Int) (b : Block) : Block := ⟨b.Code, b.Jump, b.A, if b.Jump = 2 then b.To else placeI l b.To, if b.Jump = 1 then placeI l b.Else else b.Else⟩
def reorderR (g : Graph) (l : List Int) : Graph := if orderB g l = true then { g with Blocks := l.map fun k => reB l (blkAt g k) } else g
structure Ord (g : Graph) (l : List Int) : Prop where
  ok : graphOk g = true
  len : l.length = g.Blocks.length
  fst : l.getD 0 1 = 0
  perm : l.Perm (rangeI g.Blocks.length)
theorem orderB_ord {g : Graph} {l : List Int} (h : orderB g l = true) : Ord g l := by
  simp only [orderB, Bool.and_eq_true, decide_eq_true_eq] at h
  obtain ⟨h1, h2, h3, h4⟩ := h
  exact ⟨h1, h2, h3, h4 ▸ (sorted_perm l).symm⟩
theorem Ord.at {g : Graph} {l : List Int} (o : Ord g l) {i : Nat} (hi : i < l.length) : ∃ k : Nat, l[i] = (k : Int) ∧ k < g.Blocks.length := by
  have h := o.perm.subset (List.getElem_mem hi)
  simp only [rangeI, List.mem_map, List.mem_range] at h
  obtain ⟨k, h1, h2⟩ := h
  exact ⟨k, h2.symm, h1⟩
theorem Ord.nodup {g : Graph} {l : List Int} (o : Ord g l) : l.Nodup := o.perm.symm.nodup_iff.1 (rangeI_nodup _)
theorem placeI_at {l : List Int} (hn : l.Nodup) {i : Nat} (hi : i < l.length) : placeI l l[i] = i := by
  refine idxOf_hit hi (fun j hj hlt => ?_) (by simp)
  have := (List.pairwise_iff_getElem.1 hn) j i hj hi hlt
  simpa using fun e => this e.symm
theorem rangeI_map (g : Graph) {α : Type} (f : Block → α) : (rangeI g.Blocks.length).map (fun k => f (blkAt g k)) = g.Blocks.map f := by
  refine List.ext_getElem (by simp [rangeI]) fun i h1 h2 => ?_
  simp only [List.length_map] at h2
  simp [rangeI, blkAt, h2]
theorem reorderR_small (g : Graph) (d : g.Small) (l : List Int) : (reorderR g l).Small := by
  unfold reorderR
  split
  · rename_i h
    have o := orderB_ord h
    refine ⟨d.sizes, ?_⟩
    have hd := d.blocks
    unfold wtBS at hd ⊢
    rw [gsum_all] at hd ⊢
    have e : ((l.map fun k => reB l (blkAt g k)).map wtB) = l.map fun k => wtB (blkAt g k) := by rw [List.map_map]; rfl
    rw [e, List.length_map, o.len, (o.perm.map fun k => wtB (blkAt g k)).sum_nat, rangeI_map g wtB]
    exact hd
  · exact d
theorem l03Zeros (n : Nat) (hn : n ≤ 2 ^ 20) : FreshW Try.prog 52 [.int .i64 n] (fun b => ints b (zeros n)) := by
  intro T
  have hnil : True := trivial
  refine enter mixed MG75 Try.func52 rfl (by kernel_rfl) rfl ?_
  repeat' (first
   | with_reducible refine stp ?_
   | with_reducible refine k_blk_o rfl ?_
   | with_reducible refine k_seq_n ?_
   | ((try (conv => arg 1; simp [hnil])); with_reducible refine evp ?_)
   | ((with_reducible refine apn ?na ?_); (case na => simp [appNames, ints, intss] <;> first | kernel_rfl | (refine ⟨?_, ?_⟩ <;> kernel_rfl)))
   | fail)
  refine st_loop (fun (i : Nat) σ h => i ≤ n ∧ σ 0 = .int .i64 n ∧ σ 3 = .sl (T + 1, 0, 0) i 0 i ∧ σ 4 = .int .i64 i ∧ Cx h [((T + 1, 0, 0), ⟨i, 1, cl1 (zeros i)⟩)] []) (fun i => n - i) 0 ?init ?step
  case init =>
    have x0 := Cx.mt (T := T).next.next.box_one (T := T + 1) (i := 0) (r := ⟨0, 1, []⟩) (fun n hn => by simp [nms] at hn) (by simp)
    exact ⟨Nat.zero_le _, by simp, by simp, by simp, Cx.to x0⟩
  case step =>
    rintro i σ h ⟨hi, s0, s3, s4, x⟩
    have b := x.bxs
    simp only [Bxs] at b
    have hw : IntKind.i64.wrap (i + 1) = i + 1 := wrap_id (by omega) (by omega)
    by_cases hlt : i < n
    · have hlt2 : (i : Int) < n := by omega
      repeat' (first
       | with_reducible refine stp ?_
       | with_reducible refine k_blk_o rfl ?_
       | with_reducible refine k_seq_n ?_
       | ((try (conv => arg 1; simp [s0, s3, s4, b, hlt2, ltS, nm_ne])); with_reducible refine evp ?_)
       | ((with_reducible refine apn ?na ?_); (case na => simp [appNames, ints, intss] <;> first | kernel_rfl | (refine ⟨?_, ?_⟩ <;> kernel_rfl)))
       | fail)
      conv => arg 1; simp
      rw [appendA_snoc (s := 1) (l := cl1 (zeros i)) (e := [.int .i64 0]) (by kernel_rfl) ?hr (by simp [cl1, zeros]) ?hk rfl (by omega) ?hm]
      case hr => simp [b, nm_ne, ltS]
      case hk => simp
      case hm => simp [b, ltS]
      refine ev2_some ?_
      repeat' (first
       | with_reducible refine stp ?_
       | with_reducible refine k_blk_o rfl ?_
       | with_reducible refine k_seq_n ?_
       | ((try (conv => arg 1; simp [s0, s3, s4, hw])); with_reducible refine evp ?_)
       | ((with_reducible refine apn ?na ?_); (case na => simp [appNames, ints, intss] <;> first | kernel_rfl | (refine ⟨?_, ?_⟩ <;> kernel_rfl)))
       | fail)
      refine k_lp_n (i + 1) (by omega) ⟨by omega, by simp [s0], by simp, by simp, ?_⟩
      rw [zeros_succ, show cl1 (zeros i ++ [0]) = cl1 (zeros i) ++ [[.int .i64 0]] by simp [cl1]]
      exact Cx.to x
    · have hge : i = n := by omega
      have hlt2 : ¬ (i : Int) < n := by omega
      subst hge
      repeat' (first
       | with_reducible refine stp ?_
       | with_reducible refine k_blk_o rfl ?_
       | with_reducible refine k_seq_n ?_
       | ((try (conv => arg 1; simp [s0, s3, s4, hlt2])); with_reducible refine evp ?_)
       | ((with_reducible refine apn ?na ?_); (case na => simp [appNames, ints, intss] <;> first | kernel_rfl | (refine ⟨?_, ?_⟩ <;> kernel_rfl)))
       | fail)
      have hzl : (zeros i).length = i := by simp [zeros]
      have z := Cx.close_ints (ver := i) (pre := []) (sp := []) (xs := zeros i) (k := (T + 1, 0, 0)) (bs := []) (os := []) (by simpa [ir] using x) ⟨fun e he => by (cases he), fun e he => by (cases he), fun i e j y he => by simp at he, fun i e j y he => by simp at he⟩
      rw [hzl] at z
      refine fin_own (os := []) (ns := [(T + 1, 0, 0)]) (bs := ?bs1) ?y1
      case y1 => exact Cx.to z
end Go.Proofs.Ytlmlkkkgcbpaoaa.AM

/-
  Blocks one by one: a row's owners, and back.
-/
set_option linter.unusedVariables false
set_option linter.unusedSimpArgs false
set_option maxRecDepth 4000
namespace Go.Proofs.Ytlmlkkkgcbpaoaa.AM
open Go.RowKit

/-- A block with its slice of steps, and the rows that it owns. -/
abbrev OB := AV × Block × List Nm
def OB.cells (p : OB) : List AV := [p.1, .int .i64 p.2.1.Jump, .int .i64 p.2.1.A, .int .i64 p.2.1.To, .int .i64 p.2.1.Else]
def OB.own (p : OB) : AV × (Bool → AV) × List Nm := (p.1, (fun b => instrs b p.2.1.Code), p.2.2)
theorem Cx.join_blocks {h : Hp} {bs : Bx} : ∀ {L : List OB} {os : Ox}, Cx h bs (L.map OB.own ++ os) →
    ∃ ns, Cx h bs ((.agg (L.map OB.cells).flatten, (fun b => .agg ((L.map fun p => p.2.1).map (Block.cells b)).flatten), ns) :: os)
  | [], os, x => ⟨[], x.agg_nil⟩
  | p :: L, os, x => by
    have x1 : Cx h bs (L.map OB.own ++ (p.own :: os)) := x.perm (List.perm_middle.symm)
    obtain ⟨ns, x2⟩ := Cx.join_blocks x1
    have x3 := (x2.perm (List.Perm.swap _ _ _)).block_join (c := p.2.1)
    have x4 := (x3.perm (List.Perm.swap _ _ _)).agg_app
    exact ⟨_, x4⟩
theorem Cx.split_blocks {h : Hp} {bs : Bx} : ∀ {ys : List Block} {es : List (List AV)} {os : Ox} {ns : List Nm}, es.length = ys.length → (∀ e ∈ es, e.length = 5) →
    Cx h bs ((.agg es.flatten, (fun b => .agg (ys.map (Block.cells b)).flatten), ns) :: os) →
    ∃ L : List OB, (L.map fun p => p.2.1) = ys ∧ L.map OB.cells = es ∧ (∀ p ∈ L, p.1.one = true ∧ p.1.stored = true ∧ p.1.cells = [p.1]) ∧ Cx h bs (L.map OB.own ++ os)
  | [], es, os, ns, hl, h5, x => by
    have : es = [] := List.eq_nil_of_length_eq_zero (by simpa using hl)
    subst this
    exact ⟨[], rfl, rfl, fun p hp => by (cases hp), x.drop⟩
  | y :: ys, [], os, ns, hl, h5, x => by simp at hl
  | y :: ys, e :: es, os, ns, hl, h5, x => by
    have he := h5 e (by simp)
    have x0 : Cx h bs ((.agg (e ++ es.flatten), (fun b => .agg (y.cells b ++ (ys.map (Block.cells b)).flatten)), ns) :: os) := by simpa using x
    obtain ⟨m1, m2, _, x1⟩ := Cx.agg_split (t1 := fun b => y.cells b) (t2 := fun b => (ys.map (Block.cells b)).flatten) (fun b => by rw [block_len, he]) x0
    obtain ⟨w, ew, x2⟩ := Cx.block_split x1.rot1
    have q := own_one' (own_of (x2.o0 true) rfl)
    obtain ⟨L, e1, e2, e3, x3⟩ := Cx.split_blocks (by simpa using hl) (fun e he => h5 e (by simp [he])) (x2.perm (List.Perm.swap _ _ _))
    refine ⟨(w, y, m1) :: L, by simp [e1], by simp [e2, ew, OB.cells], fun p hp => ?_, ?_⟩
    · rcases List.mem_cons.1 hp with rfl | hp
      · exact q
      · exact e3 p hp
    · exact x3.perm List.perm_middle
end Go.Proofs.Ytlmlkkkgcbpaoaa.AM

/-
  Blocks in another order: the reference's.
-/
set_option linter.unusedVariables false
set_option linter.unusedSimpArgs false
set_option maxRecDepth 4000
namespace Go.Proofs.Ytlmlkkkgcbpaoaa.AM
open Go.RowKit

private def MG77 : FuncId → Mode := fun f => if f = 45 ∨ f = 52 then .fresh else .tree

theorem blk_jumpR {g : Graph} (hg : graphOk g = true) {i : Nat} (hi : i < g.Blocks.length) : g.Blocks[i].Jump = 0 ∨ g.Blocks[i].Jump = 1 ∨ g.Blocks[i].Jump = 2 := by
  simp only [graphOk, Bool.and_eq_true, List.all_eq_true] at hg
  have hb := hg.2 _ (List.getElem_mem hi)
  unfold blockOk at hb
  simp only [Bool.and_eq_true] at hb
  have hb := hb.2
  split at hb
  · rename_i h; exact .inl h
  · split at hb
    · rename_i h; exact .inr (.inl h)
    · split at hb
      · rename_i h; exact .inr (.inr h)
      · cases hb
theorem aim_okR {g : Graph} (hg : graphOk g = true) {i : Nat} (hi : i < g.Blocks.length) {t : Int} (ht : t ∈ nextL g.Blocks[i]) : ∃ u : Nat, t = (u : Int) ∧ u < g.Blocks.length := by
  have := next_ok hg hi t ht
  exact ⟨t.toNat, by omega, by omega⟩
def pickI (L : List OB) (k : Int) : OB := L.getD k.toNat (.nilsl, ⟨[], 0, 0, 0, 0⟩, [])
def rePick (L : List OB) (l : List Int) (k : Int) : OB := ((pickI L k).1, reB l (pickI L k).2.1, (pickI L k).2.2)
theorem rePick_own (L : List OB) (l : List Int) (k : Int) : (rePick L l k).own = (pickI L k).own := rfl
theorem pickI_range (L : List OB) : (rangeI L.length).map (pickI L) = L := by
  refine List.ext_getElem (by simp [rangeI]) fun i h1 h2 => ?_
  simp [rangeI, pickI, h2]
theorem pickI_blk {L : List OB} {g : Graph} (e : (L.map fun p => p.2.1) = g.Blocks) (k : Int) : (pickI L k).2.1 = blkAt g k := by
  simp only [pickI, blkAt, ← e, List.getD_eq_getElem?_getD, List.getElem?_map]
  cases L[k.toNat]? <;> rfl
theorem Cx.reorder {h : Hp} {bs : Bx} {os : Ox} {L : List OB} {g : Graph} {l : List Int} (o : Ord g l) (e : (L.map fun p => p.2.1) = g.Blocks) (x : Cx h bs (L.map OB.own ++ os)) :
    ∃ ns, Cx h bs ((.agg (l.map fun k => (rePick L l k).cells).flatten, (fun b => .agg ((l.map fun k => reB l (blkAt g k)).map (Block.cells b)).flatten), ns) :: os) := by
  have hl : L.length = g.Blocks.length := by rw [← e, List.length_map]
  have p : (L.map OB.own).Perm ((l.map (rePick L l)).map OB.own) := by
    rw [List.map_map]
    have h1 := (o.perm.map fun k => (pickI L k).own).symm
    rw [← hl] at h1
    have h2 : (rangeI L.length).map (fun k => (pickI L k).own) = L.map OB.own := by
      conv => rhs; rw [← pickI_range L]
      rw [List.map_map]; rfl
    rw [h2] at h1
    exact h1
  obtain ⟨ns, y⟩ := Cx.join_blocks (x.perm (p.append_right os))
  refine ⟨ns, ?_⟩
  have e1 : (l.map (rePick L l)).map OB.cells = l.map fun k => (rePick L l k).cells := by rw [List.map_map]; rfl
  have e2 : ((l.map (rePick L l)).map fun p => p.2.1) = l.map fun k => reB l (blkAt g k) := by
    rw [List.map_map]
    refine List.map_congr_left fun k _ => ?_
    show reB l (pickI L k).2.1 = _
    rw [pickI_blk e]
  rw [e1, e2] at y
  exact y
theorem pick_at {L : List OB} {g : Graph} {es : List (List AV)} (e : (L.map fun p => p.2.1) = g.Blocks) (ec : L.map OB.cells = es) (q : ∀ p ∈ L, p.1.one = true ∧ p.1.stored = true ∧ p.1.cells = [p.1]) {k : Nat} (hk : k < g.Blocks.length) :
    es[k]? = some [(pickI L k).1, .int .i64 g.Blocks[k].Jump, .int .i64 g.Blocks[k].A, .int .i64 g.Blocks[k].To, .int .i64 g.Blocks[k].Else] ∧ (pickI L k).1.one = true ∧ (pickI L k).1.stored = true ∧ (pickI L k).1.cells = [(pickI L k).1] := by
  have hl : L.length = g.Blocks.length := by rw [← e, List.length_map]
  have h1 : pickI L (k : Int) = L[k]'(by omega) := by simp [pickI, hl, hk]
  have h2 := pickI_blk e (k : Int)
  have h3 : blkAt g (k : Int) = g.Blocks[k] := by simp [blkAt, hk]
  rw [h3, h1] at h2
  rw [h1, ← ec, List.getElem?_map, List.getElem?_eq_getElem (by omega)]
  refine ⟨?_, q _ (List.getElem_mem _)⟩
  simp only [Option.map_some, OB.cells, h2]
/-- The places as far as the loop has come. -/
def plaI (n : Nat) (l : List Int) (i : Nat) : List Int := (List.range n).map fun t : Nat => if (t : Int) ∈ l.take i then placeI l t else 0
theorem plaI_len (n : Nat) (l : List Int) (i : Nat) : (plaI n l i).length = n := by simp [plaI]
theorem plaI_zero (n : Nat) (l : List Int) : plaI n l 0 = zeros n := by
  refine List.ext_getElem (by simp [plaI, zeros]) fun i h1 h2 => by simp [plaI, zeros]
theorem plaI_set {n : Nat} {l : List Int} (hn : l.Nodup) {i k : Nat} (hi : i < l.length) (hk : l[i] = (k : Int)) (hkn : k < n) : (plaI n l i).set k i = plaI n l (i + 1) := by
  refine List.ext_getElem (by simp [plaI]) fun j h1 h2 => ?_
  simp only [plaI_len, List.length_set] at h1
  rw [List.getElem_set]
  simp only [plaI, List.getElem_map, List.getElem_range, take_snoc hi, List.mem_append, List.mem_singleton, hk]
  by_cases e : k = j
  · subst e
    have := placeI_at hn hi
    rw [hk] at this
    simp [this]
  · rw [if_neg e]
    have : ¬ (j : Int) = (k : Int) := by omega
    simp [this]
theorem plaI_end {g : Graph} {l : List Int} (o : Ord g l) {t : Nat} (ht : t < g.Blocks.length) : (plaI g.Blocks.length l l.length)[t]'(by rw [plaI_len]; exact ht) = placeI l t := by
  have : (t : Int) ∈ l := o.perm.symm.subset (by simp only [rangeI, List.mem_map, List.mem_range]; exact ⟨t, ht, rfl⟩)
  simp [plaI, this]

set_option maxHeartbeats 4000000 in
theorem specReorder (g : Graph) (d : g.Small) (l : List Int) (hll : l.length ≤ 2 ^ 20) : FreshW Try.prog 34 [.agg (g.cells true), ints true l] (fun b => .agg ((reorderR g l).cells b)) := by
  intro T
  have hln := d.len
  have hnil : True := trivial
  have G := specOrderOk g d l hll
  refine enter mixed MG77 Try.func34 rfl (by kernel_rfl) rfl ?_
  repeat' (first
   | with_reducible refine stp ?_
   | with_reducible refine k_blk_o rfl ?_
   | ((try (conv => arg 1; simp [Graph.cells])); with_reducible refine evp ?_)
   | ((with_reducible refine apn ?na ?_); (case na => simp [appNames, ints, intss] <;> first | kernel_rfl | (refine ⟨?_, ?_⟩ <;> kernel_rfl)))
   | fail)
  refine cx_k ((Cx.mt.next.box_one (T := T) (i := 0) Cx.mt.off (by simp)).box_add (n := (T, 1, 0)) (by simp [nms]) (by simp)) ?_
  intro h1 x1
  have b1 := x1.bxs
  simp only [Bxs] at b1
  repeat' (first
   | with_reducible refine stp ?_
   | with_reducible refine k_blk_o rfl ?_
   | with_reducible refine k_seq_n ?_
   | ((try (conv => arg 1; simp [b1, ltS, nm_ne, tk_ne])); with_reducible refine evp ?_)
   | ((with_reducible refine apn ?na ?_); (case na => simp [appNames, ints, intss] <;> first | kernel_rfl | (refine ⟨?_, ?_⟩ <;> kernel_rfl)))
   | fail)
  refine st_freshw rfl (l04Copy g d) (.cons (dr_agg (drs_graphL g fun h => h)) .nil) ?_
  intro v h2 n o e f p t
  have x2 := x1.next.fresh o e f p t
  have z2 : h1.tick < h2.tick := by simp only [hp_next_tick] at t; omega
  obtain ⟨w1, w2, _, _, rfl, _, q1, q2⟩ := ownV_graph (o true)
  have q1 := own_one q1
  have q2 := own_one' q2
  have b2 := x2.bxs
  simp only [Bxs] at b2
  repeat' (first
   | with_reducible refine stp ?_
   | with_reducible refine k_blk_o rfl ?_
   | ((try (conv => arg 1; simp [b2, z2, q1.1, q1.2.1, q1.2.2, q2.1, q2.2.1, q2.2.2, ltS, nm_ne, tk_ne])); with_reducible refine evp ?_)
   | ((with_reducible refine apn ?na ?_); (case na => simp [appNames, ints, intss] <;> first | kernel_rfl | (refine ⟨?_, ?_⟩ <;> kernel_rfl)))
   | fail)
  refine cx_k (x2.box_new (x1.off.fresh f (by simp [hp_next_tick])) z2) ?_
  intro h3 x3
  have b3 := x3.bxs
  simp only [Bxs] at b3
  cases hk : orderB g l with
  | false =>
    rw [hk] at G
    have hr : reorderR g l = g := by simp [reorderR, hk]
    rw [hr]
    repeat' (first
     | with_reducible refine stp ?_
     | with_reducible refine k_blk_o rfl ?_
     | with_reducible refine k_seq_n ?_
     | ((try (conv => arg 1; simp [b3, q1.1, q1.2.1, q1.2.2, q2.1, q2.2.1, q2.2.2, ltS, nm_ne, tk_ne])); with_reducible refine evp ?_)
     | ((with_reducible refine apn ?na ?_); (case na => simp [appNames, ints, intss] <;> first | kernel_rfl | (refine ⟨?_, ?_⟩ <;> kernel_rfl)))
     | ((with_reducible refine tcl ?_); first | ((apply tg (G)); (case e => rfl); (case d => (refine dq ?_); (repeat' (first | ((refine Da.mk ?_); first | exact dr_blocks (by simp) _ | assumption) | constructor)))))
     | fail)
    refine fin_own (os := []) (ns := n) (bs := ?bs1) ?y1
    case y1 => exact Cx.to x3
  | true =>
    rw [hk] at G
    have O := orderB_ord hk
    have hgk := O.ok
    have hle := O.len
    have hr : reorderR g l = { g with Blocks := l.map fun k => reB l (blkAt g k) } := by simp [reorderR, hk]
    rw [hr]
    have hnb := (ok_blocks hgk).1
    have hbne : (g.Blocks.map (Block.cells true)) ≠ [] := fun e => by have := List.map_eq_nil_iff.1 e; rw [this] at hnb; simp at hnb
    repeat' (first
     | with_reducible refine stp ?_
     | with_reducible refine k_blk_o rfl ?_
     | with_reducible refine k_seq_n ?_
     | ((try (conv => arg 1; simp [b3, q1.1, q1.2.1, q1.2.2, q2.1, q2.2.1, q2.2.2, ltS, nm_ne, tk_ne])); with_reducible refine evp ?_)
     | ((with_reducible refine apn ?na ?_); (case na => simp [appNames, ints, intss] <;> first | kernel_rfl | (refine ⟨?_, ?_⟩ <;> kernel_rfl)))
     | ((with_reducible refine tcl ?_); first | ((apply tg (G)); (case e => rfl); (case d => (refine dq ?_); (repeat' (first | ((refine Da.mk ?_); first | exact dr_blocks (by simp) _ | assumption) | constructor)))))
     | fail)
    refine st_freshw rfl (l03Zeros l.length hll) (.cons (.int _ _) .nil) ?_
    intro v3 h4 n4 o4 e4 f4 p4 t4
    have x4 := (Cx.to x3).fresh o4 e4 f4 p4 t4
    obtain ⟨kp, vp, pre, spp, rfl, rfl, irk, x5⟩ := x4.open_ints (by simp [zeros]; omega)
    obtain ⟨u1, u2, n1, n2, eu, rfl, x6⟩ := x5.graph_split
    simp only [List.cons.injEq, true_and, and_true] at eu
    obtain ⟨rfl, rfl⟩ := eu
    obtain ⟨kk, ver, es, sp, n3, rfl, rfl, hel, he5, c1, c2, y⟩ := x6.rot1.open_row (s := 5) (ts := fun b => g.Blocks.map (Block.cells b)) (by omega) (fun b t ht => by simp at ht; obtain ⟨a, _, rfl⟩ := ht; rfl) hbne
    have hel2 : es.length = g.Blocks.length := by simpa using hel
    rw [hel2] at q2 b3 y
    obtain ⟨L, eL, ec, qL, y2⟩ := Cx.split_blocks (by omega) he5 y
    rw [hle] at y2
    repeat' (first
     | with_reducible refine stp ?_
     | with_reducible refine k_blk_o rfl ?_
     | with_reducible refine k_seq_n ?_
     | ((try (conv => arg 1; simp [hnil])); with_reducible refine evp ?_)
     | ((with_reducible refine apn ?na ?_); (case na => simp [appNames, ints, intss] <;> first | kernel_rfl | (refine ⟨?_, ?_⟩ <;> kernel_rfl)))
     | fail)
    refine st_loop (fun (i : Nat) σ h => i ≤ l.length ∧ σ 1 = ints true l ∧ σ 4 = .ptr (T, 1, 0) 0 0 0 ∧ σ 5 = .ptr (h1.tick, 2, 0) 0 0 0 ∧ σ 6 = .sl kp vp pre.length l.length ∧ σ 7 = .int .i64 i ∧ ∃ R, R = pre ++ (cl1 (plaI g.Blocks.length l i) ++ spp) ∧
      Cx h [(kk, ⟨ver, 5, es ++ sp⟩), (kp, ⟨vp, 1, R⟩), ((h1.tick, 2, 0), ⟨0, 5, [[w1, .int .i64 g.Params, .int .i64 g.Vars, .int .i64 g.Slots, .sl kk ver 0 g.Blocks.length]]⟩), ((T, 1, 0), ⟨0, 5, [[.nilsl, .int .i64 0, .int .i64 0, .int .i64 0, .nilsl]]⟩), ((T, 0, 0), graphRow g)] (L.map OB.own ++ [(w1, (fun b => ints b g.Sizes), n1)])) (fun i => l.length - i) 0 ?init1 ?step1
    case init1 =>
      refine ⟨Nat.zero_le _, by simp, by simp, by simp, by simp [zeros], by simp, _, rfl, ?_⟩
      rw [plaI_zero]
      exact Cx.to y2
    case step1 =>
      rintro i σ h ⟨hi, s1, s4, s5, s6, s7, R, hR, x⟩
      have b := x.bxs
      simp only [Bxs, graphRow] at b
      by_cases hlt : i < l.length
      · have hlt2 : (i : Int) < l.length := by omega
        have hw : IntKind.i64.wrap (i + 1) = i + 1 := wrap_id (by omega) (by omega)
        have hx : l[i]? = some l[i] := by simp
        obtain ⟨k, hk2, hkN⟩ := O.at hlt
        have hkN2 : (k : Int) < l.length := by omega
        have hkN3 : k < l.length := by omega
        have hst := plaI_set (n := g.Blocks.length) O.nodup hlt hk2 hkN
        generalize hli : l[i] = li at *
        subst hk2
        have hop : ∀ hh, l[i]'hh = (k : Int) := fun _ => hli
        have hRs : R.set (pre.length + k) [.int .i64 i] = pre ++ (cl1 (plaI g.Blocks.length l (i + 1)) ++ spp) := by
          rw [hR, ir_set (by rw [plaI_len]; exact hkN), hst]
        have hRl : pre.length + k < R.length := by rw [hR]; simp only [List.length_append, cl1, List.length_map, plaI_len]; omega
        have hRe : ∀ hh, R[pre.length + k]'hh = [.int .i64 ((plaI g.Blocks.length l i)[k]'(by rw [plaI_len]; exact hkN))] := fun hh => by
          have := ir_get (pre := pre) (sp := spp) (xs := plaI g.Blocks.length l i) (i := k) (by rw [plaI_len]; exact hkN)
          rw [← hR, List.getElem?_eq_getElem hh] at this
          exact Option.some.inj this
        repeat' (first
         | with_reducible refine stp ?_
         | with_reducible refine k_blk_o rfl ?_
         | with_reducible refine k_seq_n ?_
         | ((try (conv => arg 1; simp [s1, s4, s5, s6, s7, ints, b, hlt, hlt2, hx, hop, hkN2, hkN3, hRl, hRe, hw, ltS, nm_ne, tk_ne])); with_reducible refine evp ?_)
         | ((with_reducible refine apn ?na ?_); (case na => simp [appNames, ints, intss] <;> first | kernel_rfl | (refine ⟨?_, ?_⟩ <;> kernel_rfl)))
         | fail)
        refine k_lp_n (i + 1) (by omega) ⟨by omega, by simp [s1, ints], by simp [s4], by simp [s5], by simp [s6], by simp, _, hRs, Cx.to x⟩
      · have hge : i = l.length := by omega
        have hlt2 : ¬ (i : Int) < l.length := by omega
        subst hge
        repeat' (first
         | with_reducible refine stp ?_
         | with_reducible refine k_blk_o rfl ?_
         | with_reducible refine k_seq_n ?_
         | ((try (conv => arg 1; simp [s1, s4, s5, s6, s7, ints, hlt2])); with_reducible refine evp ?_)
         | ((with_reducible refine apn ?na ?_); (case na => simp [appNames, ints, intss] <;> first | kernel_rfl | (refine ⟨?_, ?_⟩ <;> kernel_rfl)))
         | fail)
        refine st_loop (fun (i : Nat) σ h => i ≤ l.length ∧ σ 1 = ints true l ∧ σ 4 = .ptr (T, 1, 0) 0 0 0 ∧ σ 5 = .ptr (h1.tick, 2, 0) 0 0 0 ∧ σ 6 = .sl kp vp pre.length l.length ∧ σ 9 = .int .i64 i ∧ ∃ kn es', es' = ((l.take i).map fun k => (rePick L l k).cells) ∧ σ 8 = .sl kn i 0 i ∧
          Cx h [(kn, ⟨i, 5, es'⟩), (kk, ⟨ver, 5, es ++ sp⟩), (kp, ⟨vp, 1, R⟩), ((h1.tick, 2, 0), ⟨0, 5, [[w1, .int .i64 g.Params, .int .i64 g.Vars, .int .i64 g.Slots, .sl kk ver 0 g.Blocks.length]]⟩), ((T, 1, 0), ⟨0, 5, [[.nilsl, .int .i64 0, .int .i64 0, .int .i64 0, .nilsl]]⟩), ((T, 0, 0), graphRow g)] (L.map OB.own ++ [(w1, (fun b => ints b g.Sizes), n1)])) (fun i => l.length - i) 0 ?init2 ?step2
        case init2 =>
          have z1 := x.next.next.box_one (T := h.tick + 1) (i := 0) (r := ⟨0, 5, []⟩) x.next.off (by simp)
          refine ⟨Nat.zero_le _, by simp [s1, ints], by simp [s4], by simp [s5], by simp [s6], by simp, _, [], by simp, by simp, Cx.to z1⟩
        case step2 =>
          clear s1 s4 s5 s6 s7 x b hi σ h hlt hlt2
          rintro i σ h ⟨hi, s1, s4, s5, s6, s9, kn, es', he', s8, x⟩
          have b := x.bxs
          simp only [Bxs, graphRow] at b
          by_cases hlt : i < l.length
          · have hlt2 : (i : Int) < l.length := by omega
            have hw : IntKind.i64.wrap (i + 1) = i + 1 := wrap_id (by omega) (by omega)
            have hx : l[i]? = some l[i] := by simp
            obtain ⟨k, hk2, hkN⟩ := O.at hlt
            have hkN2 : (k : Int) < g.Blocks.length := by omega
            have hts := take_snoc hlt
            generalize hli : l[i] = li at *
            subst hk2
            have hop : ∀ hh, l[i]'hh = (k : Int) := fun _ => hli
            have hel' : es'.length = i := by rw [he']; simp; omega
            obtain ⟨pa, qw⟩ := pick_at eL ec qL hkN
            have hpb := pickI_blk eL (k : Int)
            rw [show blkAt g (k : Int) = g.Blocks[k] by simp [blkAt, hkN]] at hpb
            have hpl : ∀ u : Nat, u < g.Blocks.length → R[pre.length + u]? = some [.int .i64 (placeI l u)] := fun u hu => by
              rw [hR, ir_get (by rw [plaI_len]; exact hu), plaI_end O hu]
            have fin : ∀ J A To El : Int, reB l g.Blocks[k] = ⟨g.Blocks[k].Code, J, A, To, El⟩ → es' ++ [[(pickI L k).1, .int .i64 J, .int .i64 A, .int .i64 To, .int .i64 El]] = (l.take (i + 1)).map fun k => (rePick L l k).cells := fun J A To El e => by
              rw [hts, List.map_append, ← he']
              simp only [List.map_cons, List.map_nil, OB.cells, rePick, hpb, e]
            have hat : (es ++ sp)[k]? = some [(pickI L k).1, .int .i64 g.Blocks[k].Jump, .int .i64 g.Blocks[k].A, .int .i64 g.Blocks[k].To, .int .i64 g.Blocks[k].Else] := by
              rw [List.getElem?_append_left (by omega), pa]
            generalize hE : es ++ sp = E at *
            generalize hwp : (pickI L k).1 = w at *
            rcases blk_jumpR hgk hkN with hJ | hJ | hJ
            · obtain ⟨u, hT, hu⟩ := aim_okR hgk hkN (t := g.Blocks[k].To) (by simp [nextL, hJ])
              have hu2 : (u : Int) < l.length := by omega
              have hpu := hpl u hu
              rw [hJ, hT] at hat
              repeat' (first
               | with_reducible refine stp ?_
               | with_reducible refine k_blk_o rfl ?_
               | with_reducible refine k_seq_n ?_
               | ((try (conv => arg 1; simp [s1, s4, s5, s6, s8, s9, ints, b, hlt, hlt2, ltS, nm_ne, tk_ne])); with_reducible refine evp ?_)
               | ((with_reducible refine apn ?na ?_); (case na => simp [appNames, ints, intss] <;> first | kernel_rfl | (refine ⟨?_, ?_⟩ <;> kernel_rfl)))
               | fail)
              repeat (with_reducible first | refine stp ?_ | refine k_seq_n ?_)
              refine st_lz (by kernel_rfl) ?_
              have hF := And.intro s1 (And.intro s4 (And.intro s5 (And.intro s6 (And.intro s8 (And.intro s9 (And.intro b (And.intro hlt (And.intro hlt2 (And.intro hx (And.intro hop (And.intro hkN2 (And.intro hat (And.intro qw.1 (And.intro qw.2.1 qw.2.2))))))))))))))
              repeat' (first
               | with_reducible refine stp ?_
               | with_reducible refine k_blk_o rfl ?_
               | ((try (conv => arg 1; simp [ints, ltS, nm_ne, tk_ne, hF])); with_reducible refine evp ?_)
               | ((with_reducible refine apn ?na ?_); (case na => simp [appNames, ints, intss] <;> first | kernel_rfl | (refine ⟨?_, ?_⟩ <;> kernel_rfl)))
                | ((with_reducible refine la_id ?_); refine la_end rfl ?_; (repeat (first | refine pl_nil ?_ | refine pl_cons ?_)))
                | ((with_reducible refine la_id ?_); refine la_pick ?_; (conv => arg 1; whnf); (repeat ((fail_if_success (first | ((refine la_q0 rfl ?_); (try (conv => arg 1; simp [ints, ltS, nm_ne, tk_ne, hF])); with_reducible refine evp ?_) | ((refine la_n rfl rfl ?_); (try (conv => arg 1; simp [ints, ltS, nm_ne, tk_ne, hF])); with_reducible refine evp ?_) | ((refine la_q2 rfl (by decide +kernel) ?_); (repeat (first | refine bk_nil ?_ | refine bk_t (by decide +kernel) ?_ | refine bk_f (by decide +kernel) ?_)); (try (conv => arg 1; simp [ints, ltS, nm_ne, tk_ne, hF])); with_reducible refine evp ?_) | ((refine la_q1 rfl (by decide +kernel) ?_); (try (conv => arg 1; simp [ints, ltS, nm_ne, tk_ne, hF])); with_reducible refine evp ?_) | ((refine la_g0 rfl ?_); (try (conv => arg 1; simp [ints, ltS, nm_ne, tk_ne, hF])); with_reducible refine evp ?_; (with_reducible refine evp ?_); try ((try (conv => arg 1; simp [ints, ltS, nm_ne, tk_ne, hF])); with_reducible refine evp ?_)))); (refine la_there ?_); (conv => arg 1; whnf))); first | ((refine la_q0 rfl ?_); (try (conv => arg 1; simp [ints, ltS, nm_ne, tk_ne, hF])); with_reducible refine evp ?_) | ((refine la_n rfl rfl ?_); (try (conv => arg 1; simp [ints, ltS, nm_ne, tk_ne, hF])); with_reducible refine evp ?_) | ((refine la_q2 rfl (by decide +kernel) ?_); (repeat (first | refine bk_nil ?_ | refine bk_t (by decide +kernel) ?_ | refine bk_f (by decide +kernel) ?_)); (try (conv => arg 1; simp [ints, ltS, nm_ne, tk_ne, hF])); with_reducible refine evp ?_) | ((refine la_q1 rfl (by decide +kernel) ?_); (try (conv => arg 1; simp [ints, ltS, nm_ne, tk_ne, hF])); with_reducible refine evp ?_) | ((refine la_g0 rfl ?_); (try (conv => arg 1; simp [ints, ltS, nm_ne, tk_ne, hF])); with_reducible refine evp ?_; (with_reducible refine evp ?_); try ((try (conv => arg 1; simp [ints, ltS, nm_ne, tk_ne, hF])); with_reducible refine evp ?_)))
                | ((with_reducible refine la_id ?_); refine la_all rfl ?_)
                | ((with_reducible refine all_id ?_); (conv => arg 1; whnf); first | exact all_nil | refine all_cons ?_ ?_)
                | (refine la_op rfl (by first | exact frm_s (by decide +kernel) | exact frm_a (by repeat' (first | exact fa_nil | refine fa_cons (by decide +kernel) ?_))) (by intro hq; first | exact trivial | (cases hq; done) | simp [appT, ints, ltS, nm_ne, tk_ne, hF]) ?_; (repeat (first | refine bk_nil ?_ | refine bk_t (by decide +kernel) ?_ | refine bk_f (by decide +kernel) ?_)))
               | fail)
              repeat' (first
               | with_reducible refine stp ?_
               | with_reducible refine k_blk_o rfl ?_
               | with_reducible refine k_seq_n ?_
               | ((try (conv => arg 1; simp [s1, s4, s5, s6, s8, s9, ints, b, hu2, hpu, qw.1, qw.2.1, qw.2.2, ltS, nm_ne, tk_ne])); with_reducible refine evp ?_)
               | ((with_reducible refine apn ?na ?_); (case na => simp [appNames, ints, intss] <;> first | kernel_rfl | (refine ⟨?_, ?_⟩ <;> kernel_rfl)))
               | fail)
              conv => arg 1; simp
              rw [appendA_snoc (s := 5) (l := es') (e := [w, .int .i64 0, .int .i64 g.Blocks[k].A, .int .i64 (placeI l u), .int .i64 g.Blocks[k].Else]) (by kernel_rfl) ?hr hel' ?hk rfl (by omega) ?hm]
              case hr =>
                simp [b, nm_ne, ltS]
                intro e
                have hkn := b.2.1
                rw [e] at hkn
                simp only at hkn
                omega
              case hk => simp [qw.1, qw.2.1, qw.2.2]
              case hm => simp [b, ltS]
              refine ev2_some ?_
              repeat' (first
               | with_reducible refine stp ?_
               | with_reducible refine k_blk_o rfl ?_
               | with_reducible refine k_seq_n ?_
               | ((try (conv => arg 1; simp [s1, s4, s5, s6, s9, hw])); with_reducible refine evp ?_)
               | ((with_reducible refine apn ?na ?_); (case na => simp [appNames, ints, intss] <;> first | kernel_rfl | (refine ⟨?_, ?_⟩ <;> kernel_rfl)))
               | fail)
              refine k_lp_n (i + 1) (by omega) ⟨by omega, by simp [s1], by simp [s4], by simp [s5], by simp [s6], by simp, kn, _, fin 0 g.Blocks[k].A ((placeI l u)) (g.Blocks[k].Else) (by simp [reB, hJ, hT]), by simp, ?_⟩
              exact Cx.to x
            · obtain ⟨u, hT, hu⟩ := aim_okR hgk hkN (t := g.Blocks[k].To) (by simp [nextL, hJ])
              obtain ⟨u', hT', hu'⟩ := aim_okR hgk hkN (t := g.Blocks[k].Else) (by simp [nextL, hJ])
              have hu2 : (u : Int) < l.length := by omega
              have hu2' : (u' : Int) < l.length := by omega
              have hpu := hpl u hu
              have hpu' := hpl u' hu'
              rw [hJ, hT, hT'] at hat
              repeat' (first
               | with_reducible refine stp ?_
               | with_reducible refine k_blk_o rfl ?_
               | with_reducible refine k_seq_n ?_
               | ((try (conv => arg 1; simp [s1, s4, s5, s6, s8, s9, ints, b, hlt, hlt2, ltS, nm_ne, tk_ne])); with_reducible refine evp ?_)
               | ((with_reducible refine apn ?na ?_); (case na => simp [appNames, ints, intss] <;> first | kernel_rfl | (refine ⟨?_, ?_⟩ <;> kernel_rfl)))
               | fail)
              repeat (with_reducible first | refine stp ?_ | refine k_seq_n ?_)
              refine st_lz (by kernel_rfl) ?_
              have hF := And.intro s1 (And.intro s4 (And.intro s5 (And.intro s6 (And.intro s8 (And.intro s9 (And.intro b (And.intro hlt (And.intro hlt2 (And.intro hx (And.intro hop (And.intro hkN2 (And.intro hat (And.intro qw.1 (And.intro qw.2.1 qw.2.2))))))))))))))
              repeat' (first
               | with_reducible refine stp ?_
               | with_reducible refine k_blk_o rfl ?_
               | ((try (conv => arg 1; simp [ints, ltS, nm_ne, tk_ne, hF])); with_reducible refine evp ?_)
               | ((with_reducible refine apn ?na ?_); (case na => simp [appNames, ints, intss] <;> first | kernel_rfl | (refine ⟨?_, ?_⟩ <;> kernel_rfl)))
                | ((with_reducible refine la_id ?_); refine la_end rfl ?_; (repeat (first | refine pl_nil ?_ | refine pl_cons ?_)))
                | ((with_reducible refine la_id ?_); refine la_pick ?_; (conv => arg 1; whnf); (repeat ((fail_if_success (first | ((refine la_q0 rfl ?_); (try (conv => arg 1; simp [ints, ltS, nm_ne, tk_ne, hF])); with_reducible refine evp ?_) | ((refine la_n rfl rfl ?_); (try (conv => arg 1; simp [ints, ltS, nm_ne, tk_ne, hF])); with_reducible refine evp ?_) | ((refine la_q2 rfl (by decide +kernel) ?_); (repeat (first | refine bk_nil ?_ | refine bk_t (by decide +kernel) ?_ | refine bk_f (by decide +kernel) ?_)); (try (conv => arg 1; simp [ints, ltS, nm_ne, tk_ne, hF])); with_reducible refine evp ?_) | ((refine la_q1 rfl (by decide +kernel) ?_); (try (conv => arg 1; simp [ints, ltS, nm_ne, tk_ne, hF])); with_reducible refine evp ?_) | ((refine la_g0 rfl ?_); (try (conv => arg 1; simp [ints, ltS, nm_ne, tk_ne, hF])); with_reducible refine evp ?_; (with_reducible refine evp ?_); try ((try (conv => arg 1; simp [ints, ltS, nm_ne, tk_ne, hF])); with_reducible refine evp ?_)))); (refine la_there ?_); (conv => arg 1; whnf))); first | ((refine la_q0 rfl ?_); (try (conv => arg 1; simp [ints, ltS, nm_ne, tk_ne, hF])); with_reducible refine evp ?_) | ((refine la_n rfl rfl ?_); (try (conv => arg 1; simp [ints, ltS, nm_ne, tk_ne, hF])); with_reducible refine evp ?_) | ((refine la_q2 rfl (by decide +kernel) ?_); (repeat (first | refine bk_nil ?_ | refine bk_t (by decide +kernel) ?_ | refine bk_f (by decide +kernel) ?_)); (try (conv => arg 1; simp [ints, ltS, nm_ne, tk_ne, hF])); with_reducible refine evp ?_) | ((refine la_q1 rfl (by decide +kernel) ?_); (try (conv => arg 1; simp [ints, ltS, nm_ne, tk_ne, hF])); with_reducible refine evp ?_) | ((refine la_g0 rfl ?_); (try (conv => arg 1; simp [ints, ltS, nm_ne, tk_ne, hF])); with_reducible refine evp ?_; (with_reducible refine evp ?_); try ((try (conv => arg 1; simp [ints, ltS, nm_ne, tk_ne, hF])); with_reducible refine evp ?_)))
                | ((with_reducible refine la_id ?_); refine la_all rfl ?_)
                | ((with_reducible refine all_id ?_); (conv => arg 1; whnf); first | exact all_nil | refine all_cons ?_ ?_)
                | (refine la_op rfl (by first | exact frm_s (by decide +kernel) | exact frm_a (by repeat' (first | exact fa_nil | refine fa_cons (by decide +kernel) ?_))) (by intro hq; first | exact trivial | (cases hq; done) | simp [appT, ints, ltS, nm_ne, tk_ne, hF]) ?_; (repeat (first | refine bk_nil ?_ | refine bk_t (by decide +kernel) ?_ | refine bk_f (by decide +kernel) ?_)))
               | fail)
              repeat' (first
               | with_reducible refine stp ?_
               | with_reducible refine k_blk_o rfl ?_
               | with_reducible refine k_seq_n ?_
               | ((try (conv => arg 1; simp [s1, s4, s5, s6, s8, s9, ints, b, hu2, hpu, hu2', hpu', qw.1, qw.2.1, qw.2.2, ltS, nm_ne, tk_ne])); with_reducible refine evp ?_)
               | ((with_reducible refine apn ?na ?_); (case na => simp [appNames, ints, intss] <;> first | kernel_rfl | (refine ⟨?_, ?_⟩ <;> kernel_rfl)))
               | fail)
              conv => arg 1; simp
              rw [appendA_snoc (s := 5) (l := es') (e := [w, .int .i64 1, .int .i64 g.Blocks[k].A, .int .i64 (placeI l u), .int .i64 (placeI l u')]) (by kernel_rfl) ?hr hel' ?hk rfl (by omega) ?hm]
              case hr =>
                simp [b, nm_ne, ltS]
                intro e
                have hkn := b.2.1
                rw [e] at hkn
                simp only at hkn
                omega
              case hk => simp [qw.1, qw.2.1, qw.2.2]
              case hm => simp [b, ltS]
              refine ev2_some ?_
              repeat' (first
               | with_reducible refine stp ?_
               | with_reducible refine k_blk_o rfl ?_
               | with_reducible refine k_seq_n ?_
               | ((try (conv => arg 1; simp [s1, s4, s5, s6, s9, hw])); with_reducible refine evp ?_)
               | ((with_reducible refine apn ?na ?_); (case na => simp [appNames, ints, intss] <;> first | kernel_rfl | (refine ⟨?_, ?_⟩ <;> kernel_rfl)))
               | fail)
              refine k_lp_n (i + 1) (by omega) ⟨by omega, by simp [s1], by simp [s4], by simp [s5], by simp [s6], by simp, kn, _, fin 1 g.Blocks[k].A ((placeI l u)) ((placeI l u')) (by simp [reB, hJ, hT, hT']), by simp, ?_⟩
              exact Cx.to x
            · rw [hJ] at hat
              repeat' (first
               | with_reducible refine stp ?_
               | with_reducible refine k_blk_o rfl ?_
               | with_reducible refine k_seq_n ?_
               | ((try (conv => arg 1; simp [s1, s4, s5, s6, s8, s9, ints, b, hlt, hlt2, ltS, nm_ne, tk_ne])); with_reducible refine evp ?_)
               | ((with_reducible refine apn ?na ?_); (case na => simp [appNames, ints, intss] <;> first | kernel_rfl | (refine ⟨?_, ?_⟩ <;> kernel_rfl)))
               | fail)
              repeat (with_reducible first | refine stp ?_ | refine k_seq_n ?_)
              refine st_lz (by kernel_rfl) ?_
              have hF := And.intro s1 (And.intro s4 (And.intro s5 (And.intro s6 (And.intro s8 (And.intro s9 (And.intro b (And.intro hlt (And.intro hlt2 (And.intro hx (And.intro hop (And.intro hkN2 (And.intro hat (And.intro qw.1 (And.intro qw.2.1 qw.2.2))))))))))))))
              repeat' (first
               | with_reducible refine stp ?_
               | with_reducible refine k_blk_o rfl ?_
               | ((try (conv => arg 1; simp [ints, ltS, nm_ne, tk_ne, hF])); with_reducible refine evp ?_)
               | ((with_reducible refine apn ?na ?_); (case na => simp [appNames, ints, intss] <;> first | kernel_rfl | (refine ⟨?_, ?_⟩ <;> kernel_rfl)))
                | ((with_reducible refine la_id ?_); refine la_end rfl ?_; (repeat (first | refine pl_nil ?_ | refine pl_cons ?_)))
                | ((with_reducible refine la_id ?_); refine la_pick ?_; (conv => arg 1; whnf); (repeat ((fail_if_success (first | ((refine la_q0 rfl ?_); (try (conv => arg 1; simp [ints, ltS, nm_ne, tk_ne, hF])); with_reducible refine evp ?_) | ((refine la_n rfl rfl ?_); (try (conv => arg 1; simp [ints, ltS, nm_ne, tk_ne, hF])); with_reducible refine evp ?_) | ((refine la_q2 rfl (by decide +kernel) ?_); (repeat (first | refine bk_nil ?_ | refine bk_t (by decide +kernel) ?_ | refine bk_f (by decide +kernel) ?_)); (try (conv => arg 1; simp [ints, ltS, nm_ne, tk_ne, hF])); with_reducible refine evp ?_) | ((refine la_q1 rfl (by decide +kernel) ?_); (try (conv => arg 1; simp [ints, ltS, nm_ne, tk_ne, hF])); with_reducible refine evp ?_) | ((refine la_g0 rfl ?_); (try (conv => arg 1; simp [ints, ltS, nm_ne, tk_ne, hF])); with_reducible refine evp ?_; (with_reducible refine evp ?_); try ((try (conv => arg 1; simp [ints, ltS, nm_ne, tk_ne, hF])); with_reducible refine evp ?_)))); (refine la_there ?_); (conv => arg 1; whnf))); first | ((refine la_q0 rfl ?_); (try (conv => arg 1; simp [ints, ltS, nm_ne, tk_ne, hF])); with_reducible refine evp ?_) | ((refine la_n rfl rfl ?_); (try (conv => arg 1; simp [ints, ltS, nm_ne, tk_ne, hF])); with_reducible refine evp ?_) | ((refine la_q2 rfl (by decide +kernel) ?_); (repeat (first | refine bk_nil ?_ | refine bk_t (by decide +kernel) ?_ | refine bk_f (by decide +kernel) ?_)); (try (conv => arg 1; simp [ints, ltS, nm_ne, tk_ne, hF])); with_reducible refine evp ?_) | ((refine la_q1 rfl (by decide +kernel) ?_); (try (conv => arg 1; simp [ints, ltS, nm_ne, tk_ne, hF])); with_reducible refine evp ?_) | ((refine la_g0 rfl ?_); (try (conv => arg 1; simp [ints, ltS, nm_ne, tk_ne, hF])); with_reducible refine evp ?_; (with_reducible refine evp ?_); try ((try (conv => arg 1; simp [ints, ltS, nm_ne, tk_ne, hF])); with_reducible refine evp ?_)))
                | ((with_reducible refine la_id ?_); refine la_all rfl ?_)
                | ((with_reducible refine all_id ?_); (conv => arg 1; whnf); first | exact all_nil | refine all_cons ?_ ?_)
                | (refine la_op rfl (by first | exact frm_s (by decide +kernel) | exact frm_a (by repeat' (first | exact fa_nil | refine fa_cons (by decide +kernel) ?_))) (by intro hq; first | exact trivial | (cases hq; done) | simp [appT, ints, ltS, nm_ne, tk_ne, hF]) ?_; (repeat (first | refine bk_nil ?_ | refine bk_t (by decide +kernel) ?_ | refine bk_f (by decide +kernel) ?_)))
               | fail)
              repeat' (first
               | with_reducible refine stp ?_
               | with_reducible refine k_blk_o rfl ?_
               | with_reducible refine k_seq_n ?_
               | ((try (conv => arg 1; simp [s1, s4, s5, s6, s8, s9, ints, b, qw.1, qw.2.1, qw.2.2, ltS, nm_ne, tk_ne])); with_reducible refine evp ?_)
               | ((with_reducible refine apn ?na ?_); (case na => simp [appNames, ints, intss] <;> first | kernel_rfl | (refine ⟨?_, ?_⟩ <;> kernel_rfl)))
               | fail)
              conv => arg 1; simp
              rw [appendA_snoc (s := 5) (l := es') (e := [w, .int .i64 2, .int .i64 g.Blocks[k].A, .int .i64 g.Blocks[k].To, .int .i64 g.Blocks[k].Else]) (by kernel_rfl) ?hr hel' ?hk rfl (by omega) ?hm]
              case hr =>
                simp [b, nm_ne, ltS]
                intro e
                have hkn := b.2.1
                rw [e] at hkn
                simp only at hkn
                omega
              case hk => simp [qw.1, qw.2.1, qw.2.2]
              case hm => simp [b, ltS]
              refine ev2_some ?_
              repeat' (first
               | with_reducible refine stp ?_
               | with_reducible refine k_blk_o rfl ?_
               | with_reducible refine k_seq_n ?_
               | ((try (conv => arg 1; simp [s1, s4, s5, s6, s9, hw])); with_reducible refine evp ?_)
               | ((with_reducible refine apn ?na ?_); (case na => simp [appNames, ints, intss] <;> first | kernel_rfl | (refine ⟨?_, ?_⟩ <;> kernel_rfl)))
               | fail)
              refine k_lp_n (i + 1) (by omega) ⟨by omega, by simp [s1], by simp [s4], by simp [s5], by simp [s6], by simp, kn, _, fin 2 g.Blocks[k].A (g.Blocks[k].To) (g.Blocks[k].Else) (by simp [reB, hJ]), by simp, ?_⟩
              exact Cx.to x
          · have hge : i = l.length := by omega
            have hlt2 : ¬ (i : Int) < l.length := by omega
            repeat' (first
             | with_reducible refine stp ?_
             | with_reducible refine k_blk_o rfl ?_
             | with_reducible refine k_seq_n ?_
             | ((try (conv => arg 1; simp [s1, s4, s5, s6, s8, s9, ints, b, hlt2, q1.1, q1.2.1, q1.2.2, ltS, nm_ne, tk_ne])); with_reducible refine evp ?_)
             | ((with_reducible refine apn ?na ?_); (case na => simp [appNames, ints, intss] <;> first | kernel_rfl | (refine ⟨?_, ?_⟩ <;> kernel_rfl)))
             | fail)
            rw [hge, List.take_length] at he'
            subst he'
            obtain ⟨ns, y5⟩ := Cx.reorder O eL x
            have z := Cx.close_row (sp := []) (ts := fun b => (l.map fun k => reB l (blkAt g k)).map (Block.cells b)) (by rw [List.append_nil]; exact y5) (fun e he => by simp at he; obtain ⟨a, _, rfl⟩ := he; rfl) (fun b => by simp) (fun b t ht => by simp at ht; obtain ⟨a, _, rfl⟩ := ht; rfl) (fun e he => by simp at he) (fun i e j x he => by simp at he)
            rw [List.length_map, ← hge] at z
            refine fin_own (os := []) (ns := n1 ++ (kn :: (ns ++ []))) (bs := ?bs) ?y
            case y => exact Cx.to (Cx.graph_join (g := { g with Blocks := l.map fun k => reB l (blkAt g k) }) (Cx.rot1 z))
end Go.Proofs.Ytlmlkkkgcbpaoaa.AM

/-
  Blocks in another order: the program's.
-/
set_option linter.unusedVariables false
set_option linter.unusedSimpArgs false
set_option maxRecDepth 4000
namespace Go.Proofs.Ytlmlkkkgcbpaoaa.AM
open Go.RowKit

private def MG78 : FuncId → Mode := fun f => if f = 47 ∨ f = 67 then .fresh else .tree

/-- A new row behind a run. -/
theorem ev2_addC {h h' : Hp} {bs bs' : Bx} {os : Ox} (x : Cx h bs os) [e : CxE h bs os h' bs'] {n : Nm} {r : Row} {v : AV} {k : AV → Hp → Prop} (h1 : h.tick ≤ n.1) (h2 : n.1 < h'.tick) (hk : ∀ h2, Cx h2 ((n, r) :: bs') os → k v h2) : Ev2 (some (v, h'.put n r)) k := by
  refine hk _ ((e.cx x).box_add (fun hm => ?_) h2)
  have := x.lt n (by
    simp only [nms, List.mem_append] at hm ⊢
    rw [← e.nm]
    exact hm)
  omega

set_option maxHeartbeats 4000000 in
theorem implReorder0 (g : Graph) (d : g.Small) (l : List Int) (hll : l.length ≤ 2 ^ 20) : FreshW Try.prog 67 [.agg (g.cells true), ints true l] (fun b => .agg ((reorderR g l).cells b)) := by
  intro T
  have hln := d.len
  have hnil : True := trivial
  have G := isOrder g d l hll
  refine enter mixed MG78 Try.func67 rfl (by kernel_rfl) rfl ?_
  repeat' (first
   | with_reducible refine stp ?_
   | with_reducible refine k_blk_o rfl ?_
   | ((try (conv => arg 1; simp [Graph.cells])); with_reducible refine evp ?_)
   | ((with_reducible refine apn ?na ?_); (case na => simp [appNames, ints, intss] <;> first | kernel_rfl | (refine ⟨?_, ?_⟩ <;> kernel_rfl)))
   | fail)
  refine cx_k ((Cx.mt.next.box_one (T := T) (i := 0) Cx.mt.off (by simp)).box_add (n := (T, 1, 0)) (by simp [nms]) (by simp)) ?_
  intro h1 x1
  have b1 := x1.bxs
  simp only [Bxs] at b1
  repeat' (first
   | with_reducible refine stp ?_
   | with_reducible refine k_blk_o rfl ?_
   | with_reducible refine k_seq_n ?_
   | ((try (conv => arg 1; simp [b1, ltS, nm_ne, tk_ne])); with_reducible refine evp ?_)
   | ((with_reducible refine apn ?na ?_); (case na => simp [appNames, ints, intss] <;> first | kernel_rfl | (refine ⟨?_, ?_⟩ <;> kernel_rfl)))
   | fail)
  refine st_freshw rfl (copyGraph g d) (.cons (dr_agg (drs_graphL g fun h => h)) .nil) ?_
  intro v h2 n o e f p t
  have x2 := x1.next.fresh o e f p t
  have z2 : h1.tick < h2.tick := by simp only [hp_next_tick] at t; omega
  obtain ⟨w1, w2, _, _, rfl, _, q1, q2⟩ := ownV_graph (o true)
  have q1 := own_one q1
  have q2 := own_one' q2
  have b2 := x2.bxs
  simp only [Bxs] at b2
  repeat' (first
   | with_reducible refine stp ?_
   | with_reducible refine k_blk_o rfl ?_
   | ((try (conv => arg 1; simp [b2, z2, q1.1, q1.2.1, q1.2.2, q2.1, q2.2.1, q2.2.2, ltS, nm_ne, tk_ne])); with_reducible refine evp ?_)
   | ((with_reducible refine apn ?na ?_); (case na => simp [appNames, ints, intss] <;> first | kernel_rfl | (refine ⟨?_, ?_⟩ <;> kernel_rfl)))
   | fail)
  refine cx_k (x2.box_new (x1.off.fresh f (by simp [hp_next_tick])) z2) ?_
  intro h3 x3
  have b3 := x3.bxs
  simp only [Bxs] at b3
  cases hk : orderB g l with
  | false =>
    rw [hk] at G
    have hr : reorderR g l = g := by simp [reorderR, hk]
    rw [hr]
    repeat' (first
     | with_reducible refine stp ?_
     | with_reducible refine k_blk_o rfl ?_
     | with_reducible refine k_seq_n ?_
     | ((try (conv => arg 1; simp [b3, q1.1, q1.2.1, q1.2.2, q2.1, q2.2.1, q2.2.2, ltS, nm_ne, tk_ne])); with_reducible refine evp ?_)
     | ((with_reducible refine apn ?na ?_); (case na => simp [appNames, ints, intss] <;> first | kernel_rfl | (refine ⟨?_, ?_⟩ <;> kernel_rfl)))
     | ((with_reducible refine tcl ?_); first | ((apply tg (G)); (case e => rfl); (case d => (refine dq ?_); (repeat' (first | ((refine Da.mk ?_); first | exact dr_blocks (by simp) _ | assumption) | constructor)))))
     | fail)
    refine fin_own (os := []) (ns := n) (bs := ?bs1) ?y1
    case y1 => exact Cx.to x3
  | true =>
    rw [hk] at G
    have O := orderB_ord hk
    have hgk := O.ok
    have hle := O.len
    have hr : reorderR g l = { g with Blocks := l.map fun k => reB l (blkAt g k) } := by simp [reorderR, hk]
    rw [hr]
    have hnb := (ok_blocks hgk).1
    have hbne : (g.Blocks.map (Block.cells true)) ≠ [] := fun e => by have := List.map_eq_nil_iff.1 e; rw [this] at hnb; simp at hnb
    --LOOP
    obtain ⟨u1, u2, n1, n2, eu, rfl, x6⟩ := x3.graph_split
    simp only [List.cons.injEq, true_and, and_true] at eu
    obtain ⟨rfl, rfl⟩ := eu
    obtain ⟨kk, ver, es, sp, n3, rfl, rfl, hel, he5, c1, c2, y⟩ := x6.rot1.open_row (s := 5) (ts := fun b => g.Blocks.map (Block.cells b)) (by omega) (fun b t ht => by simp at ht; obtain ⟨a, _, rfl⟩ := ht; rfl) hbne
    have hel2 : es.length = g.Blocks.length := by simpa using hel
    rw [hel2] at q2 b3 y
    obtain ⟨L, eL, ec, qL, y2⟩ := Cx.split_blocks (by omega) he5 y
    repeat' (first
     | with_reducible refine stp ?_
     | with_reducible refine k_blk_o rfl ?_
     | with_reducible refine k_seq_n ?_
     | ((try (conv => arg 1; simp [b3, q1.1, q1.2.1, q1.2.2, q2.1, q2.2.1, q2.2.2, ints, ltS, nm_ne, tk_ne])); with_reducible refine evp ?_)
     | ((with_reducible refine apn ?na ?_); (case na => simp [appNames, ints, intss] <;> first | kernel_rfl | (refine ⟨?_, ?_⟩ <;> kernel_rfl)))
     | ((with_reducible refine tcl ?_); first | ((apply tg (G)); (case e => rfl); (case d => (refine dq ?_); (repeat' (first | ((refine Da.mk ?_); first | exact dr_blocks (by simp) _ | assumption) | constructor)))))
     | fail)
    refine st_loop (fun (i : Nat) σ h => i ≤ l.length ∧ σ 1 = ints true l ∧ σ 4 = .ptr (T, 1, 0) 0 0 0 ∧ σ 5 = .ptr (h1.tick, 2, 0) 0 0 0 ∧ σ 6 = .ptr (h3.tick + 1, 1, 0) 0 0 0 ∧ σ 19 = ints true l ∧ σ 20 = .int .i64 l.length ∧ σ 21 = .int .i64 i ∧
      ((i = 0 ∧ Cx h [((h3.tick + 1, 1, 0), ⟨0, 5, [[w1, .int .i64 g.Params, .int .i64 g.Vars, .int .i64 g.Slots, .nilsl]]⟩), (kk, ⟨ver, 5, es ++ sp⟩), ((h1.tick, 2, 0), ⟨0, 5, [[w1, .int .i64 g.Params, .int .i64 g.Vars, .int .i64 g.Slots, .sl kk ver 0 g.Blocks.length]]⟩), ((T, 1, 0), ⟨0, 5, [[.nilsl, .int .i64 0, .int .i64 0, .int .i64 0, .nilsl]]⟩), ((T, 0, 0), graphRow g)] (L.map OB.own ++ [(w1, (fun b => ints b g.Sizes), n1)])) ∨
      (0 < i ∧ ∃ kn es', es' = ((l.take i).map fun k => (rePick L l k).cells) ∧ Cx h [(kn, ⟨i - 1, 5, es'⟩), ((h3.tick + 1, 1, 0), ⟨0, 5, [[w1, .int .i64 g.Params, .int .i64 g.Vars, .int .i64 g.Slots, .sl kn (i - 1) 0 i]]⟩), (kk, ⟨ver, 5, es ++ sp⟩), ((h1.tick, 2, 0), ⟨0, 5, [[w1, .int .i64 g.Params, .int .i64 g.Vars, .int .i64 g.Slots, .sl kk ver 0 g.Blocks.length]]⟩), ((T, 1, 0), ⟨0, 5, [[.nilsl, .int .i64 0, .int .i64 0, .int .i64 0, .nilsl]]⟩), ((T, 0, 0), graphRow g)] (L.map OB.own ++ [(w1, (fun b => ints b g.Sizes), n1)])))) (fun i => l.length - i) 0 ?init1 ?step1
    case init1 =>
      have z1 := y2.next.next.box_one (T := h3.tick + 1) (i := 1) (r := ⟨0, 5, [[.nilsl, .int .i64 0, .int .i64 0, .int .i64 0, .nilsl]]⟩) y2.next.off (by simp)
      exact ⟨Nat.zero_le _, by simp [ints], by simp, by simp, by simp, by simp [ints], by simp, by simp, .inl ⟨rfl, Cx.to z1⟩⟩
    case step1 =>
      rintro i σ h ⟨hi, s1, s4, s5, s6, s19, s20, s21, hst⟩
      by_cases hlt : i < l.length
      · have hlt2 : (i : Int) < l.length := by omega
        have hw : IntKind.i64.wrap (i + 1) = i + 1 := wrap_id (by omega) (by omega)
        have hx : l[i]? = some l[i] := by simp
        obtain ⟨k, hk2, hkN⟩ := O.at hlt
        have hkN2 : (k : Int) < g.Blocks.length := by omega
        have hts := take_snoc hlt
        generalize hli : l[i] = li at *
        subst hk2
        have hop : ∀ hh, l[i]'hh = (k : Int) := fun _ => hli
        obtain ⟨pa, qw⟩ := pick_at eL ec qL hkN
        have hpb := pickI_blk eL (k : Int)
        rw [show blkAt g (k : Int) = g.Blocks[k] by simp [blkAt, hkN]] at hpb
        have hpl : ∀ t : Int, Pure Try.prog 78 [ints true l, .int .i64 t] (.int .i64 (placeI l t)) := fun t => indexI l t (by omega)
        have fin : ∀ J A To El : Int, reB l g.Blocks[k] = ⟨g.Blocks[k].Code, J, A, To, El⟩ → ((l.take i).map fun k => (rePick L l k).cells) ++ [[(pickI L k).1, .int .i64 J, .int .i64 A, .int .i64 To, .int .i64 El]] = (l.take (i + 1)).map fun k => (rePick L l k).cells := fun J A To El e => by
          rw [hts, List.map_append]
          simp only [List.map_cons, List.map_nil, OB.cells, rePick, hpb, e]
        have hat : (es ++ sp)[k]? = some [(pickI L k).1, .int .i64 g.Blocks[k].Jump, .int .i64 g.Blocks[k].A, .int .i64 g.Blocks[k].To, .int .i64 g.Blocks[k].Else] := by
          rw [List.getElem?_append_left (by omega), pa]
        generalize hE : es ++ sp = E at *
        generalize hwp : (pickI L k).1 = w at *
        rcases hst with ⟨hi0, x⟩ | ⟨hi0, kn, es', he', x⟩
        · have b := x.bxs
          simp only [Bxs, graphRow] at b
          subst hi0
          have hw1 : IntKind.i64.wrap 1 = 1 := wrap_id (by omega) (by omega)
          rcases blk_jumpR hgk hkN with hJ | hJ | hJ
          · rw [hJ] at hat
            repeat' (first
             | with_reducible refine stp ?_
             | with_reducible refine k_blk_o rfl ?_
             | with_reducible refine k_seq_n ?_
             | ((try (conv => arg 1; simp [s1, s4, s5, s6, s19, s20, s21, ints, b, hlt, hlt2, hx, hop, hkN2, hat, qw.1, qw.2.1, qw.2.2, ltS, nm_ne, tk_ne])); with_reducible refine evp ?_)
             | ((with_reducible refine apn ?na ?_); (case na => simp [appNames, ints, intss] <;> first | kernel_rfl | (refine ⟨?_, ?_⟩ <;> kernel_rfl)))
             | ((with_reducible refine tcl ?_); first | ((apply tg (hpl g.Blocks[k].To)); (case e => rfl); (case d => (refine dq ?_); (repeat' (first | ((refine Da.mk ?_); first | assumption) | constructor)))))
             | fail)
            conv => arg 1; simp
            rw [appendA_nil1 (s := 5) (e := [w, .int .i64 0, .int .i64 g.Blocks[k].A, .int .i64 (placeI l g.Blocks[k].To), .int .i64 g.Blocks[k].Else]) (by kernel_rfl) ?hk rfl]
            case hk => simp [qw.1, qw.2.1, qw.2.2]
            refine ev2_addC x (by omega) (by simp) fun hz z => ?_
            have bz := z.bxs
            simp only [Bxs, graphRow] at bz
            repeat' (first
             | with_reducible refine stp ?_
             | with_reducible refine k_blk_o rfl ?_
             | with_reducible refine k_seq_n ?_
             | ((try (conv => arg 1; simp [s1, s4, s5, s6, s19, s20, s21, ints, bz, q1.1, q1.2.1, q1.2.2, hw1, ltS, nm_ne, tk_ne])); with_reducible refine evp ?_)
             | ((with_reducible refine apn ?na ?_); (case na => simp [appNames, ints, intss] <;> first | kernel_rfl | (refine ⟨?_, ?_⟩ <;> kernel_rfl)))
             | fail)
            refine k_lp_n 1 (by omega) ⟨by omega, by simp [s1, ints], by simp [s4], by simp [s5], by simp [s6], by simp [s19, ints], by simp [s20], by simp, .inr ⟨by omega, _, _, fin 0 g.Blocks[k].A (placeI l g.Blocks[k].To) g.Blocks[k].Else (by simp [reB, hJ]), Cx.to z⟩⟩
          · rw [hJ] at hat
            repeat' (first
             | with_reducible refine stp ?_
             | with_reducible refine k_blk_o rfl ?_
             | with_reducible refine k_seq_n ?_
             | ((try (conv => arg 1; simp [s1, s4, s5, s6, s19, s20, s21, ints, b, hlt, hlt2, hx, hop, hkN2, hat, qw.1, qw.2.1, qw.2.2, ltS, nm_ne, tk_ne])); with_reducible refine evp ?_)
             | ((with_reducible refine apn ?na ?_); (case na => simp [appNames, ints, intss] <;> first | kernel_rfl | (refine ⟨?_, ?_⟩ <;> kernel_rfl)))
             | ((with_reducible refine tcl ?_); first | ((apply tg (hpl g.Blocks[k].To)); (case e => rfl); (case d => (refine dq ?_); (repeat' (first | ((refine Da.mk ?_); first | assumption) | constructor)))) | ((apply tg (hpl g.Blocks[k].Else)); (case e => rfl); (case d => (refine dq ?_); (repeat' (first | ((refine Da.mk ?_); first | assumption) | constructor)))))
             | fail)
            conv => arg 1; simp
            rw [appendA_nil1 (s := 5) (e := [w, .int .i64 1, .int .i64 g.Blocks[k].A, .int .i64 (placeI l g.Blocks[k].To), .int .i64 (placeI l g.Blocks[k].Else)]) (by kernel_rfl) ?hk rfl]
            case hk => simp [qw.1, qw.2.1, qw.2.2]
            refine ev2_addC x (by omega) (by simp) fun hz z => ?_
            have bz := z.bxs
            simp only [Bxs, graphRow] at bz
            repeat' (first
             | with_reducible refine stp ?_
             | with_reducible refine k_blk_o rfl ?_
             | with_reducible refine k_seq_n ?_
             | ((try (conv => arg 1; simp [s1, s4, s5, s6, s19, s20, s21, ints, bz, q1.1, q1.2.1, q1.2.2, hw1, ltS, nm_ne, tk_ne])); with_reducible refine evp ?_)
             | ((with_reducible refine apn ?na ?_); (case na => simp [appNames, ints, intss] <;> first | kernel_rfl | (refine ⟨?_, ?_⟩ <;> kernel_rfl)))
             | fail)
            refine k_lp_n 1 (by omega) ⟨by omega, by simp [s1, ints], by simp [s4], by simp [s5], by simp [s6], by simp [s19, ints], by simp [s20], by simp, .inr ⟨by omega, _, _, fin 1 g.Blocks[k].A (placeI l g.Blocks[k].To) (placeI l g.Blocks[k].Else) (by simp [reB, hJ]), Cx.to z⟩⟩
          · rw [hJ] at hat
            repeat' (first
             | with_reducible refine stp ?_
             | with_reducible refine k_blk_o rfl ?_
             | with_reducible refine k_seq_n ?_
             | ((try (conv => arg 1; simp [s1, s4, s5, s6, s19, s20, s21, ints, b, hlt, hlt2, hx, hop, hkN2, hat, qw.1, qw.2.1, qw.2.2, ltS, nm_ne, tk_ne])); with_reducible refine evp ?_)
             | ((with_reducible refine apn ?na ?_); (case na => simp [appNames, ints, intss] <;> first | kernel_rfl | (refine ⟨?_, ?_⟩ <;> kernel_rfl)))
             | fail)
            conv => arg 1; simp
            rw [appendA_nil1 (s := 5) (e := [w, .int .i64 2, .int .i64 g.Blocks[k].A, .int .i64 g.Blocks[k].To, .int .i64 g.Blocks[k].Else]) (by kernel_rfl) ?hk rfl]
            case hk => simp [qw.1, qw.2.1, qw.2.2]
            refine ev2_addC x (by omega) (by simp) fun hz z => ?_
            have bz := z.bxs
            simp only [Bxs, graphRow] at bz
            repeat' (first
             | with_reducible refine stp ?_
             | with_reducible refine k_blk_o rfl ?_
             | with_reducible refine k_seq_n ?_
             | ((try (conv => arg 1; simp [s1, s4, s5, s6, s19, s20, s21, ints, bz, q1.1, q1.2.1, q1.2.2, hw1, ltS, nm_ne, tk_ne])); with_reducible refine evp ?_)
             | ((with_reducible refine apn ?na ?_); (case na => simp [appNames, ints, intss] <;> first | kernel_rfl | (refine ⟨?_, ?_⟩ <;> kernel_rfl)))
             | fail)
            refine k_lp_n 1 (by omega) ⟨by omega, by simp [s1, ints], by simp [s4], by simp [s5], by simp [s6], by simp [s19, ints], by simp [s20], by simp, .inr ⟨by omega, _, _, fin 2 g.Blocks[k].A g.Blocks[k].To g.Blocks[k].Else (by simp [reB, hJ]), Cx.to z⟩⟩
        · have b := x.bxs
          simp only [Bxs, graphRow] at b
          have hkA : kn.1 < h.tick + 1 + 1 := by omega
          have hkB : kn.1 < h.tick + 1 + 1 + 1 + 1 + 1 + 1 := by omega
          have hkC : kn.1 < h.tick + 1 + 1 + 1 + 1 + 1 + 1 + 1 := by omega
          have hkD : kn.1 < h.tick + 1 + 1 + 1 + 1 + 1 := by omega
          have hel' : es'.length = i := by rw [he']; simp; omega
          have hkg : ¬ (h3.tick + 1, 1, 0) = kn := by have ap := x.aps; simp only [List.map_cons, List.map_nil, Aps] at ap; exact (ap.1 (h3.tick + 1, 1, 0) (by simp)).2
          have hkk1 : i - 1 + 1 = i := by omega
          have hkk2 : i + 1 - 1 = i := by omega
          rcases blk_jumpR hgk hkN with hJ | hJ | hJ
          · rw [hJ] at hat
            repeat' (first
             | with_reducible refine stp ?_
             | with_reducible refine k_blk_o rfl ?_
             | with_reducible refine k_seq_n ?_
             | ((try (conv => arg 1; simp [s1, s4, s5, s6, s19, s20, s21, ints, b, hlt, hlt2, hx, hop, hkN2, hat, qw.1, qw.2.1, qw.2.2, ltS, nm_ne, tk_ne])); with_reducible refine evp ?_)
             | ((with_reducible refine apn ?na ?_); (case na => simp [appNames, ints, intss] <;> first | kernel_rfl | (refine ⟨?_, ?_⟩ <;> kernel_rfl)))
             | ((with_reducible refine tcl ?_); first | ((apply tg (hpl g.Blocks[k].To)); (case e => rfl); (case d => (refine dq ?_); (repeat' (first | ((refine Da.mk ?_); first | assumption) | constructor)))))
             | fail)
            conv => arg 1; simp
            rw [appendA_snoc (s := 5) (l := es') (e := [w, .int .i64 0, .int .i64 g.Blocks[k].A, .int .i64 (placeI l g.Blocks[k].To), .int .i64 g.Blocks[k].Else]) (by kernel_rfl) ?hr hel' ?hk rfl (by omega) ?hm]
            case hr =>
              simp [b, nm_ne hkA, nm_ne hkB]
            case hk => simp [qw.1, qw.2.1, qw.2.2]
            case hm => simp [b, ltS]
            refine ev2_some ?_
            repeat' (first
             | with_reducible refine stp ?_
             | with_reducible refine k_blk_o rfl ?_
             | with_reducible refine k_seq_n ?_
             | ((try (conv => arg 1; simp [s1, s4, s5, s6, s19, s20, s21, ints, b, q1.1, q1.2.1, q1.2.2, hw, hkg, hkk1, ltS, nm_ne, tk_ne])); with_reducible refine evp ?_)
             | ((with_reducible refine apn ?na ?_); (case na => simp [appNames, ints, intss] <;> first | kernel_rfl | (refine ⟨?_, ?_⟩ <;> kernel_rfl)))
             | fail)
            refine k_lp_n (i + 1) (by omega) ⟨by omega, by simp [s1, ints], by simp [s4], by simp [s5], by simp [s6], by simp [s19, ints], by simp [s20], by simp, .inr ⟨by omega, kn, es' ++ [[w, .int .i64 0, .int .i64 g.Blocks[k].A, .int .i64 (placeI l g.Blocks[k].To), .int .i64 g.Blocks[k].Else]], by rw [he']; exact fin 0 g.Blocks[k].A (placeI l g.Blocks[k].To) g.Blocks[k].Else (by simp [reB, hJ]), ?_⟩⟩
            rw [hkk2]
            exact Cx.to x
          · rw [hJ] at hat
            repeat' (first
             | with_reducible refine stp ?_
             | with_reducible refine k_blk_o rfl ?_
             | with_reducible refine k_seq_n ?_
             | ((try (conv => arg 1; simp [s1, s4, s5, s6, s19, s20, s21, ints, b, hlt, hlt2, hx, hop, hkN2, hat, qw.1, qw.2.1, qw.2.2, ltS, nm_ne, tk_ne])); with_reducible refine evp ?_)
             | ((with_reducible refine apn ?na ?_); (case na => simp [appNames, ints, intss] <;> first | kernel_rfl | (refine ⟨?_, ?_⟩ <;> kernel_rfl)))
             | ((with_reducible refine tcl ?_); first | ((apply tg (hpl g.Blocks[k].To)); (case e => rfl); (case d => (refine dq ?_); (repeat' (first | ((refine Da.mk ?_); first | assumption) | constructor)))) | ((apply tg (hpl g.Blocks[k].Else)); (case e => rfl); (case d => (refine dq ?_); (repeat' (first | ((refine Da.mk ?_); first | assumption) | constructor)))))
             | fail)
            conv => arg 1; simp
            rw [appendA_snoc (s := 5) (l := es') (e := [w, .int .i64 1, .int .i64 g.Blocks[k].A, .int .i64 (placeI l g.Blocks[k].To), .int .i64 (placeI l g.Blocks[k].Else)]) (by kernel_rfl) ?hr hel' ?hk rfl (by omega) ?hm]
            case hr =>
              simp [b, nm_ne hkA, nm_ne hkC]
            case hk => simp [qw.1, qw.2.1, qw.2.2]
            case hm => simp [b, ltS]
            refine ev2_some ?_
            repeat' (first
             | with_reducible refine stp ?_
             | with_reducible refine k_blk_o rfl ?_
             | with_reducible refine k_seq_n ?_
             | ((try (conv => arg 1; simp [s1, s4, s5, s6, s19, s20, s21, ints, b, q1.1, q1.2.1, q1.2.2, hw, hkg, hkk1, ltS, nm_ne, tk_ne])); with_reducible refine evp ?_)
             | ((with_reducible refine apn ?na ?_); (case na => simp [appNames, ints, intss] <;> first | kernel_rfl | (refine ⟨?_, ?_⟩ <;> kernel_rfl)))
             | fail)
            refine k_lp_n (i + 1) (by omega) ⟨by omega, by simp [s1, ints], by simp [s4], by simp [s5], by simp [s6], by simp [s19, ints], by simp [s20], by simp, .inr ⟨by omega, kn, es' ++ [[w, .int .i64 1, .int .i64 g.Blocks[k].A, .int .i64 (placeI l g.Blocks[k].To), .int .i64 (placeI l g.Blocks[k].Else)]], by rw [he']; exact fin 1 g.Blocks[k].A (placeI l g.Blocks[k].To) (placeI l g.Blocks[k].Else) (by simp [reB, hJ]), ?_⟩⟩
            rw [hkk2]
            exact Cx.to x
          · rw [hJ] at hat
            repeat' (first
             | with_reducible refine stp ?_
             | with_reducible refine k_blk_o rfl ?_
             | with_reducible refine k_seq_n ?_
             | ((try (conv => arg 1; simp [s1, s4, s5, s6, s19, s20, s21, ints, b, hlt, hlt2, hx, hop, hkN2, hat, qw.1, qw.2.1, qw.2.2, ltS, nm_ne, tk_ne])); with_reducible refine evp ?_)
             | ((with_reducible refine apn ?na ?_); (case na => simp [appNames, ints, intss] <;> first | kernel_rfl | (refine ⟨?_, ?_⟩ <;> kernel_rfl)))
             | fail)
            conv => arg 1; simp
            rw [appendA_snoc (s := 5) (l := es') (e := [w, .int .i64 2, .int .i64 g.Blocks[k].A, .int .i64 g.Blocks[k].To, .int .i64 g.Blocks[k].Else]) (by kernel_rfl) ?hr hel' ?hk rfl (by omega) ?hm]
            case hr =>
              simp [b, nm_ne hkA, nm_ne hkD]
            case hk => simp [qw.1, qw.2.1, qw.2.2]
            case hm => simp [b, ltS]
            refine ev2_some ?_
            repeat' (first
             | with_reducible refine stp ?_
             | with_reducible refine k_blk_o rfl ?_
             | with_reducible refine k_seq_n ?_
             | ((try (conv => arg 1; simp [s1, s4, s5, s6, s19, s20, s21, ints, b, q1.1, q1.2.1, q1.2.2, hw, hkg, hkk1, ltS, nm_ne, tk_ne])); with_reducible refine evp ?_)
             | ((with_reducible refine apn ?na ?_); (case na => simp [appNames, ints, intss] <;> first | kernel_rfl | (refine ⟨?_, ?_⟩ <;> kernel_rfl)))
             | fail)
            refine k_lp_n (i + 1) (by omega) ⟨by omega, by simp [s1, ints], by simp [s4], by simp [s5], by simp [s6], by simp [s19, ints], by simp [s20], by simp, .inr ⟨by omega, kn, es' ++ [[w, .int .i64 2, .int .i64 g.Blocks[k].A, .int .i64 g.Blocks[k].To, .int .i64 g.Blocks[k].Else]], by rw [he']; exact fin 2 g.Blocks[k].A g.Blocks[k].To g.Blocks[k].Else (by simp [reB, hJ]), ?_⟩⟩
            rw [hkk2]
            exact Cx.to x
      · have hge : i = l.length := by omega
        have hlt2 : ¬ (i : Int) < l.length := by omega
        rcases hst with ⟨hi0, x⟩ | ⟨hi0, kn, es', he', x⟩
        · omega
        have b := x.bxs
        simp only [Bxs, graphRow] at b
        repeat' (first
         | with_reducible refine stp ?_
         | with_reducible refine k_blk_o rfl ?_
         | with_reducible refine k_seq_n ?_
         | ((try (conv => arg 1; simp [s1, s4, s5, s6, s19, s20, s21, ints, b, hlt2, q1.1, q1.2.1, q1.2.2, ltS, nm_ne, tk_ne])); with_reducible refine evp ?_)
         | ((with_reducible refine apn ?na ?_); (case na => simp [appNames, ints, intss] <;> first | kernel_rfl | (refine ⟨?_, ?_⟩ <;> kernel_rfl)))
         | fail)
        have hln2 : (l.take i).length = i := by simp; omega
        rw [hge, List.take_length] at he'
        subst he'
        have x := x.bperm (List.Perm.refl _)
        obtain ⟨ns, y5⟩ := Cx.reorder O eL x
        have z := Cx.close_row (sp := []) (ts := fun b => (l.map fun k => reB l (blkAt g k)).map (Block.cells b)) (by rw [List.append_nil]; exact y5) (fun e he => by simp at he; obtain ⟨a, _, rfl⟩ := he; rfl) (fun b => by simp) (fun b t ht => by simp at ht; obtain ⟨a, _, rfl⟩ := ht; rfl) (fun e he => by simp at he) (fun i e j x he => by simp at he)
        rw [List.length_map, ← hge] at z
        refine fin_own (os := []) (ns := n1 ++ (kn :: (ns ++ []))) (bs := ?bs) ?y
        case y => exact Cx.to (Cx.graph_join (g := { g with Blocks := l.map fun k => reB l (blkAt g k) }) (Cx.rot1 z))
theorem implReorder (g : Graph) (d : g.Small) (l : List Int) (hll : l.length ≤ 2 ^ 20) : FreshW Try.prog 35 [.agg (g.cells true), ints true l] (fun b => .agg ((reorderR g l).cells b)) := by
  intro T
  have I := implReorder0 g d l hll
  refine enter mixed MG78 Try.func35 rfl (by kernel_rfl) rfl ?_
  repeat' (first
   | with_reducible refine stp ?_
   | with_reducible refine k_blk_o rfl ?_
   | ((try (conv => arg 1; simp [Graph.cells])); with_reducible refine evp ?_)
   | ((with_reducible refine apn ?na ?_); (case na => simp [appNames, ints, intss] <;> first | kernel_rfl | (refine ⟨?_, ?_⟩ <;> kernel_rfl)))
   | fail)
  refine cx_k ((Cx.mt.next.box_one (T := T) (i := 0) Cx.mt.off (by simp)).box_add (n := (T, 1, 0)) (by simp [nms]) (by simp)) ?_
  intro h1 x1
  have b1 := x1.bxs
  simp only [Bxs] at b1
  repeat' (first
   | with_reducible refine stp ?_
   | with_reducible refine k_blk_o rfl ?_
   | with_reducible refine k_seq_n ?_
   | ((try (conv => arg 1; simp [b1, ltS, nm_ne, tk_ne])); with_reducible refine evp ?_)
   | ((with_reducible refine apn ?na ?_); (case na => simp [appNames, ints, intss] <;> first | kernel_rfl | (refine ⟨?_, ?_⟩ <;> kernel_rfl)))
   | fail)
  refine st_freshw rfl I (.cons (dr_agg (drs_graphL g fun h => h)) (.cons (dr_ints (by simp) _) .nil)) ?_
  intro v h2 n o e f p t
  have x2 := x1.next.fresh o e f p t
  have z2 : h1.tick < h2.tick := by simp only [hp_next_tick] at t; omega
  obtain ⟨w1, w2, _, _, rfl, _, q1, q2⟩ := ownV_graph (o true)
  have q1 := own_one q1
  have q2 := own_one' q2
  have b2 := x2.bxs
  simp only [Bxs] at b2
  repeat' (first
   | with_reducible refine stp ?_
   | with_reducible refine k_blk_o rfl ?_
   | with_reducible refine k_seq_n ?_
   | ((try (conv => arg 1; simp [b2, z2, q1.1, q1.2.1, q1.2.2, q2.1, q2.2.1, q2.2.2, ltS, nm_ne, tk_ne])); with_reducible refine evp ?_)
   | ((with_reducible refine apn ?na ?_); (case na => simp [appNames, ints, intss] <;> first | kernel_rfl | (refine ⟨?_, ?_⟩ <;> kernel_rfl)))
   | fail)
  refine fin_own (os := []) (ns := n) (bs := ?bs1) ?y1
  case y1 => exact Cx.to x2
end Go.Proofs.Ytlmlkkkgcbpaoaa.AM

/-
  Blocks in another order: both sides, and the size.
-/

/-
  The law of Reorder.
-/
set_option linter.unusedVariables false
set_option linter.unusedSimpArgs false
set_option maxRecDepth 4000
namespace Go.Proofs.Ytlmlkkkgcbpaoaa.AM
open Go.RowKit

private def MLReorder : FuncId → Mode := fun f => if f = 13 ∨ f = 17 ∨ f = 35 then .fresh else if f = 20 ∨ f = 21 then .heap else .tree

set_option maxHeartbeats 2000000 in
theorem lawReorder (g : Graph) (aa : List Int) (d_g : g.Data) (d_aa : aa.length ≤ maxLen) : Sound Try.prog 10 [.agg (g.cells true), ints true aa] (.mt 0) fun v _ => v = .bool true := by
  have hnil : True := trivial
  refine enter mixed MLReorder Try.func10 rfl (by kernel_rfl) rfl ?_
  repeat' (first
   | with_reducible refine stp ?_
   | with_reducible refine k_blk_o rfl ?_
   | ((try (conv => arg 1; simp [Graph.cells])); with_reducible refine evp ?_)
   | ((with_reducible refine apn ?na ?_); (case na => simp [appNames, ints, intss] <;> first | kernel_rfl | (refine ⟨?_, ?_⟩ <;> kernel_rfl)))
   | fail)
  refine cx_k Cx.mt_box ?_
  intro h1 x1
  repeat' (first
   | with_reducible refine stp ?_
   | with_reducible refine k_blk_o rfl ?_
   | ((try (conv => arg 1; simp [hnil])); with_reducible refine evp ?_)
   | ((with_reducible refine apn ?na ?_); (case na => simp [appNames, ints, intss] <;> first | kernel_rfl | (refine ⟨?_, ?_⟩ <;> kernel_rfl)))
   | fail)
  refine cx_k x1.next ?_
  intro h2 x2
  by_cases hl_aa : (1048576 : Int) < (aa.length : Int)
  · skip
    repeat' (first
     | with_reducible refine stp ?_
     | with_reducible refine k_blk_o rfl ?_
     | with_reducible refine k_seq_n ?_
     | ((try (conv => arg 1; simp [hl_aa])); with_reducible refine evp ?_)
     | ((with_reducible refine apn ?na ?_); (case na => simp [appNames, ints, intss] <;> first | kernel_rfl | (refine ⟨?_, ?_⟩ <;> kernel_rfl)))
     | fail)
    rfl
  have hq_aa := hl_aa
  repeat' (first
   | with_reducible refine stp ?_
   | with_reducible refine k_blk_o rfl ?_
   | ((try (conv => arg 1; simp [hl_aa])); with_reducible refine evp ?_)
   | ((with_reducible refine apn ?na ?_); (case na => simp [appNames, ints, intss] <;> first | kernel_rfl | (refine ⟨?_, ?_⟩ <;> kernel_rfl)))
   | fail)
  refine k_seq_n ?_
  replace hl_aa : aa.length ≤ 2 ^ 20 := by omega
  repeat' (first
   | with_reducible refine stp ?_
   | with_reducible refine k_blk_o rfl ?_
   | ((try (conv => arg 1; simp [hnil])); with_reducible refine evp ?_)
   | ((with_reducible refine apn ?na ?_); (case na => simp [appNames, ints, intss] <;> first | kernel_rfl | (refine ⟨?_, ?_⟩ <;> kernel_rfl)))
   | fail)
  refine cx_k x2.next ?_
  intro h3 x3
  obtain ⟨r1, hr_g, hs_g⟩ := szGraph g 1048576 (by omega) (by omega) d_g
  repeat' (first
   | with_reducible refine stp ?_
   | with_reducible refine k_blk_o rfl ?_
   | ((try (conv => arg 1; simp [x3.b0])); with_reducible refine evp ?_)
   | ((with_reducible refine apn ?na ?_); (case na => simp [appNames, ints, intss] <;> first | kernel_rfl | (refine ⟨?_, ?_⟩ <;> kernel_rfl)))
   | fail)
  refine st_tree rfl (hr_g) (.cons (dr_agg (drs_graphL g fun h => h)) (.cons (.int _ _) .nil)) ?_
  repeat' (first
   | with_reducible refine stp ?_
   | with_reducible refine k_blk_o rfl ?_
   | ((try (conv => arg 1; simp [x3.b0])); with_reducible refine evp ?_)
   | ((with_reducible refine apn ?na ?_); (case na => simp [appNames, ints, intss] <;> first | kernel_rfl | (refine ⟨?_, ?_⟩ <;> kernel_rfl)))
   | fail)
  refine cx_k x3.next ?_
  intro h4 x4
  repeat' (first
   | with_reducible refine stp ?_
   | with_reducible refine k_blk_o rfl ?_
   | ((try (conv => arg 1; simp [hnil])); with_reducible refine evp ?_)
   | ((with_reducible refine apn ?na ?_); (case na => simp [appNames, ints, intss] <;> first | kernel_rfl | (refine ⟨?_, ?_⟩ <;> kernel_rfl)))
   | fail)
  refine cx_k x4.next ?_
  intro h5 x5
  by_cases hneg : r1 < 0
  · skip
    repeat' (first
     | with_reducible refine stp ?_
     | with_reducible refine k_blk_o rfl ?_
     | with_reducible refine k_seq_n ?_
     | ((try (conv => arg 1; simp [hneg])); with_reducible refine evp ?_)
     | ((with_reducible refine apn ?na ?_); (case na => simp [appNames, ints, intss] <;> first | kernel_rfl | (refine ⟨?_, ?_⟩ <;> kernel_rfl)))
     | fail)
    rfl
  repeat' (first
   | with_reducible refine stp ?_
   | with_reducible refine k_blk_o rfl ?_
   | ((try (conv => arg 1; simp [hneg])); with_reducible refine evp ?_)
   | ((with_reducible refine apn ?na ?_); (case na => simp [appNames, ints, intss] <;> first | kernel_rfl | (refine ⟨?_, ?_⟩ <;> kernel_rfl)))
   | fail)
  refine k_seq_n ?_
  replace hs_g := hs_g.resolve_left hneg
  obtain ⟨hs_g, hg1_g, hg2_g⟩ := hs_g
  have S := (specReorder g hs_g aa (by omega)).pure
  have I := implReorder g hs_g aa (by omega)
  have hr := reorderR_small g hs_g aa
  have ht_g := hs_g.tot
  generalize reorderR g aa = R at S I hr
  have ht_R := hr.tot
  repeat' (first
   | with_reducible refine stp ?_
   | with_reducible refine k_blk_o rfl ?_
   | ((try (conv => arg 1; simp [x5.b0])); with_reducible refine evp ?_)
   | ((with_reducible refine apn ?na ?_); (case na => simp [appNames, ints, intss] <;> first | kernel_rfl | (refine ⟨?_, ?_⟩ <;> kernel_rfl)))
   | fail)
  refine st_freshw rfl (toGraph g hs_g) (.cons (dr_agg (drs_graphL g fun h => h)) .nil) ?_
  intro v1 h6 n1 o1 e1 f1 p1 t1
  have x6 := x5.next.fresh o1 e1 f1 p1 t1
  have z6 : h5.tick < h6.tick := by simp only [hp_next_tick] at t1; omega
  obtain ⟨wa1, wb1, _, _, rfl, _, qa1, qb1⟩ := ownV_graph (o1 true)
  have qa1 := own_one qa1
  have qb1 := own_one' qb1
  repeat' (first
   | with_reducible refine stp ?_
   | with_reducible refine k_blk_o rfl ?_
   | ((try (conv => arg 1; simp [x6.b0, z6, qa1.1, qb1.1])); with_reducible refine evp ?_)
   | ((with_reducible refine apn ?na ?_); (case na => simp [appNames, ints, intss] <;> first | kernel_rfl | (refine ⟨?_, ?_⟩ <;> kernel_rfl)))
   | fail)
  refine st_fresh rfl (toIntS aa hl_aa) (.cons (dr_ints (fun h => h) _) .nil) ?_
  intro v2 h7 n2 o2 e2 f2 p2 t2
  have x7 := x6.fresh o2 e2 f2 p2 t2
  have z7 : h5.tick < h7.tick := by omega
  repeat' (first
   | with_reducible refine stp ?_
   | with_reducible refine k_blk_o rfl ?_
   | ((try (conv => arg 1; simp [x7.b0, z7])); with_reducible refine evp ?_)
   | ((with_reducible refine apn ?na ?_); (case na => simp [appNames, ints, intss] <;> first | kernel_rfl | (refine ⟨?_, ?_⟩ <;> kernel_rfl)))
   | fail)
  refine st_tree rfl (S) (.cons ((x7.o1 true).dr) (.cons ((x7.o0 true).dr) .nil)) ?_
  repeat' (first
   | with_reducible refine stp ?_
   | with_reducible refine k_blk_o rfl ?_
   | ((try (conv => arg 1; simp [x7.b0, z7, Graph.cells])); with_reducible refine evp ?_)
   | ((with_reducible refine apn ?na ?_); (case na => simp [appNames, ints, intss] <;> first | kernel_rfl | (refine ⟨?_, ?_⟩ <;> kernel_rfl)))
   | fail)
  refine cx_k (x7.box_new ((x5.off.fresh f1 (by simp [hp_next_tick])).fresh f2 z6) z7) ?_
  intro h8 x8
  repeat' (first
   | with_reducible refine stp ?_
   | with_reducible refine k_blk_o rfl ?_
   | ((try (conv => arg 1; simp [x8.b1])); with_reducible refine evp ?_)
   | ((with_reducible refine apn ?na ?_); (case na => simp [appNames, ints, intss] <;> first | kernel_rfl | (refine ⟨?_, ?_⟩ <;> kernel_rfl)))
   | fail)
  refine st_freshw rfl (toGraph g hs_g) (.cons (dr_agg (drs_graphL g fun h => h)) .nil) ?_
  intro v3 h9 n3 o3 e3 f3 p3 t3
  have x9 := x8.next.fresh o3 e3 f3 p3 t3
  have z9 : h8.tick < h9.tick := by simp only [hp_next_tick] at t3; omega
  obtain ⟨wa3, wb3, _, _, rfl, _, qa3, qb3⟩ := ownV_graph (o3 true)
  have qa3 := own_one qa3
  have qb3 := own_one' qb3
  repeat' (first
   | with_reducible refine stp ?_
   | with_reducible refine k_blk_o rfl ?_
   | ((try (conv => arg 1; simp [x9.b1, z9, qa3.1, qb3.1])); with_reducible refine evp ?_)
   | ((with_reducible refine apn ?na ?_); (case na => simp [appNames, ints, intss] <;> first | kernel_rfl | (refine ⟨?_, ?_⟩ <;> kernel_rfl)))
   | fail)
  refine cx_k (x9.box_new (x8.off.fresh f3 (by simp [hp_next_tick])) z9) ?_
  intro h10 x10
  repeat' (first
   | with_reducible refine stp ?_
   | with_reducible refine k_blk_o rfl ?_
   | ((try (conv => arg 1; simp [hnil])); with_reducible refine evp ?_)
   | ((with_reducible refine apn ?na ?_); (case na => simp [appNames, ints, intss] <;> first | kernel_rfl | (refine ⟨?_, ?_⟩ <;> kernel_rfl)))
   | fail)
  refine st_fresh rfl (toIntS aa hl_aa) (.cons (dr_ints (fun h => h) _) .nil) ?_
  intro v4 h11 n4 o4 e4 f4 p4 t4
  have x11 := x10.next.fresh o4 e4 f4 p4 t4
  have z11 : h10.tick < h11.tick := by simp only [hp_next_tick] at t4; omega
  repeat' (first
   | with_reducible refine stp ?_
   | with_reducible refine k_blk_o rfl ?_
   | ((try (conv => arg 1; simp [z11])); with_reducible refine evp ?_)
   | ((with_reducible refine apn ?na ?_); (case na => simp [appNames, ints, intss] <;> first | kernel_rfl | (refine ⟨?_, ?_⟩ <;> kernel_rfl)))
   | fail)
  refine cx_k x11 ?_
  intro h12 x12
  repeat' (first
   | with_reducible refine stp ?_
   | with_reducible refine k_blk_o rfl ?_
   | ((try (conv => arg 1; simp [x12.b0, qa3.1, qb3.1])); with_reducible refine evp ?_)
   | ((with_reducible refine apn ?na ?_); (case na => simp [appNames, ints, intss] <;> first | kernel_rfl | (refine ⟨?_, ?_⟩ <;> kernel_rfl)))
   | fail)
  refine st_freshw rfl I (.cons ((x12.next.o1 true).dr) (.cons ((x12.next.o0 true).dr) .nil)) ?_
  intro v5 h13 n5 o5 e5 f5 p5 t5
  have x13 := x12.next.fresh o5 e5 f5 p5 t5
  have z13 : h12.tick < h13.tick := by simp only [hp_next_tick] at t5; omega
  obtain ⟨wa5, wb5, _, _, rfl, _, qa5, qb5⟩ := ownV_graph (o5 true)
  have qa5 := own_one qa5
  have qb5 := own_one' qb5
  repeat' (first
   | with_reducible refine stp ?_
   | with_reducible refine k_blk_o rfl ?_
   | ((try (conv => arg 1; simp [x13.b0, qa3.1, qb3.1, z13, qa5.1, qb5.1])); with_reducible refine evp ?_)
   | ((with_reducible refine apn ?na ?_); (case na => simp [appNames, ints, intss] <;> first | kernel_rfl | (refine ⟨?_, ?_⟩ <;> kernel_rfl)))
   | fail)
  refine cx_k (x13.box_new (x12.off.fresh f5 (by simp [hp_next_tick])) z13) ?_
  intro h14 x14
  repeat' (first
   | with_reducible refine stp ?_
   | with_reducible refine k_blk_o rfl ?_
   | ((try (conv => arg 1; simp [x14.b0, x14.b2, qa5.1, qb5.1])); with_reducible refine evp ?_)
   | ((with_reducible refine apn ?na ?_); (case na => simp [appNames, ints, intss] <;> first | kernel_rfl | (refine ⟨?_, ?_⟩ <;> kernel_rfl)))
   | fail)
  refine st_tree rfl (eqGraph R hr) (.cons ((x14.next.o0 true).dr) (.cons (dr_agg (drs_graphL R (by simp))) .nil)) ?_
  repeat' (first
   | with_reducible refine stp ?_
   | with_reducible refine k_blk_o rfl ?_
   | ((try (conv => arg 1; simp [x14.b0, x14.b2, qa5.1, qb5.1])); with_reducible refine evp ?_)
   | ((with_reducible refine apn ?na ?_); (case na => simp [appNames, ints, intss] <;> first | kernel_rfl | (refine ⟨?_, ?_⟩ <;> kernel_rfl)))
   | fail)
  refine cx_k x14.next ?_
  intro h15 x15
  repeat' (first
   | with_reducible refine stp ?_
   | with_reducible refine k_blk_o rfl ?_
   | ((try (conv => arg 1; simp [hnil])); with_reducible refine evp ?_)
   | ((with_reducible refine apn ?na ?_); (case na => simp [appNames, ints, intss] <;> first | kernel_rfl | (refine ⟨?_, ?_⟩ <;> kernel_rfl)))
   | fail)
  refine k_seq_n ?_
  repeat' (first
   | with_reducible refine stp ?_
   | with_reducible refine k_blk_o rfl ?_
   | ((try (conv => arg 1; simp [hnil])); with_reducible refine evp ?_)
   | ((with_reducible refine apn ?na ?_); (case na => simp [appNames, ints, intss] <;> first | kernel_rfl | (refine ⟨?_, ?_⟩ <;> kernel_rfl)))
   | fail)
  repeat (with_reducible first | refine stp ?_ | refine k_seq_n ?_)
  refine st_draw 5 (fun _ => false) (by kernel_rfl) ?_
  simp only [List.take_succ_cons, List.take_zero, List.drop_succ_cons, List.drop_zero, List.take_nil, List.drop_nil]
  repeat' (first
   | with_reducible refine stp ?_
   | with_reducible refine k_blk_o rfl ?_
   | ((try (conv => arg 1; simp [x15.b1, x15.b3, x15.l1, x15.l3, qa3.1, qb3.1])); with_reducible refine evp ?_)
   | ((with_reducible refine apn ?na ?_); (case na => simp [appNames, ints, intss] <;> first | kernel_rfl | (refine ⟨?_, ?_⟩ <;> kernel_rfl)))
   | fail)
  refine treeW_pure (toGraph g hs_g).pure (.cons (dr_agg (drs_graphL g fun h => h)) .nil) ?_
  repeat' (first
   | with_reducible refine stp ?_
   | with_reducible refine k_blk_o rfl ?_
   | ((try (conv => arg 1; simp [x15.b1, x15.b3, x15.l1, x15.l3, qa3.1, qb3.1])); with_reducible refine evp ?_)
   | ((with_reducible refine apn ?na ?_); (case na => simp [appNames, ints, intss] <;> first | kernel_rfl | (refine ⟨?_, ?_⟩ <;> kernel_rfl)))
   | fail)
  refine treeW_pure (eqGraph g hs_g) (.cons ((x15.m2 true).dr) (.cons (dr_agg (drs_graphL g (by simp))) .nil)) ?_
  repeat' (first
   | with_reducible refine stp ?_
   | with_reducible refine k_blk_o rfl ?_
   | ((try (conv => arg 1; simp [x15.b1, x15.b3, x15.l1, x15.l3, qa3.1, qb3.1])); with_reducible refine evp ?_)
   | ((with_reducible refine apn ?na ?_); (case na => simp [appNames, ints, intss] <;> first | kernel_rfl | (refine ⟨?_, ?_⟩ <;> kernel_rfl)))
   | fail)
  refine cx_k x15.next ?_
  intro h16 x16
  repeat' (first
   | with_reducible refine stp ?_
   | with_reducible refine k_blk_o rfl ?_
   | ((try (conv => arg 1; simp [hnil])); with_reducible refine evp ?_)
   | ((with_reducible refine apn ?na ?_); (case na => simp [appNames, ints, intss] <;> first | kernel_rfl | (refine ⟨?_, ?_⟩ <;> kernel_rfl)))
   | fail)
  refine k_seq_n ?_
  repeat' (first
   | with_reducible refine stp ?_
   | with_reducible refine k_blk_o rfl ?_
   | ((try (conv => arg 1; simp [hnil])); with_reducible refine evp ?_)
   | ((with_reducible refine apn ?na ?_); (case na => simp [appNames, ints, intss] <;> first | kernel_rfl | (refine ⟨?_, ?_⟩ <;> kernel_rfl)))
   | fail)
  refine st_fresh rfl (toIntS aa hl_aa) (.cons (dr_ints (fun h => h) _) .nil) ?_
  intro v6 h17 n6 o6 e6 f6 p6 t6
  have x17 := x16.next.fresh o6 e6 f6 p6 t6
  have z17 : h16.tick < h17.tick := by simp only [hp_next_tick] at t6; omega
  repeat' (first
   | with_reducible refine stp ?_
   | with_reducible refine k_blk_o rfl ?_
   | ((try (conv => arg 1; simp [z17])); with_reducible refine evp ?_)
   | ((with_reducible refine apn ?na ?_); (case na => simp [appNames, ints, intss] <;> first | kernel_rfl | (refine ⟨?_, ?_⟩ <;> kernel_rfl)))
   | fail)
  refine st_tree rfl (eqIntS aa (by omega)) (.cons ((x17.o2 true).dr) (.cons ((x17.o0 true).dr) .nil)) ?_
  repeat' (first
   | with_reducible refine stp ?_
   | with_reducible refine k_blk_o rfl ?_
   | ((try (conv => arg 1; simp [z17])); with_reducible refine evp ?_)
   | ((with_reducible refine apn ?na ?_); (case na => simp [appNames, ints, intss] <;> first | kernel_rfl | (refine ⟨?_, ?_⟩ <;> kernel_rfl)))
   | fail)
  refine cx_k x17 ?_
  intro h18 x18
  repeat' (first
   | with_reducible refine stp ?_
   | with_reducible refine k_blk_o rfl ?_
   | ((try (conv => arg 1; simp [hnil])); with_reducible refine evp ?_)
   | ((with_reducible refine apn ?na ?_); (case na => simp [appNames, ints, intss] <;> first | kernel_rfl | (refine ⟨?_, ?_⟩ <;> kernel_rfl)))
   | fail)
  refine k_seq_n ?_
  repeat' (first
   | with_reducible refine stp ?_
   | with_reducible refine k_blk_o rfl ?_
   | ((try (conv => arg 1; simp [hnil])); with_reducible refine evp ?_)
   | ((with_reducible refine apn ?na ?_); (case na => simp [appNames, ints, intss] <;> first | kernel_rfl | (refine ⟨?_, ?_⟩ <;> kernel_rfl)))
   | fail)
  refine cx_k x18.next ?_
  intro h19 x19
  repeat' (first
   | with_reducible refine stp ?_
   | with_reducible refine k_blk_o rfl ?_
   | ((try (conv => arg 1; simp [x19.b1, qa3.1, qb3.1])); with_reducible refine evp ?_)
   | ((with_reducible refine apn ?na ?_); (case na => simp [appNames, ints, intss] <;> first | kernel_rfl | (refine ⟨?_, ?_⟩ <;> kernel_rfl)))
   | fail)
  have y1 := x19.next.rot3
  refine st_heap rfl (markGraph y1 hs_g (1) (by omega) (by omega)) ?_
  rintro r h20 ⟨rfl, yy1⟩
  have x20 := yy1.drop
  repeat' (first
   | with_reducible refine stp ?_
   | with_reducible refine k_blk_o rfl ?_
   | ((try (conv => arg 1; simp [x20.b1, qa3.1, qb3.1])); with_reducible refine evp ?_)
   | ((with_reducible refine apn ?na ?_); (case na => simp [appNames, ints, intss] <;> first | kernel_rfl | (refine ⟨?_, ?_⟩ <;> kernel_rfl)))
   | fail)
  refine cx_k x20 ?_
  intro h21 x21
  repeat' (first
   | with_reducible refine stp ?_
   | with_reducible refine k_blk_o rfl ?_
   | ((try (conv => arg 1; simp [hnil])); with_reducible refine evp ?_)
   | ((with_reducible refine apn ?na ?_); (case na => simp [appNames, ints, intss] <;> first | kernel_rfl | (refine ⟨?_, ?_⟩ <;> kernel_rfl)))
   | fail)
  have y2 := x21.next.rot2
  refine st_heap rfl (markIntS (own_of (y2.o0 true) rfl) y2.lts (1 + (g.tot : Int)) (by omega) (by omega)) ?_
  rintro r h22 ⟨rfl, _, pk2, tk2⟩
  have x22 := y2.forget (fun n a _ => pk2 n a) tk2
  repeat' (first
   | with_reducible refine stp ?_
   | with_reducible refine k_blk_o rfl ?_
   | ((try (conv => arg 1; simp [hnil])); with_reducible refine evp ?_)
   | ((with_reducible refine apn ?na ?_); (case na => simp [appNames, ints, intss] <;> first | kernel_rfl | (refine ⟨?_, ?_⟩ <;> kernel_rfl)))
   | fail)
  refine cx_k x22 ?_
  intro h23 x23
  have hkneg : ¬ 1 + (g.tot : Int) + (aa.length : Int) < 0 := by omega
  repeat' (first
   | with_reducible refine stp ?_
   | with_reducible refine k_blk_o rfl ?_
   | ((try (conv => arg 1; simp [x23.b0, x23.b2, qa5.1, qb5.1, hkneg])); with_reducible refine evp ?_)
   | ((with_reducible refine apn ?na ?_); (case na => simp [appNames, ints, intss] <;> first | kernel_rfl | (refine ⟨?_, ?_⟩ <;> kernel_rfl)))
   | fail)
  refine st_tree rfl (eqGraph R hr) (.cons ((x23.next.o1 true).dr) (.cons (dr_agg (drs_graphL R (by simp))) .nil)) ?_
  repeat' (first
   | with_reducible refine stp ?_
   | with_reducible refine k_blk_o rfl ?_
   | ((try (conv => arg 1; simp [x23.b0, x23.b2, qa5.1, qb5.1, hkneg])); with_reducible refine evp ?_)
   | ((with_reducible refine apn ?na ?_); (case na => simp [appNames, ints, intss] <;> first | kernel_rfl | (refine ⟨?_, ?_⟩ <;> kernel_rfl)))
   | fail)
  refine cx_k x23.next ?_
  intro h24 x24
  repeat' (first
   | with_reducible refine stp ?_
   | with_reducible refine k_blk_o rfl ?_
   | ((try (conv => arg 1; simp [hkneg])); with_reducible refine evp ?_)
   | ((with_reducible refine apn ?na ?_); (case na => simp [appNames, ints, intss] <;> first | kernel_rfl | (refine ⟨?_, ?_⟩ <;> kernel_rfl)))
   | fail)
  refine k_seq_n ?_
  repeat' (first
   | with_reducible refine stp ?_
   | with_reducible refine k_blk_o rfl ?_
   | ((try (conv => arg 1; simp [hkneg])); with_reducible refine evp ?_)
   | ((with_reducible refine apn ?na ?_); (case na => simp [appNames, ints, intss] <;> first | kernel_rfl | (refine ⟨?_, ?_⟩ <;> kernel_rfl)))
   | fail)
  refine cx_k x24.next ?_
  intro h25 x25
  repeat' (first
   | with_reducible refine stp ?_
   | with_reducible refine k_blk_o rfl ?_
   | ((try (conv => arg 1; simp [x25.b0, qa5.1, qb5.1, hkneg])); with_reducible refine evp ?_)
   | ((with_reducible refine apn ?na ?_); (case na => simp [appNames, ints, intss] <;> first | kernel_rfl | (refine ⟨?_, ?_⟩ <;> kernel_rfl)))
   | fail)
  have y3 := x25.next.rot1
  refine st_heap rfl (markGraph y3 hr 1 (by omega) (by omega)) ?_
  rintro r h26 ⟨rfl, x26⟩
  have hgneg : ¬ 1 + (R.tot : Int) < 0 := by omega
  repeat' (first
   | with_reducible refine stp ?_
   | with_reducible refine k_blk_o rfl ?_
   | ((try (conv => arg 1; simp [x26.b0, qa5.1, qb5.1, hkneg, hgneg])); with_reducible refine evp ?_)
   | ((with_reducible refine apn ?na ?_); (case na => simp [appNames, ints, intss] <;> first | kernel_rfl | (refine ⟨?_, ?_⟩ <;> kernel_rfl)))
   | fail)
  refine cx_k x26 ?_
  intro h27 x27
  repeat' (first
   | with_reducible refine stp ?_
   | with_reducible refine k_blk_o rfl ?_
   | ((try (conv => arg 1; simp [hkneg, hgneg])); with_reducible refine evp ?_)
   | ((with_reducible refine apn ?na ?_); (case na => simp [appNames, ints, intss] <;> first | kernel_rfl | (refine ⟨?_, ?_⟩ <;> kernel_rfl)))
   | fail)
  refine cx_k x27.next ?_
  intro h28 x28
  repeat' (first
   | with_reducible refine stp ?_
   | with_reducible refine k_blk_o rfl ?_
   | ((try (conv => arg 1; simp [x28.b0, qa5.1, qb5.1, hkneg, hgneg])); with_reducible refine evp ?_)
   | ((with_reducible refine apn ?na ?_); (case na => simp [appNames, ints, intss] <;> first | kernel_rfl | (refine ⟨?_, ?_⟩ <;> kernel_rfl)))
   | fail)
  refine st_tree rfl (heldGraph R hr 1 (by omega) (by omega)) (.cons ((x28.next.o0 true).dr) (.cons (.int _ _) .nil)) ?_
  repeat' (first
   | with_reducible refine stp ?_
   | with_reducible refine k_blk_o rfl ?_
   | ((try (conv => arg 1; simp [x28.b0, qa5.1, qb5.1, hkneg, hgneg])); with_reducible refine evp ?_)
   | ((with_reducible refine apn ?na ?_); (case na => simp [appNames, ints, intss] <;> first | kernel_rfl | (refine ⟨?_, ?_⟩ <;> kernel_rfl)))
   | fail)
  refine cx_k x28.next ?_
  intro h29 x29
  repeat' (first
   | with_reducible refine stp ?_
   | with_reducible refine k_blk_o rfl ?_
   | ((try (conv => arg 1; simp [hkneg, hgneg])); with_reducible refine evp ?_)
   | ((with_reducible refine apn ?na ?_); (case na => simp [appNames, ints, intss] <;> first | kernel_rfl | (refine ⟨?_, ?_⟩ <;> kernel_rfl)))
   | fail)
  refine cx_k x29.next ?_
  intro h30 x30
  repeat' (first
   | with_reducible refine stp ?_
   | with_reducible refine k_blk_o rfl ?_
   | ((try (conv => arg 1; simp [hkneg, hgneg])); with_reducible refine evp ?_)
   | ((with_reducible refine apn ?na ?_); (case na => simp [appNames, ints, intss] <;> first | kernel_rfl | (refine ⟨?_, ?_⟩ <;> kernel_rfl)))
   | fail)
  refine k_seq_n ?_
  repeat' (first
   | with_reducible refine stp ?_
   | with_reducible refine k_blk_o rfl ?_
   | ((try (conv => arg 1; simp [hkneg, hgneg])); with_reducible refine evp ?_)
   | ((with_reducible refine apn ?na ?_); (case na => simp [appNames, ints, intss] <;> first | kernel_rfl | (refine ⟨?_, ?_⟩ <;> kernel_rfl)))
   | fail)
  refine cx_k x30.next ?_
  intro h31 x31
  repeat' (first
   | with_reducible refine stp ?_
   | with_reducible refine k_blk_o rfl ?_
   | ((try (conv => arg 1; simp [hkneg, hgneg])); with_reducible refine evp ?_)
   | ((with_reducible refine apn ?na ?_); (case na => simp [appNames, ints, intss] <;> first | kernel_rfl | (refine ⟨?_, ?_⟩ <;> kernel_rfl)))
   | fail)
  refine k_seq_n ?_
  repeat' (first
   | with_reducible refine stp ?_
   | with_reducible refine k_blk_o rfl ?_
   | ((try (conv => arg 1; simp [x31.b3, hkneg, hgneg])); with_reducible refine evp ?_)
   | ((with_reducible refine apn ?na ?_); (case na => simp [appNames, ints, intss] <;> first | kernel_rfl | (refine ⟨?_, ?_⟩ <;> kernel_rfl)))
   | fail)
  refine st_freshw rfl (toGraph g hs_g) (.cons (dr_agg (drs_graphL g fun h => h)) .nil) ?_
  intro v7 h32 n7 o7 e7 f7 p7 t7
  have x32 := x31.next.fresh o7 e7 f7 p7 t7
  have z32 : h31.tick < h32.tick := by simp only [hp_next_tick] at t7; omega
  obtain ⟨wa7, wb7, _, _, rfl, _, qa7, qb7⟩ := ownV_graph (o7 true)
  have qa7 := own_one qa7
  have qb7 := own_one' qb7
  repeat' (first
   | with_reducible refine stp ?_
   | with_reducible refine k_blk_o rfl ?_
   | ((try (conv => arg 1; simp [x32.b3, z32, qa7.1, qb7.1, hkneg, hgneg])); with_reducible refine evp ?_)
   | ((with_reducible refine apn ?na ?_); (case na => simp [appNames, ints, intss] <;> first | kernel_rfl | (refine ⟨?_, ?_⟩ <;> kernel_rfl)))
   | fail)
  refine st_fresh rfl (toIntS aa hl_aa) (.cons (dr_ints (fun h => h) _) .nil) ?_
  intro v8 h33 n8 o8 e8 f8 p8 t8
  have x33 := x32.fresh o8 e8 f8 p8 t8
  have z33 : h31.tick < h33.tick := by omega
  repeat' (first
   | with_reducible refine stp ?_
   | with_reducible refine k_blk_o rfl ?_
   | ((try (conv => arg 1; simp [x33.b3, z33, hkneg, hgneg])); with_reducible refine evp ?_)
   | ((with_reducible refine apn ?na ?_); (case na => simp [appNames, ints, intss] <;> first | kernel_rfl | (refine ⟨?_, ?_⟩ <;> kernel_rfl)))
   | fail)
  refine st_freshw rfl I (.cons ((x33.o1 true).dr) (.cons ((x33.o0 true).dr) .nil)) ?_
  intro v9 h34 n9 o9 e9 f9 p9 t9
  have x34 := x33.fresh o9 e9 f9 p9 t9
  have z34 : h31.tick < h34.tick := by omega
  obtain ⟨wa9, wb9, _, _, rfl, _, qa9, qb9⟩ := ownV_graph (o9 true)
  have qa9 := own_one qa9
  have qb9 := own_one' qb9
  repeat' (first
   | with_reducible refine stp ?_
   | with_reducible refine k_blk_o rfl ?_
   | ((try (conv => arg 1; simp [x34.b3, z34, qa9.1, qb9.1, hkneg, hgneg])); with_reducible refine evp ?_)
   | ((with_reducible refine apn ?na ?_); (case na => simp [appNames, ints, intss] <;> first | kernel_rfl | (refine ⟨?_, ?_⟩ <;> kernel_rfl)))
   | fail)
  refine cx_k (x34.box_new (((x31.off.fresh f7 (by simp [hp_next_tick])).fresh f8 z32).fresh f9 z33) z34) ?_
  intro h35 x35
  repeat' (first
   | with_reducible refine stp ?_
   | with_reducible refine k_blk_o rfl ?_
   | ((try (conv => arg 1; simp [x35.b0, x35.b3, qa9.1, qb9.1, hkneg, hgneg])); with_reducible refine evp ?_)
   | ((with_reducible refine apn ?na ?_); (case na => simp [appNames, ints, intss] <;> first | kernel_rfl | (refine ⟨?_, ?_⟩ <;> kernel_rfl)))
   | fail)
  refine st_tree rfl (eqGraph R hr) (.cons ((x35.next.o0 true).dr) (.cons (dr_agg (drs_graphL R (by simp))) .nil)) ?_
  repeat' (first
   | with_reducible refine stp ?_
   | with_reducible refine k_blk_o rfl ?_
   | ((try (conv => arg 1; simp [x35.b0, x35.b3, qa9.1, qb9.1, hkneg, hgneg])); with_reducible refine evp ?_)
   | ((with_reducible refine apn ?na ?_); (case na => simp [appNames, ints, intss] <;> first | kernel_rfl | (refine ⟨?_, ?_⟩ <;> kernel_rfl)))
   | fail)
  refine cx_k x35.next ?_
  intro h36 x36
  repeat' (first
   | with_reducible refine stp ?_
   | with_reducible refine k_blk_o rfl ?_
   | ((try (conv => arg 1; simp [hkneg, hgneg])); with_reducible refine evp ?_)
   | ((with_reducible refine apn ?na ?_); (case na => simp [appNames, ints, intss] <;> first | kernel_rfl | (refine ⟨?_, ?_⟩ <;> kernel_rfl)))
   | fail)
  refine k_seq_n ?_
  repeat' (first
   | with_reducible refine stp ?_
   | with_reducible refine k_blk_o rfl ?_
   | ((try (conv => arg 1; simp [hkneg, hgneg])); with_reducible refine evp ?_)
   | ((with_reducible refine apn ?na ?_); (case na => simp [appNames, ints, intss] <;> first | kernel_rfl | (refine ⟨?_, ?_⟩ <;> kernel_rfl)))
   | fail)
  refine cx_k x36.next ?_
  intro h37 x37
  repeat' (first
   | with_reducible refine stp ?_
   | with_reducible refine k_blk_o rfl ?_
   | ((try (conv => arg 1; simp [x37.b1, qa5.1, qb5.1, hkneg, hgneg])); with_reducible refine evp ?_)
   | ((with_reducible refine apn ?na ?_); (case na => simp [appNames, ints, intss] <;> first | kernel_rfl | (refine ⟨?_, ?_⟩ <;> kernel_rfl)))
   | fail)
  refine st_tree rfl (heldGraph R hr 1 (by omega) (by omega)) (.cons ((x37.next.o3 true).dr) (.cons (.int _ _) .nil)) ?_
  repeat' (first
   | with_reducible refine stp ?_
   | with_reducible refine k_blk_o rfl ?_
   | ((try (conv => arg 1; simp [x37.b1, qa5.1, qb5.1, hkneg, hgneg])); with_reducible refine evp ?_)
   | ((with_reducible refine apn ?na ?_); (case na => simp [appNames, ints, intss] <;> first | kernel_rfl | (refine ⟨?_, ?_⟩ <;> kernel_rfl)))
   | fail)
  refine cx_k x37.next ?_
  intro h38 x38
  repeat' (first
   | with_reducible refine stp ?_
   | with_reducible refine k_blk_o rfl ?_
   | ((try (conv => arg 1; simp [hkneg, hgneg])); with_reducible refine evp ?_)
   | ((with_reducible refine apn ?na ?_); (case na => simp [appNames, ints, intss] <;> first | kernel_rfl | (refine ⟨?_, ?_⟩ <;> kernel_rfl)))
   | fail)
  refine cx_k x38.next ?_
  intro h39 x39
  repeat' (first
   | with_reducible refine stp ?_
   | with_reducible refine k_blk_o rfl ?_
   | ((try (conv => arg 1; simp [hkneg, hgneg])); with_reducible refine evp ?_)
   | ((with_reducible refine apn ?na ?_); (case na => simp [appNames, ints, intss] <;> first | kernel_rfl | (refine ⟨?_, ?_⟩ <;> kernel_rfl)))
   | fail)
  refine k_seq_n ?_
  repeat' (first
   | with_reducible refine stp ?_
   | with_reducible refine k_blk_o rfl ?_
   | ((try (conv => arg 1; simp [hkneg, hgneg])); with_reducible refine evp ?_)
   | ((with_reducible refine apn ?na ?_); (case na => simp [appNames, ints, intss] <;> first | kernel_rfl | (refine ⟨?_, ?_⟩ <;> kernel_rfl)))
   | fail)
  refine cx_k x39.next ?_
  intro h40 x40
  repeat' (first
   | with_reducible refine stp ?_
   | with_reducible refine k_blk_o rfl ?_
   | ((try (conv => arg 1; simp [hkneg, hgneg])); with_reducible refine evp ?_)
   | ((with_reducible refine apn ?na ?_); (case na => simp [appNames, ints, intss] <;> first | kernel_rfl | (refine ⟨?_, ?_⟩ <;> kernel_rfl)))
   | fail)
  refine k_seq_n ?_
  repeat' (first
   | with_reducible refine stp ?_
   | with_reducible refine k_blk_o rfl ?_
   | with_reducible refine k_seq_n ?_
   | ((try (conv => arg 1; simp [hkneg, hgneg])); with_reducible refine evp ?_)
   | ((with_reducible refine apn ?na ?_); (case na => simp [appNames, ints, intss] <;> first | kernel_rfl | (refine ⟨?_, ?_⟩ <;> kernel_rfl)))
   | fail)
  rfl
end Go.Proofs.Ytlmlkkkgcbpaoaa.AM


namespace Go.Proofs.Ytlmlkkkgcbpaoaa.fnExactReorder
open Go.ChangeShapes Go.WideShapes Go.ChangeAt Go.RowKit
set_option linter.unusedVariables false
theorem own : ownKnob Try.prog.godebug = none := by kernel_rfl

theorem sound (l : List AM.AV) (h : AM.ShpAll Try.prog [25, 22] l) : AM.Sound Try.prog 10 l (.mt 0) fun v _ => v = .bool true := by
  obtain ⟨cells0, l0, g0, e0, k0⟩ := AM.shpAll_cons h
  obtain ⟨cells1, l1, g1, e1, k1⟩ := AM.shpAll_cons k0
  have e' := AM.shpAll_nil k1
  subst e' e1 e0
  obtain ⟨a0, rfl, d0⟩ := AM.shp_graph g0
  obtain ⟨a1, rfl, d1, _⟩ := g1.ints_inv AM.und_22 AM.und_3
  rw [AM.agg_graph, AM.av22]
  exact AM.lawReorder a0 a1 d0 d1

set_option maxRecDepth 100000 in
theorem lifted (os : Os) (started : os.Started) (H : Type) (enc : TypeId × Value → H) :
    ReturnsInHanded {} Try.checked os 10 .any (Rows.fnExactReorderSpec.pre6 enc Try.prog Try.f10 Rows.fnExactReorderRow.domain false) (Rows.fnExactReorderSpec.post enc Try.prog Try.f10 false true false false) := by
  refine returnsInHanded_of_change_sized (C := Try.checked) own started (by kernel_rfl) Try.func10
    (ChangeSpec.witness6 (enc := enc) (C := Try.checked) false ⟨#[], #[.agg #[.slice none 0 0, .int .i64 0, .int .i64 0, .int .i64 0, .slice none 0 0], .slice none 0 0], []⟩ 8 (by kernel_rfl) (by kernel_rfl) (by kernel_rfl) (by kernel_rfl)) ?_
  intro W base args ds gs before hval0 hW hcnd hsz0 _
  have hval : ∀ (j : Nat) t v, Try.f10.params[j]? = some t → args[j]? = some v → Value.okWide Try.prog W .any base t v := hval0
  have hW' := hW
  obtain ⟨p, q, hA0, hV, rfl, hfz, hnd⟩ := hW
  have hA : DataW.TrodAll enc Try.prog W 0 (fun _ => true) true Try.f10.params.toList args.toList ds p := hA0
  rw [Try.params10] at hA hval
  obtain ⟨v0, vs0, d0, ds0, p0, q0, hargs, rfl, rfl, h0, r0⟩ := trodAll_cons hA
  obtain ⟨v1, vs1, d1, ds1, p1, q1, rfl, rfl, rfl, h1, r1⟩ := trodAll_cons r0
  obtain ⟨rfl, rfl, rfl⟩ := trodAll_nil r1
  obtain rfl : args = #[v0, v1] := by cases args; simp_all
  obtain ⟨rfl, rfl⟩ := trodVars_none hV
  clear hA0 hval0 hsz0
  refine (AM.law_calls (params := [25, 22]) (ts := [25, 3, 22, 23, 80, 78, 156, 9]) sound (by kernel_rfl) (by simp) (args := #[v0, v1]) (fun j t v a b => hval j t v (by simpa using a) b) hA).mono fun e W' ⟨he, bel⟩ => ?_
  subst he
  exact ⟨_, rfl, _, _, _, [], _, [], hW', trodAll_mk1 (shut_bool Try.underlying4 _), AM.back_all AM.laid bel _ _ _ _ (by kernel_rfl) hA, rfl, bel.frame _, fun h => by cases h⟩
theorem over : Rows.fnExactReorderRow.holds Try.pinned (OpenSpec.ofChange Rows.fnExactReorderSpec) :=
  OpenClaim.holds_of_wide 10 Try.f10 rfl rfl rfl rfl rfl rfl rfl ⟨rfl, rfl, rfl, rfl, rfl⟩ rfl rfl rfl rfl rfl (by kernel_rfl) Try.func10 (by kernel_rfl)
    (of_decide_eq_true (by kernel_rfl)) (by unfold Func.isWrapper; first | (rw [if_pos (by decide +kernel)]; kernel_rfl) | (rw [if_neg (by decide +kernel)]; exact ⟨rfl, rfl⟩))
    (fun os started H enc _ => lifted os started H enc)
theorem proved : Rows.FnExactReorderSaid := over
end Go.Proofs.Ytlmlkkkgcbpaoaa.fnExactReorder
namespace Go.Proofs.Ytlmlkkkgcbpaoaa
theorem fnExactReorder_holds : Rows.FnExactReorderSaid := fnExactReorder.proved
end Go.Proofs.Ytlmlkkkgcbpaoaa
