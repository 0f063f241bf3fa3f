/-
  FnExactOrderOk: for every argument, the law returns true, and the arguments read behind the call as they read before.
  Conditions: none beyond the given statement's own.
-/
import Derived.Test.YtlmlkkkgcbpaoaaKk3
import Derived.Shelf.Slices.In.SortAlone
import Derived.Lib.SortBridge
import Derived.WalkKit
import Derived.ProofKit
import Derived.OpenShut
import Derived.ShutString
import Derived.ChangeOld
import Derived.Below
import Derived.SizedLaws
/-
  Places: words, symbols.
-/
set_option linter.unusedVariables false
set_option linter.unusedSimpArgs false
set_option maxRecDepth 4000
namespace Go.Proofs.Ytlmlkkkgcbpaoaa.AM
open Go.RowKit

private def MG32 : FuncId → Mode := fun f => .tree

theorem isT_t {op : ByteArray} {k : List UInt8} (h : isT op k = true) : op.toList = k := by simpa [isT] using h
theorem isT_f {op : ByteArray} {k : List UInt8} (h : ¬ isT op k = true) : (op.toList == k) = false := by simpa [isT] using h

theorem specBin (op : ByteArray) (a b : Int) : Pure Try.prog 142 [.str op, .int .i64 a, .int .i64 b] (.int .i64 (binV op a b)) := by
  intro T
  refine enter mixed MG32 Try.func142 rfl (by kernel_rfl) rfl ?_
  by_cases h1 : isT op [43] = true
  · have e1 := isT_t h1
    repeat' (first
     | with_reducible refine stp ?_
     | with_reducible refine k_blk_o rfl ?_
     | with_reducible refine k_seq_n ?_
     | ((try (conv => arg 1; simp [e1])); with_reducible refine evp ?_)
     | ((with_reducible refine apn ?na ?_); (case na => simp [appNames, ints, intss] <;> first | kernel_rfl | (refine ⟨?_, ?_⟩ <;> kernel_rfl)))
     | fail)
    exact dr_int (by simp [binV, h1, w64])
  have e1 := isT_f h1
  by_cases h2 : isT op [45] = true
  · have e2 := isT_t h2
    repeat' (first
     | with_reducible refine stp ?_
     | with_reducible refine k_blk_o rfl ?_
     | with_reducible refine k_seq_n ?_
     | ((try (conv => arg 1; simp [e1, e2])); with_reducible refine evp ?_)
     | ((with_reducible refine apn ?na ?_); (case na => simp [appNames, ints, intss] <;> first | kernel_rfl | (refine ⟨?_, ?_⟩ <;> kernel_rfl)))
     | fail)
    exact dr_int (by simp [binV, h1, h2, w64])
  have e2 := isT_f h2
  by_cases h3 : isT op [42] = true
  · have e3 := isT_t h3
    repeat' (first
     | with_reducible refine stp ?_
     | with_reducible refine k_blk_o rfl ?_
     | with_reducible refine k_seq_n ?_
     | ((try (conv => arg 1; simp [e1, e2, e3])); with_reducible refine evp ?_)
     | ((with_reducible refine apn ?na ?_); (case na => simp [appNames, ints, intss] <;> first | kernel_rfl | (refine ⟨?_, ?_⟩ <;> kernel_rfl)))
     | fail)
    exact dr_int (by simp [binV, h1, h2, h3, w64])
  have e3 := isT_f h3
  by_cases h4 : isT op [38] = true
  · have e4 := isT_t h4
    repeat' (first
     | with_reducible refine stp ?_
     | with_reducible refine k_blk_o rfl ?_
     | with_reducible refine k_seq_n ?_
     | ((try (conv => arg 1; simp [e1, e2, e3, e4])); with_reducible refine evp ?_)
     | ((with_reducible refine apn ?na ?_); (case na => simp [appNames, ints, intss] <;> first | kernel_rfl | (refine ⟨?_, ?_⟩ <;> kernel_rfl)))
     | fail)
    exact dr_int (by simp [binV, h1, h2, h3, h4, w64])
  have e4 := isT_f h4
  by_cases h5 : isT op [61, 61] = true
  · have e5 := isT_t h5
    by_cases hab : a = b
    · skip
      repeat' (first
       | with_reducible refine stp ?_
       | with_reducible refine k_blk_o rfl ?_
       | with_reducible refine k_seq_n ?_
       | ((try (conv => arg 1; simp [e1, e2, e3, e4, e5, hab])); with_reducible refine evp ?_)
       | ((with_reducible refine apn ?na ?_); (case na => simp [appNames, ints, intss] <;> first | kernel_rfl | (refine ⟨?_, ?_⟩ <;> kernel_rfl)))
       | fail)
      exact dr_int (by simp [binV, h1, h2, h3, h4, h5, hab])
    · skip
      repeat' (first
       | with_reducible refine stp ?_
       | with_reducible refine k_blk_o rfl ?_
       | with_reducible refine k_seq_n ?_
       | ((try (conv => arg 1; simp [e1, e2, e3, e4, e5, hab])); with_reducible refine evp ?_)
       | ((with_reducible refine apn ?na ?_); (case na => simp [appNames, ints, intss] <;> first | kernel_rfl | (refine ⟨?_, ?_⟩ <;> kernel_rfl)))
       | fail)
      exact dr_int (by simp [binV, h1, h2, h3, h4, h5, hab])
  have e5 := isT_f h5
  by_cases h6 : isT op [60] = true
  · have e6 := isT_t h6
    by_cases hab : a < b
    · skip
      repeat' (first
       | with_reducible refine stp ?_
       | with_reducible refine k_blk_o rfl ?_
       | with_reducible refine k_seq_n ?_
       | ((try (conv => arg 1; simp [e1, e2, e3, e4, e5, e6, hab])); with_reducible refine evp ?_)
       | ((with_reducible refine apn ?na ?_); (case na => simp [appNames, ints, intss] <;> first | kernel_rfl | (refine ⟨?_, ?_⟩ <;> kernel_rfl)))
       | fail)
      exact dr_int (by simp [binV, h1, h2, h3, h4, h5, h6, hab])
    · skip
      repeat' (first
       | with_reducible refine stp ?_
       | with_reducible refine k_blk_o rfl ?_
       | with_reducible refine k_seq_n ?_
       | ((try (conv => arg 1; simp [e1, e2, e3, e4, e5, e6, hab])); with_reducible refine evp ?_)
       | ((with_reducible refine apn ?na ?_); (case na => simp [appNames, ints, intss] <;> first | kernel_rfl | (refine ⟨?_, ?_⟩ <;> kernel_rfl)))
       | fail)
      exact dr_int (by simp [binV, h1, h2, h3, h4, h5, h6, hab])
  have e6 := isT_f h6
  repeat' (first
   | with_reducible refine stp ?_
   | with_reducible refine k_blk_o rfl ?_
   | with_reducible refine k_seq_n ?_
   | ((try (conv => arg 1; simp [e1, e2, e3, e4, e5, e6])); with_reducible refine evp ?_)
   | ((with_reducible refine apn ?na ?_); (case na => simp [appNames, ints, intss] <;> first | kernel_rfl | (refine ⟨?_, ?_⟩ <;> kernel_rfl)))
   | fail)
  exact dr_int (by simp [binV, h1, h2, h3, h4, h5, h6])
theorem implBin (op : ByteArray) (a b : Int) : Pure Try.prog 145 [.str op, .int .i64 a, .int .i64 b] (.int .i64 (binV op a b)) := by
  intro T
  refine enter mixed MG32 Try.func145 rfl (by kernel_rfl) rfl ?_
  by_cases h1 : isT op [43] = true
  · have e1 := isT_t h1
    repeat' (first
     | with_reducible refine stp ?_
     | with_reducible refine k_blk_o rfl ?_
     | with_reducible refine k_seq_n ?_
     | ((try (conv => arg 1; simp [e1])); with_reducible refine evp ?_)
     | ((with_reducible refine apn ?na ?_); (case na => simp [appNames, ints, intss] <;> first | kernel_rfl | (refine ⟨?_, ?_⟩ <;> kernel_rfl)))
     | fail)
    exact dr_int (by simp [binV, h1, w64])
  have e1 := isT_f h1
  by_cases h2 : isT op [45] = true
  · have e2 := isT_t h2
    repeat' (first
     | with_reducible refine stp ?_
     | with_reducible refine k_blk_o rfl ?_
     | with_reducible refine k_seq_n ?_
     | ((try (conv => arg 1; simp [e1, e2])); with_reducible refine evp ?_)
     | ((with_reducible refine apn ?na ?_); (case na => simp [appNames, ints, intss] <;> first | kernel_rfl | (refine ⟨?_, ?_⟩ <;> kernel_rfl)))
     | fail)
    exact dr_int (by simp [binV, h1, h2, w64])
  have e2 := isT_f h2
  by_cases h3 : isT op [42] = true
  · have e3 := isT_t h3
    repeat' (first
     | with_reducible refine stp ?_
     | with_reducible refine k_blk_o rfl ?_
     | with_reducible refine k_seq_n ?_
     | ((try (conv => arg 1; simp [e1, e2, e3])); with_reducible refine evp ?_)
     | ((with_reducible refine apn ?na ?_); (case na => simp [appNames, ints, intss] <;> first | kernel_rfl | (refine ⟨?_, ?_⟩ <;> kernel_rfl)))
     | fail)
    exact dr_int (by simp [binV, h1, h2, h3, w64])
  have e3 := isT_f h3
  by_cases h4 : isT op [38] = true
  · have e4 := isT_t h4
    repeat' (first
     | with_reducible refine stp ?_
     | with_reducible refine k_blk_o rfl ?_
     | with_reducible refine k_seq_n ?_
     | ((try (conv => arg 1; simp [e1, e2, e3, e4])); with_reducible refine evp ?_)
     | ((with_reducible refine apn ?na ?_); (case na => simp [appNames, ints, intss] <;> first | kernel_rfl | (refine ⟨?_, ?_⟩ <;> kernel_rfl)))
     | fail)
    exact dr_int (by simp [binV, h1, h2, h3, h4, w64])
  have e4 := isT_f h4
  by_cases h5 : isT op [61, 61] = true
  · have e5 := isT_t h5
    by_cases hab : a = b
    · skip
      repeat' (first
       | with_reducible refine stp ?_
       | with_reducible refine k_blk_o rfl ?_
       | with_reducible refine k_seq_n ?_
       | ((try (conv => arg 1; simp [e1, e2, e3, e4, e5, hab])); with_reducible refine evp ?_)
       | ((with_reducible refine apn ?na ?_); (case na => simp [appNames, ints, intss] <;> first | kernel_rfl | (refine ⟨?_, ?_⟩ <;> kernel_rfl)))
       | fail)
      exact dr_int (by simp [binV, h1, h2, h3, h4, h5, hab])
    · skip
      repeat' (first
       | with_reducible refine stp ?_
       | with_reducible refine k_blk_o rfl ?_
       | with_reducible refine k_seq_n ?_
       | ((try (conv => arg 1; simp [e1, e2, e3, e4, e5, hab])); with_reducible refine evp ?_)
       | ((with_reducible refine apn ?na ?_); (case na => simp [appNames, ints, intss] <;> first | kernel_rfl | (refine ⟨?_, ?_⟩ <;> kernel_rfl)))
       | fail)
      exact dr_int (by simp [binV, h1, h2, h3, h4, h5, hab])
  have e5 := isT_f h5
  by_cases h6 : isT op [60] = true
  · have e6 := isT_t h6
    by_cases hab : a < b
    · skip
      repeat' (first
       | with_reducible refine stp ?_
       | with_reducible refine k_blk_o rfl ?_
       | with_reducible refine k_seq_n ?_
       | ((try (conv => arg 1; simp [e1, e2, e3, e4, e5, e6, hab])); with_reducible refine evp ?_)
       | ((with_reducible refine apn ?na ?_); (case na => simp [appNames, ints, intss] <;> first | kernel_rfl | (refine ⟨?_, ?_⟩ <;> kernel_rfl)))
       | fail)
      exact dr_int (by simp [binV, h1, h2, h3, h4, h5, h6, hab])
    · skip
      repeat' (first
       | with_reducible refine stp ?_
       | with_reducible refine k_blk_o rfl ?_
       | with_reducible refine k_seq_n ?_
       | ((try (conv => arg 1; simp [e1, e2, e3, e4, e5, e6, hab])); with_reducible refine evp ?_)
       | ((with_reducible refine apn ?na ?_); (case na => simp [appNames, ints, intss] <;> first | kernel_rfl | (refine ⟨?_, ?_⟩ <;> kernel_rfl)))
       | fail)
      exact dr_int (by simp [binV, h1, h2, h3, h4, h5, h6, hab])
  have e6 := isT_f h6
  repeat' (first
   | with_reducible refine stp ?_
   | with_reducible refine k_blk_o rfl ?_
   | with_reducible refine k_seq_n ?_
   | ((try (conv => arg 1; simp [e1, e2, e3, e4, e5, e6])); with_reducible refine evp ?_)
   | ((with_reducible refine apn ?na ?_); (case na => simp [appNames, ints, intss] <;> first | kernel_rfl | (refine ⟨?_, ?_⟩ <;> kernel_rfl)))
   | fail)
  exact dr_int (by simp [binV, h1, h2, h3, h4, h5, h6])
theorem l06Bin (op : ByteArray) (a b : PV) : Pure Try.prog 127 [.str op, .agg a.cells, .agg b.cells] (.tup [.agg ((bin2 op a b).getD ⟨0, 0⟩).cells, .bool (bin2 op a b).isSome]) := by
  intro T
  have B := specBin op a.off b.off
  refine enter mixed MG32 Try.func127 rfl (by kernel_rfl) rfl ?_
  by_cases ha : a.base = -1
  · by_cases hb : b.base = -1
    · skip
      repeat' (first
       | with_reducible refine stp ?_
       | with_reducible refine k_blk_o rfl ?_
       | with_reducible refine k_seq_n ?_
       | ((try (conv => arg 1; simp [PV.cells, ha, hb])); with_reducible refine evp ?_)
       | ((with_reducible refine apn ?na ?_); (case na => simp [appNames, ints, intss] <;> first | kernel_rfl | (refine ⟨?_, ?_⟩ <;> kernel_rfl)))
       | ((with_reducible refine tcl ?_); first | ((apply tg (B)); (case e => rfl); (case d => (refine dq ?_); (repeat' (first | ((refine Da.mk ?_); first | assumption) | constructor)))))
       | fail)
      rw [show bin2 op a b = some ⟨-1, binV op a.off b.off⟩ by simp [bin2, ha, hb]]
      exact dr_tup2 (dr_agg (drs_pv _)) (.bool _)
    · by_cases h1 : isT op [43] = true
      · have e1 := isT_t h1
        repeat' (first
         | with_reducible refine stp ?_
         | with_reducible refine k_blk_o rfl ?_
         | with_reducible refine k_seq_n ?_
         | ((try (conv => arg 1; simp [PV.cells, ha, hb, e1])); with_reducible refine evp ?_)
         | ((with_reducible refine apn ?na ?_); (case na => simp [appNames, ints, intss] <;> first | kernel_rfl | (refine ⟨?_, ?_⟩ <;> kernel_rfl)))
         | fail)
        rw [show bin2 op a b = some ⟨b.base, w64 (a.off + b.off)⟩ by simp [bin2, ha, hb, h1]]
        exact dr_tup2 (dr_agg (drs_pv _)) (.bool _)
      · have e1 := isT_f h1
        have hab : ¬ a.base = b.base := fun e => hb (by rw [← e]; exact ha)
        have hab2 : ¬ -1 = b.base := fun e => hb e.symm
        by_cases h2 : isT op [45] = true
        · have e2 := isT_t h2
          repeat' (first
           | with_reducible refine stp ?_
           | with_reducible refine k_blk_o rfl ?_
           | with_reducible refine k_seq_n ?_
           | ((try (conv => arg 1; simp [PV.cells, ha, hb, e1, e2, hab, hab2])); with_reducible refine evp ?_)
           | ((with_reducible refine apn ?na ?_); (case na => simp [appNames, ints, intss] <;> first | kernel_rfl | (refine ⟨?_, ?_⟩ <;> kernel_rfl)))
           | ((with_reducible refine tcl ?_); first | ((apply tg (B)); (case e => rfl); (case d => (refine dq ?_); (repeat' (first | ((refine Da.mk ?_); first | assumption) | constructor)))))
           | fail)
          rw [show bin2 op a b = none by simp [bin2, ha, hb, h1, h2, hab2]]
          exact dr_tup2 (dr_agg (drs_pv _)) (.bool _)
        · have e2 := isT_f h2
          repeat' (first
           | with_reducible refine stp ?_
           | with_reducible refine k_blk_o rfl ?_
           | with_reducible refine k_seq_n ?_
           | ((try (conv => arg 1; simp [PV.cells, ha, hb, e1, e2, hab, hab2])); with_reducible refine evp ?_)
           | ((with_reducible refine apn ?na ?_); (case na => simp [appNames, ints, intss] <;> first | kernel_rfl | (refine ⟨?_, ?_⟩ <;> kernel_rfl)))
           | ((with_reducible refine tcl ?_); first | ((apply tg (B)); (case e => rfl); (case d => (refine dq ?_); (repeat' (first | ((refine Da.mk ?_); first | assumption) | constructor)))))
           | fail)
          rw [show bin2 op a b = none by simp [bin2, ha, hb, h1, h2, hab2]]
          exact dr_tup2 (dr_agg (drs_pv _)) (.bool _)
  · by_cases hb : b.base = -1
    · have hab : ¬ a.base = b.base := fun e => ha (by rw [e]; exact hb)
      by_cases h1 : isT op [43] = true
      · have e1 := isT_t h1
        repeat' (first
         | with_reducible refine stp ?_
         | with_reducible refine k_blk_o rfl ?_
         | with_reducible refine k_seq_n ?_
         | ((try (conv => arg 1; simp [PV.cells, ha, hb, e1])); with_reducible refine evp ?_)
         | ((with_reducible refine apn ?na ?_); (case na => simp [appNames, ints, intss] <;> first | kernel_rfl | (refine ⟨?_, ?_⟩ <;> kernel_rfl)))
         | ((with_reducible refine tcl ?_); first | ((apply tg (B)); (case e => rfl); (case d => (refine dq ?_); (repeat' (first | ((refine Da.mk ?_); first | assumption) | constructor)))))
         | fail)
        rw [show bin2 op a b = some ⟨a.base, w64 (a.off + b.off)⟩ by simp [bin2, ha, hb, h1]]
        exact dr_tup2 (dr_agg (drs_pv _)) (.bool _)
      · have e1 := isT_f h1
        by_cases h2 : isT op [45] = true
        · have e2 := isT_t h2
          repeat' (first
           | with_reducible refine stp ?_
           | with_reducible refine k_blk_o rfl ?_
           | with_reducible refine k_seq_n ?_
           | ((try (conv => arg 1; simp [PV.cells, ha, hb, e1, e2])); with_reducible refine evp ?_)
           | ((with_reducible refine apn ?na ?_); (case na => simp [appNames, ints, intss] <;> first | kernel_rfl | (refine ⟨?_, ?_⟩ <;> kernel_rfl)))
           | ((with_reducible refine tcl ?_); first | ((apply tg (B)); (case e => rfl); (case d => (refine dq ?_); (repeat' (first | ((refine Da.mk ?_); first | assumption) | constructor)))))
           | fail)
          rw [show bin2 op a b = some ⟨a.base, w64 (a.off - b.off)⟩ by simp [bin2, ha, hb, h1, h2]]
          exact dr_tup2 (dr_agg (drs_pv _)) (.bool _)
        · have e2 := isT_f h2
          repeat' (first
           | with_reducible refine stp ?_
           | with_reducible refine k_blk_o rfl ?_
           | with_reducible refine k_seq_n ?_
           | ((try (conv => arg 1; simp [PV.cells, ha, hb, e1, e2])); with_reducible refine evp ?_)
           | ((with_reducible refine apn ?na ?_); (case na => simp [appNames, ints, intss] <;> first | kernel_rfl | (refine ⟨?_, ?_⟩ <;> kernel_rfl)))
           | ((with_reducible refine tcl ?_); first | ((apply tg (B)); (case e => rfl); (case d => (refine dq ?_); (repeat' (first | ((refine Da.mk ?_); first | assumption) | constructor)))))
           | fail)
          rw [show bin2 op a b = none by simp [bin2, ha, hb, h1, h2]]
          exact dr_tup2 (dr_agg (drs_pv _)) (.bool _)
    · by_cases h1 : isT op [43] = true
      · have e1 := isT_t h1
        have h2 : ¬ isT op [45] = true := by simp [isT, e1]
        repeat' (first
         | with_reducible refine stp ?_
         | with_reducible refine k_blk_o rfl ?_
         | with_reducible refine k_seq_n ?_
         | ((try (conv => arg 1; simp [PV.cells, ha, hb, e1])); with_reducible refine evp ?_)
         | ((with_reducible refine apn ?na ?_); (case na => simp [appNames, ints, intss] <;> first | kernel_rfl | (refine ⟨?_, ?_⟩ <;> kernel_rfl)))
         | ((with_reducible refine tcl ?_); first | ((apply tg (B)); (case e => rfl); (case d => (refine dq ?_); (repeat' (first | ((refine Da.mk ?_); first | assumption) | constructor)))))
         | fail)
        rw [show bin2 op a b = none by simp [bin2, ha, hb, h1, h2]]
        exact dr_tup2 (dr_agg (drs_pv _)) (.bool _)
      · have e1 := isT_f h1
        by_cases h2 : isT op [45] = true
        · have e2 := isT_t h2
          by_cases hab : a.base = b.base
          · have hb2 := hb
            rw [← hab] at hb2
            repeat' (first
             | with_reducible refine stp ?_
             | with_reducible refine k_blk_o rfl ?_
             | with_reducible refine k_seq_n ?_
             | ((try (conv => arg 1; simp [PV.cells, ha, hb, e1, e2, hab])); with_reducible refine evp ?_)
             | ((with_reducible refine apn ?na ?_); (case na => simp [appNames, ints, intss] <;> first | kernel_rfl | (refine ⟨?_, ?_⟩ <;> kernel_rfl)))
             | ((with_reducible refine tcl ?_); first | ((apply tg (B)); (case e => rfl); (case d => (refine dq ?_); (repeat' (first | ((refine Da.mk ?_); first | assumption) | constructor)))))
             | fail)
            rw [show bin2 op a b = some ⟨-1, w64 (a.off - b.off)⟩ by simp [bin2, ha, hb, h1, h2, hab]]
            exact dr_tup2 (dr_agg (drs_pv _)) (.bool _)
          · 
            repeat' (first
             | with_reducible refine stp ?_
             | with_reducible refine k_blk_o rfl ?_
             | with_reducible refine k_seq_n ?_
             | ((try (conv => arg 1; simp [PV.cells, ha, hb, e1, e2, hab])); with_reducible refine evp ?_)
             | ((with_reducible refine apn ?na ?_); (case na => simp [appNames, ints, intss] <;> first | kernel_rfl | (refine ⟨?_, ?_⟩ <;> kernel_rfl)))
             | ((with_reducible refine tcl ?_); first | ((apply tg (B)); (case e => rfl); (case d => (refine dq ?_); (repeat' (first | ((refine Da.mk ?_); first | assumption) | constructor)))))
             | fail)
            rw [show bin2 op a b = none by simp [bin2, ha, hb, h1, h2, hab]]
            exact dr_tup2 (dr_agg (drs_pv _)) (.bool _)
        · have e2 := isT_f h2
          repeat' (first
           | with_reducible refine stp ?_
           | with_reducible refine k_blk_o rfl ?_
           | with_reducible refine k_seq_n ?_
           | ((try (conv => arg 1; simp [PV.cells, ha, hb, e1, e2])); with_reducible refine evp ?_)
           | ((with_reducible refine apn ?na ?_); (case na => simp [appNames, ints, intss] <;> first | kernel_rfl | (refine ⟨?_, ?_⟩ <;> kernel_rfl)))
           | ((with_reducible refine tcl ?_); first | ((apply tg (B)); (case e => rfl); (case d => (refine dq ?_); (repeat' (first | ((refine Da.mk ?_); first | assumption) | constructor)))))
           | fail)
          rw [show bin2 op a b = none by simp [bin2, ha, hb, h1, h2]]
          exact dr_tup2 (dr_agg (drs_pv _)) (.bool _)
end Go.Proofs.Ytlmlkkkgcbpaoaa.AM

/-
  Places: the plain law.
-/
set_option linter.unusedVariables false
set_option linter.unusedSimpArgs false
set_option maxRecDepth 4000
namespace Go.Proofs.Ytlmlkkkgcbpaoaa.AM
open Go.RowKit

def getS (st : List PV) (i : Int) : PV := st.getD i.toNat ⟨0, 0⟩
def plOf (x : Instr) (st : List PV) : Plc :=
  if x.Op = 3 ∨ x.Op = 4 then
    ⟨x.N, min (if 0 ≤ x.A then getS st x.A else ⟨-1, 0⟩).base (getS st x.B).base, max (if 0 ≤ x.A then getS st x.A else ⟨-1, 0⟩).base (getS st x.B).base, w64 ((if 0 ≤ x.A then getS st x.A else ⟨-1, 0⟩).off + (getS st x.B).off)⟩
  else ⟨-1, 0, 0, 0⟩
def stVal (x : Instr) (st : List PV) : Option PV :=
  if x.Op = 0 then some ⟨-1, x.N⟩ else if x.Op = 1 then some (getS st x.A) else if x.Op = 2 then bin2 x.Text (getS st x.A) (getS st x.B) else none
def stpP (x : Instr) (s : List PV × Int) : List PV × Int :=
  if x.Op = 4 ∨ x.Op = 6 then s else match stVal x s.1 with
  | some v => (s.1.set x.D.toNat v, s.2)
  | none => (s.1.set x.D.toNat ⟨s.2, 0⟩, s.2 + 1)
def start (n : Nat) : List PV := (List.range n).map fun i : Nat => ⟨(i : Int), 0⟩
def stN (s : List PV × Int) (l : List Instr) : List PV × Int := l.foldl (fun s x => stpP x s) s
def plsFrom : List Instr → List PV × Int → List Plc
  | [], _ => []
  | x :: l, s => plOf x s.1 :: plsFrom l (stpP x s)
def plcsOf (n : Nat) (code : List Instr) : List Plc := plsFrom code (start n, n)
theorem start_len (n : Nat) : (start n).length = n := by simp [start]
theorem start_succ (n : Nat) : start (n + 1) = start n ++ [⟨n, 0⟩] := by simp [start, List.range_succ]
theorem stp_len (x : Instr) (s : List PV × Int) : (stpP x s).1.length = s.1.length := by
  unfold stpP
  split
  · rfl
  · split <;> simp
theorem stp_nx (x : Instr) (s : List PV × Int) : s.2 ≤ (stpP x s).2 ∧ (stpP x s).2 ≤ s.2 + 1 := by
  unfold stpP
  split
  · omega
  · split <;> (simp only []; omega)
theorem stN_snoc (s : List PV × Int) (l : List Instr) (x : Instr) : stN s (l ++ [x]) = stpP x (stN s l) := by simp [stN]
theorem stN_len (l : List Instr) : ∀ s : List PV × Int, (stN s l).1.length = s.1.length := by
  induction l with
  | nil => intro s; rfl
  | cons x l ih => intro s; show (stN (stpP x s) l).1.length = _; rw [ih, stp_len]
theorem stN_nx (l : List Instr) : ∀ s : List PV × Int, s.2 ≤ (stN s l).2 ∧ (stN s l).2 ≤ s.2 + l.length := by
  induction l with
  | nil => intro s; simp [stN]
  | cons x l ih =>
    intro s
    have h1 := ih (stpP x s)
    have h2 := stp_nx x s
    have e : stN s (x :: l) = stN (stpP x s) l := rfl
    rw [e, List.length_cons]
    omega
theorem plsFrom_snoc (l : List Instr) (x : Instr) : ∀ s : List PV × Int, plsFrom (l ++ [x]) s = plsFrom l s ++ [plOf x (stN s l).1] := by
  induction l with
  | nil => intro s; rfl
  | cons y l ih => intro s; simp only [List.cons_append, plsFrom, ih]; rfl
theorem plsFrom_len (l : List Instr) : ∀ s : List PV × Int, (plsFrom l s).length = l.length := by
  induction l with
  | nil => intro s; rfl
  | cons y l ih => intro s; simp [plsFrom, ih]
theorem take_snoc {α : Type} {l : List α} {i : Nat} (hi : i < l.length) : l.take (i + 1) = l.take i ++ [l[i]] := by
  rw [List.take_add_one, List.getElem?_eq_getElem hi]; rfl
theorem plsFrom_take {l : List Instr} {i : Nat} (hi : i < l.length) (s : List PV × Int) : plsFrom (l.take (i + 1)) s = plsFrom (l.take i) s ++ [plOf l[i] (stN s (l.take i)).1] := by
  rw [take_snoc hi, plsFrom_snoc]
theorem stN_take {l : List Instr} {i : Nat} (hi : i < l.length) (s : List PV × Int) : stN s (l.take (i + 1)) = stpP l[i] (stN s (l.take i)) := by
  rw [take_snoc hi, stN_snoc]
theorem getS_at {st : List PV} {i : Nat} (hi : i < st.length) : getS st i = st[i] := by simp [getS, hi]
theorem pv_at {st : List PV} {i : Nat} (hi : i < st.length) : (st.map PV.cells)[i]? = some (getS st i).cells := by simp [getS, hi]

/-- What a right step says of its numbers. -/
structure InOk (ns : Nat) (x : Instr) : Prop where
  op : x.Op = 0 ∨ x.Op = 1 ∨ x.Op = 2 ∨ x.Op = 3 ∨ x.Op = 4 ∨ x.Op = 5 ∨ x.Op = 6
  d : ¬ x.Op = 4 → ¬ x.Op = 6 → ∃ d : Nat, x.D = d ∧ d < ns
  a : x.Op = 1 ∨ x.Op = 2 → ∃ a : Nat, x.A = a ∧ a < ns
  b : x.Op = 2 ∨ x.Op = 3 ∨ x.Op = 4 → ∃ b : Nat, x.B = b ∧ b < ns
  a2 : x.Op = 3 ∨ x.Op = 4 → x.A = -1 ∨ ∃ a : Nat, x.A = a ∧ a < ns
  r : x.Op = 3 ∨ x.Op = 4 → 0 ≤ x.N
  c : x.Op = 4 → 0 ≤ x.C
theorem inB_slot {a : Int} {ns : Nat} (h : inB a 0 (ns - 1) = true) : ∃ k : Nat, a = k ∧ k < ns := by
  simp [inB] at h
  exact ⟨a.toNat, by omega, by omega⟩
theorem instrOk_in {ns : Nat} {nr : Int} {x : Instr} (h : instrOk ns nr x = true) : InOk ns x := by
  unfold instrOk at h
  split at h
  · rename_i e
    simp only [Bool.and_eq_true] at h
    exact ⟨.inl e, fun _ _ => inB_slot h.1.1.1.1, fun g => by omega, fun g => by omega, fun g => by omega, fun g => by omega, fun g => by omega⟩
  split at h
  · rename_i e
    simp only [Bool.and_eq_true] at h
    exact ⟨by omega, fun _ _ => inB_slot h.1.1.1.1.1, fun g => inB_slot h.1.1.1.1.2, fun g => by omega, fun g => by omega, fun g => by omega, fun g => by omega⟩
  split at h
  · rename_i e
    simp only [Bool.and_eq_true] at h
    exact ⟨by omega, fun _ _ => inB_slot h.1.1.1.1.1, fun g => inB_slot h.1.1.1.1.2, fun g => inB_slot h.1.1.1.2, fun g => by omega, fun g => by omega, fun g => by omega⟩
  split at h
  · rename_i e
    simp only [Bool.and_eq_true, Bool.or_eq_true] at h
    refine ⟨by omega, fun _ _ => inB_slot h.1.1.1.1.1, fun g => by omega, fun g => inB_slot h.1.1.1.1.2, fun g => ?_, fun g => ?_, fun g => by omega⟩
    · rcases h.1.1.1.2 with h | h
      · exact .inr (inB_slot h)
      · exact .inl (by simpa using h)
    · have := h.1.1.2; simp [inB] at this; omega
  split at h
  · rename_i e
    simp only [Bool.and_eq_true, Bool.or_eq_true] at h
    refine ⟨by omega, fun g => by omega, fun g => by omega, fun g => inB_slot h.1.1.1.1.2, fun g => ?_, fun g => ?_, fun g => ?_⟩
    · rcases h.1.1.1.2 with h | h
      · exact .inr (inB_slot h)
      · exact .inl (by simpa using h)
    · have := h.1.1.2; simp [inB] at this; omega
    · have := h.1.2; simp [inB] at this; omega
  split at h
  · rename_i e
    simp only [Bool.and_eq_true] at h
    exact ⟨by omega, fun _ _ => inB_slot h.1.1.1.1.1, fun g => by omega, fun g => by omega, fun g => by omega, fun g => by omega, fun g => by omega⟩
  split at h
  · rename_i e
    exact ⟨by omega, fun _ g => absurd e g, fun g => by omega, fun g => by omega, fun g => by omega, fun g => by omega, fun g => by omega⟩
  · cases h
/-- What a right graph says of a block's steps. -/
theorem code_in {g : Graph} (hg : graphOk g = true) {i : Nat} (hi : i < g.Blocks.length) : ∃ ns : Nat, g.Slots = ns ∧ ns ≤ 1000 ∧ ∀ x ∈ g.Blocks[i].Code, InOk ns x := by
  simp only [graphOk, Bool.and_eq_true, List.all_eq_true] at hg
  have hh := headOk_head hg.1.1
  have hb := hg.2 _ (List.getElem_mem hi)
  have h1 := hh.slots
  refine ⟨g.Slots.toNat, by have := hh.params; omega, by omega, fun x hx => ?_⟩
  unfold blockOk at hb
  simp only [Bool.and_eq_true, List.all_eq_true] at hb
  have := hb.1 x hx
  rw [show g.Slots = (g.Slots.toNat : Int) by have := hh.params; omega] at this
  exact instrOk_in this
theorem gsum_all {α : Type} (f : α → Nat) (l : List α) : gsum f l l.length = (l.map f).sum := by simp [gsum]
theorem gsum_map_le {f : Block → Nat} {t : Block → Block} (ht : ∀ b, f (t b) ≤ f b) : ∀ l : List Block, gsum f (l.map t) (l.map t).length ≤ gsum f l l.length := by
  intro l
  rw [gsum_all, gsum_all]
  induction l with
  | nil => exact Nat.le_refl _
  | cons b l ih =>
    have := ht b
    simp only [List.map_cons, List.sum_cons]
    omega
end Go.Proofs.Ytlmlkkkgcbpaoaa.AM

/-
  Stores that are dead: the plain law.
-/
set_option linter.unusedVariables false
set_option linter.unusedSimpArgs false
set_option maxRecDepth 4000
namespace Go.Proofs.Ytlmlkkkgcbpaoaa.AM
open Go.RowKit

def mustV (l : List Plc) (p : Plc) : Bool := l.any fun q => aliasV q p == 2
def farV (l : List Plc) (p : Plc) : List Plc := l.filter fun q => aliasV q p == 0
/-- The reference's: the steps kept, the places stored behind. -/
def dsO : List Instr → List Plc → List Instr × List Plc
  | x :: l, p :: ps =>
    let r := dsO l ps
    if x.Op = 4 then (if mustV r.2 p = true then r.1 else x :: r.1, r.2 ++ [p])
    else if x.Op = 3 then (x :: r.1, farV r.2 p) else if x.Op = 6 then (x :: r.1, []) else (x :: r.1, r.2)
  | _, _ => ([], [])
/-- The program's. -/
def dsI : List Instr → List Plc → List Instr × List Plc
  | x :: l, p :: ps =>
    let r := dsI l ps
    if x.Op = 4 then (if mustV r.2 p = true then r else (x :: r.1, r.2 ++ [p]))
    else if x.Op = 3 then (x :: r.1, farV r.2 p) else if x.Op = 6 then (x :: r.1, []) else (x :: r.1, r.2)
  | _, _ => ([], [])
theorem aliasV_2 (q p : Plc) : aliasV q p = 2 ↔ q = p := by
  obtain ⟨a, b, c, d⟩ := q
  obtain ⟨a', b', c', d'⟩ := p
  unfold aliasV
  simp only [Plc.mk.injEq]
  by_cases h1 : a = a'
  · by_cases h2 : b = b' ∧ c = c'
    · by_cases h3 : d = d'
      · simp [h1, h2, h3]
      · simp [h1, h2, h3]
    · rw [if_pos h1, if_neg h2]
      constructor
      · intro h; omega
      · intro h; exact absurd ⟨h.2.1, h.2.2.1⟩ h2
  · simp [h1]
theorem mustV_mem (l : List Plc) (p : Plc) : mustV l p = true ↔ p ∈ l := by
  unfold mustV
  rw [List.any_eq_true]
  constructor
  · rintro ⟨q, hq, h⟩
    have := (aliasV_2 q p).1 (by simpa using h)
    exact this ▸ hq
  · intro h
    exact ⟨p, h, by simpa using (aliasV_2 p p).2 rfl⟩
theorem dsI_eq : ∀ (l : List Instr) (ps : List Plc), (dsI l ps).1 = (dsO l ps).1 ∧ ∀ q, q ∈ (dsI l ps).2 ↔ q ∈ (dsO l ps).2
  | [], ps => ⟨rfl, fun _ => Iff.rfl⟩
  | x :: l, [] => ⟨rfl, fun _ => Iff.rfl⟩
  | x :: l, p :: ps => by
    obtain ⟨h1, h2⟩ := dsI_eq l ps
    have hm : mustV (dsI l ps).2 p = mustV (dsO l ps).2 p := by
      rw [Bool.eq_iff_iff, mustV_mem, mustV_mem]; exact h2 p
    simp only [dsI, dsO]
    by_cases e4 : x.Op = 4
    · rw [if_pos e4, if_pos e4, hm]
      by_cases hv : mustV (dsO l ps).2 p = true
      · rw [if_pos hv, if_pos hv]
        refine ⟨h1, fun q => ?_⟩
        rw [List.mem_append, h2, List.mem_singleton]
        constructor
        · exact .inl
        · rintro (h | rfl)
          · exact h
          · exact (mustV_mem _ _).1 hv
      · rw [if_neg hv, if_neg hv]
        exact ⟨by rw [h1], fun q => by rw [List.mem_append, List.mem_append, h2]⟩
    · rw [if_neg e4, if_neg e4]
      by_cases e3 : x.Op = 3
      · rw [if_pos e3, if_pos e3]
        exact ⟨by rw [h1], fun q => by simp only [farV, List.mem_filter, h2]⟩
      · rw [if_neg e3, if_neg e3]
        by_cases e6 : x.Op = 6
        · rw [if_pos e6, if_pos e6]; exact ⟨by rw [h1], fun _ => Iff.rfl⟩
        · rw [if_neg e6, if_neg e6]; exact ⟨by rw [h1], h2⟩
theorem dsO_sub : ∀ (l : List Instr) (ps : List Plc), l.length = ps.length → (dsO l ps).1.Sublist l
  | [], [], _ => .slnil
  | x :: l, p :: ps, h => by
    have ih := dsO_sub l ps (by simpa using h)
    simp only [dsO]
    split
    · split
      · exact ih.cons _
      · exact ih.cons_cons _
    · split
      · exact ih.cons_cons _
      · split
        · exact ih.cons_cons _
        · exact ih.cons_cons _
def deadB (n : Nat) (b : Block) : Block := { b with Code := (dsO b.Code (plcsOf n b.Code)).1 }
def deadR (g : Graph) : Graph := if graphOk g = true then { g with Blocks := g.Blocks.map (deadB g.Slots.toNat) } else g
theorem plcsOf_len (n : Nat) (code : List Instr) : (plcsOf n code).length = code.length := plsFrom_len _ _
theorem deadB_sub (n : Nat) (b : Block) : (deadB n b).Code.Sublist b.Code := dsO_sub _ _ (plcsOf_len _ _).symm
theorem sub_sum {l m : List Nat} (h : l.Sublist m) : l.sum ≤ m.sum := by
  induction h with
  | slnil => exact Nat.le_refl _
  | cons a _ ih => simp only [List.sum_cons]; omega
  | cons_cons a _ ih => simp only [List.sum_cons]; omega
theorem deadB_wt (n : Nat) (b : Block) : wtB (deadB n b) ≤ wtB b := by
  have h := deadB_sub n b
  have h1 := h.length_le
  have h2 := sub_sum (h.map wtI)
  unfold wtB wtIS
  rw [gsum_all, gsum_all]
  omega
theorem deadR_small (g : Graph) (d : g.Small) : (deadR g).Small := by
  unfold deadR
  split
  · refine ⟨d.sizes, ?_⟩
    have := d.blocks
    unfold wtBS at this ⊢
    have h := gsum_map_le (f := wtB) (deadB_wt g.Slots.toNat) g.Blocks
    simp only [List.length_map] at h ⊢
    omega
  · exact d
/-- From the end, one step more. -/
theorem ds_drop {α β : Type} {l : List α} {ps : List β} {i : Nat} (hi : i < l.length) (he : ps.length = l.length) : l.drop i = l[i] :: l.drop (i + 1) ∧ ps.drop i = ps[i] :: ps.drop (i + 1) :=
  ⟨List.drop_eq_getElem_cons hi, List.drop_eq_getElem_cons (by omega)⟩
end Go.Proofs.Ytlmlkkkgcbpaoaa.AM

/-
  Slices of plain cells that grow and shrink: no row, or a row of their own.
-/
set_option linter.unusedVariables false
set_option linter.unusedSimpArgs false
set_option maxRecDepth 4000
namespace Go.Proofs.Ytlmlkkkgcbpaoaa.AM
open Go.RowKit

def FL (s : Nat) (l : List (List AV)) (w : AV) (b : Bx) : Prop :=
  (w = .nilsl ∧ l = [] ∧ b = []) ∨ ∃ k ver sp, w = .sl k ver 0 l.length ∧ (∀ e ∈ sp, e.length = s ∧ ∀ x ∈ e, flatc x = true) ∧ b = [(k, ⟨ver, s, l ++ sp⟩)]
theorem FL.one {s : Nat} {l : List (List AV)} {w : AV} {b : Bx} (f : FL s l w b) : w.one = true ∧ w.stored = true ∧ w.cells = [w] := by
  rcases f with ⟨rfl, _, _⟩ | ⟨k, ver, sp, rfl, _, _⟩ <;> exact ⟨rfl, rfl, rfl⟩
theorem FL.nil {s : Nat} : FL s [] .nilsl [] := .inl ⟨rfl, rfl, rfl⟩
theorem FL.mt {s : Nat} {k : Nm} {ver : Nat} : FL s [] (.sl k ver 0 0) [(k, ⟨ver, s, []⟩)] := .inr ⟨k, ver, [], rfl, by simp, rfl⟩
theorem FL.dr {s : Nat} {l : List (List AV)} {w : AV} {b : Bx} {h : Hp} {c : Bool} (f : FL s l w b) (hf : ∀ e ∈ l, ∀ x ∈ e, flatc x = true) (x : ∀ y ∈ b, h.rows y.1 = some y.2) : DR c h.rows w (.tr c l) := by
  rcases f with ⟨rfl, rfl, rfl⟩ | ⟨k, ver, sp, rfl, _, rfl⟩
  · exact .nilsl
  · exact dr_flat_sl (s := s) (x (k, _) (List.mem_singleton.2 rfl)) hf
theorem appendA_room {P : Program} {t : TypeId} {m n k : Nm} {v vk s len : Nat} {h : Hp} {l sp : List (List AV)} {e e0 : List AV} (h0 : ((telem P t).bind fun e => (tsz P e).bind fun s => (tby P e).bind fun bb => (tzero P e).bind fun z => some (s, decide (0 < s ∧ bb ≤ 32768 ∧ z.length = s))) = some (s, true))
    (hr : h.rows m = some ⟨v, s, l ++ e0 :: sp⟩) (hlen : l.length = len) (hk : h.rows k = some ⟨vk, s, [e]⟩) (he : e.length = s) (hl : len + 1 ≤ 4294967296) (hm : m.1 < h.tick) :
    appendA P t (.sl m v 0 len) (.sl k vk 0 1) h n = some (.sl m v 0 (len + 1), h.put m ⟨v, s, (l ++ [e]) ++ sp⟩) := by
  simp only [Option.bind_eq_some_iff] at h0
  obtain ⟨e', he', s', hs, bb, hb, z, hz, hd⟩ := h0
  simp only [Option.some.injEq, Prod.mk.injEq, decide_eq_true_eq] at hd
  obtain ⟨e1, hd1, hd2, hd3⟩ := hd
  rw [e1] at hs hd1 hd3
  subst hlen
  unfold appendA
  have hsrc : srcElems h.rows (.sl k vk 0 1) = some [e] := by simp [srcElems, hk]
  rw [he', hsrc]
  simp only [hs, hb, hz]
  have a1 : (l ++ e0 :: sp).take l.length = l := by simp
  have a2 : (l ++ e0 :: sp).drop (l.length + 1) = sp := by rw [show l ++ e0 :: sp = (l ++ [e0]) ++ sp by simp]; exact List.drop_left' (by simp)
  have a3 : l.length ≤ (l ++ e0 :: sp).length := by simp
  have a4 : l.length + 1 ≤ (l ++ e0 :: sp).length := by simp
  simp only [List.length_append, List.length_cons] at a3 a4
  simp [he, hd1, hd2, hd3, hr, hl, hm, a1, a2, a3, a4]
theorem Cx.to_front {h : Hp} {fs b bs : Bx} {os : Ox} (x : Cx h (fs ++ (b ++ bs)) os) : Cx h (b ++ (fs ++ bs)) os := x.bperm (List.perm_append_comm_assoc fs b bs)
theorem FL.app {P : Program} {t : TypeId} {s : Nat} {l : List (List AV)} {w : AV} {b bs : Bx} {os : Ox} {h : Hp} {k n : Nm} {vk : Nat} {e : List AV} (h0 : ((telem P t).bind fun e => (tsz P e).bind fun s => (tby P e).bind fun bb => (tzero P e).bind fun z => some (s, decide (0 < s ∧ bb ≤ 32768 ∧ z.length = s))) = some (s, true))
    (f : FL s l w b) (x : Cx h (b ++ bs) os) (hk : h.rows k = some ⟨vk, s, [e]⟩) (he : e.length = s) (hl : l.length + 1 ≤ 4294967296) (hn : n ∉ nms (b ++ bs) os) (ht : n.1 < h.tick) :
    ∃ w' b' h', appendA P t w (.sl k vk 0 1) h n = some (w', h') ∧ FL s (l ++ [e]) w' b' ∧ Cx h' (b' ++ bs) os ∧ h'.tick = h.tick ∧ (w'.one = true ∧ w'.stored = true ∧ w'.cells = [w']) := by
  rcases f with ⟨rfl, rfl, rfl⟩ | ⟨m, ver, sp, rfl, hsp, rfl⟩
  · exact ⟨_, [(n, ⟨0, s, [e]⟩)], _, appendA_nil1 h0 hk he, .inr ⟨n, 0, [], rfl, fun e he => by (cases he), rfl⟩, x.box_add hn ht, rfl, rfl, rfl, rfl⟩
  · have ltm := x.lt m (mem_box (x := (m, _)) (List.mem_cons_self ..))
    cases sp with
    | nil =>
      refine ⟨_, [(m, ⟨ver + 1, s, l ++ [e]⟩)], _, appendA_snoc h0 (by simpa using x.b0) rfl hk he hl (decide_eq_true ltm), .inr ⟨m, ver + 1, [], by simp, fun e he => by (cases he), by simp⟩, x.box_set, rfl, rfl, rfl, rfl⟩
    | cons e0 sp =>
      exact ⟨_, [(m, ⟨ver, s, (l ++ [e]) ++ sp⟩)], _, appendA_room h0 x.b0 rfl hk he hl ltm, .inr ⟨m, ver, sp, by simp, fun e he => hsp e (by simp [he]), rfl⟩, x.box_set, rfl, rfl, rfl, rfl⟩
/-- The step of an append. -/
theorem ev2_app {P : Program} {t : TypeId} {s : Nat} {l : List (List AV)} {w : AV} {fs b bs : Bx} {os : Ox} {h : Hp} {k n : Nm} {vk : Nat} {e : List AV} {N : AV → Hp → Prop} (h0 : ((telem P t).bind fun e => (tsz P e).bind fun s => (tby P e).bind fun bb => (tzero P e).bind fun z => some (s, decide (0 < s ∧ bb ≤ 32768 ∧ z.length = s))) = some (s, true))
    (f : FL s l w b) (x : Cx h (fs ++ (b ++ bs)) os) (hk : h.rows k = some ⟨vk, s, [e]⟩) (he : e.length = s) (hl : l.length + 1 ≤ 4294967296) (hn : n ∉ nms (fs ++ (b ++ bs)) os) (ht : n.1 < h.tick)
    (kk : ∀ w' b' h', FL s (l ++ [e]) w' b' → Cx h' (fs ++ (b' ++ bs)) os → h'.tick = h.tick → (w'.one = true ∧ w'.stored = true ∧ w'.cells = [w']) → N w' h') : Ev2 (appendA P t w (.sl k vk 0 1) h n) N := by
  have y := x.to_front
  obtain ⟨w', b', h', ea, fl, z, tk, q⟩ := FL.app (n := n) h0 f y hk he hl (fun e => hn (by
    simp only [nms, List.map_append, List.mem_append] at e ⊢
    rcases e with (e | e | e) | e
    · exact .inl (.inr (.inl e))
    · exact .inl (.inl e)
    · exact .inl (.inr (.inr e))
    · exact .inr e)) ht
  rw [ea]
  exact kk w' b' h' fl z.to_front tk q
theorem Cx.new_nin {h : Hp} {bs : Bx} {os : Ox} {T i : Nat} (x : Cx h bs os) (hT : h.tick ≤ T) : (T, i, 0) ∉ nms bs os := fun e => by
  have := x.lt _ e
  simp only at this
  omega
theorem FL.own {s : Nat} {l : List (List AV)} {w : AV} {b bs : Bx} {os : Ox} {h : Hp} (f : FL s l w b) (hf : ∀ e ∈ l, e.length = s ∧ ∀ x ∈ e, flatc x = true) (x : Cx h (b ++ bs) os) : ∃ ns, Cx h bs ((w, (fun c => .tr c l), ns) :: os) := by
  rcases f with ⟨rfl, rfl, rfl⟩ | ⟨k, ver, sp, rfl, hsp, rfl⟩
  · exact ⟨[], x.add_own (fun b => .one (.nilsl .nil)) .nil (fun n hn => by cases hn) (fun n _ => rfl) (Nat.le_refl _)⟩
  · exact ⟨[k], Cx.close_flat x hf (fun e he => (hsp e he).1) (clRow_flat fun e he => (hsp e he).2)⟩
/-- What a piece of code brings about, and no more of it. -/
theorem st_cut {P : Program} {M : FuncId → Mode} {σ : Nat → AV} {h : Hp} {K : Ex → (Nat → AV) → Hp → Prop} {a : Code} (R : (Nat → AV) → Hp → Prop) (w : wpC P M (Sound P) (drawW2 P M (Sound P)) a σ h (fun e σ' h' => e = .normal ∧ R σ' h')) (k : ∀ σ' h', R σ' h' → K .normal σ' h') : wpC P M (Sound P) (drawW2 P M (Sound P)) a σ h K :=
  wpC_mono Sound.le drawW_le a σ h _ _ (fun e σ' h' hr => by obtain ⟨rfl, hr⟩ := hr; exact k _ _ hr) w
theorem own_pvs {rows : Nm → Option Row} {c : Bool} {w : AV} {st : List PV} {ns : List Nm} (h : OwnV rows c w (pvs c st) ns) : w.one = true ∧ w.stored = true ∧ w.cells = [w] := own_one (own_of h rfl)
theorem Cx.open_pvs {h : Hp} {bs : Bx} {os : Ox} {w : AV} {st : List PV} {ns : List Nm} (x : Cx h bs ((w, (fun b => pvs b st), ns) :: os)) (hs : 0 < st.length) :
    ∃ k ver sp, w = .sl k ver 0 st.length ∧ ns = [k] ∧ (∀ e ∈ sp, e.length = 2) ∧ ClRow ⟨ver, 2, sp⟩ ∧ Cx h ((k, ⟨ver, 2, st.map PV.cells ++ sp⟩) :: bs) os := by
  have := x.open_flat (l := st.map PV.cells) (pvs_flat st) (by omega) (fun e => by have := List.map_eq_nil_iff.1 e; rw [this] at hs; simp at hs)
  rw [List.length_map] at this
  exact this
theorem Cx.close_pvs {h : Hp} {bs : Bx} {os : Ox} {k : Nm} {ver : Nat} {st : List PV} {sp : List (List AV)} {n : Nat} (x : Cx h ((k, ⟨ver, 2, st.map PV.cells ++ sp⟩) :: bs) os) (h1 : ∀ e ∈ sp, e.length = 2) (h2 : ClRow ⟨ver, 2, sp⟩) (hn : st.length = n) :
    Cx h bs ((.sl k ver 0 n, (fun b => pvs b st), [k]) :: os) := by
  have := x.close_flat (l := st.map PV.cells) (pvs_flat st) h1 h2
  rw [List.length_map, hn] at this
  exact this
end Go.Proofs.Ytlmlkkkgcbpaoaa.AM

/-
  The library's sort of whole numbers: the kit's contract, over rows.
-/
set_option linter.unusedVariables false
set_option linter.unusedSimpArgs false
set_option maxRecDepth 4000
namespace Go.Proofs.Ytlmlkkkgcbpaoaa.AM
open Go.RowKit Go.Shelf Go.Sort

/-- The kit's numbers, led to this program's. -/
def laysSort_ren : Go.Shelf.Ren := ⟨fun | 189 => 124 | 125 => 149 | 257 => 148 | 128 => 162 | 129 => 163 | 294 => 153 | 295 => 154 | 296 => 155 | 297 => 156 | 298 => 157 | 299 => 158 | 216 => 159 | 300 => 160 | 301 => 161 | 328 => 165 | 329 => 166 | 330 => 167 | 331 => 168 | 332 => 169 | 215 => 170 | 343 => 171 | n => n, fun | 28 => 22 | 3 => 3 | 46 => 183 | 0 => 0 | 51 => 195 | 53 => 197 | 4 => 4 | 183 => 187 | 182 => 186 | 131 => 192 | 5 => 5 | 9 => 9 | 218 => 199 | 222 => 179 | 228 => 204 | 229 => 205 | n => n, fun n => n⟩

theorem laysSort : Lays.n189 Try.prog laysSort_ren where
  mixed := by kernel_rfl
  f125 := Try.func149.trans (congrArg some (by kernel_rfl))
  f128 := Try.func162.trans (congrArg some (by kernel_rfl))
  f129 := Try.func163.trans (congrArg some (by kernel_rfl))
  f189 := Try.func124.trans (congrArg some (by kernel_rfl))
  f215 := Try.func170.trans (congrArg some (by kernel_rfl))
  f216 := Try.func159.trans (congrArg some (by kernel_rfl))
  f257 := Try.func148.trans (congrArg some (by kernel_rfl))
  f294 := Try.func153.trans (congrArg some (by kernel_rfl))
  f295 := Try.func154.trans (congrArg some (by kernel_rfl))
  f296 := Try.func155.trans (congrArg some (by kernel_rfl))
  f297 := Try.func156.trans (congrArg some (by kernel_rfl))
  f298 := Try.func157.trans (congrArg some (by kernel_rfl))
  f299 := Try.func158.trans (congrArg some (by kernel_rfl))
  f300 := Try.func160.trans (congrArg some (by kernel_rfl))
  f301 := Try.func161.trans (congrArg some (by kernel_rfl))
  f328 := Try.func165.trans (congrArg some (by kernel_rfl))
  f329 := Try.func166.trans (congrArg some (by kernel_rfl))
  f330 := Try.func167.trans (congrArg some (by kernel_rfl))
  f331 := Try.func168.trans (congrArg some (by kernel_rfl))
  f332 := Try.func169.trans (congrArg some (by kernel_rfl))
  f343 := Try.func171.trans (congrArg some (by kernel_rfl))
  t0 := Try.underlying0
  a0 := Try.isAgg0
  z0 := Try.sizeOf0
  v0 := Try.zeroValue0
  t3 := Try.underlying3
  a3 := Try.isAgg3
  z3 := Try.sizeOf3
  v3 := Try.zeroValue3
  t4 := Try.underlying4
  a4 := Try.isAgg4
  z4 := Try.sizeOf4
  v4 := Try.zeroValue4
  t5 := Try.underlying5
  a5 := Try.isAgg5
  z5 := Try.sizeOf5
  v5 := Try.zeroValue5
  t9 := Try.underlying9
  a9 := Try.isAgg9
  z9 := Try.sizeOf9
  v9 := Try.zeroValue9
  t28 := Try.underlying22
  a28 := Try.isAgg22
  z28 := Try.sizeOf22
  v28 := Try.zeroValue22
  t46 := Try.underlying183
  a46 := Try.isAgg183
  z46 := Try.sizeOf183
  v46 := Try.zeroValue183
  t51 := Try.underlying195
  a51 := Try.isAgg195
  z51 := Try.sizeOf195
  v51 := Try.zeroValue195
  t53 := Try.underlying197
  a53 := Try.isAgg197
  z53 := Try.sizeOf197
  v53 := Try.zeroValue197
  t131 := Try.underlying192
  a131 := Try.isAgg192
  z131 := Try.sizeOf192
  v131 := Try.zeroValue192
  t182 := Try.underlying186
  a182 := Try.isAgg186
  z182 := Try.sizeOf186
  v182 := Try.zeroValue186
  t183 := Try.underlying187
  a183 := Try.isAgg187
  z183 := Try.sizeOf187
  v183 := Try.zeroValue187
  t218 := Try.underlying199
  a218 := Try.isAgg199
  z218 := Try.sizeOf199
  v218 := Try.zeroValue199
  t222 := Try.underlying179
  a222 := Try.isAgg179
  z222 := Try.sizeOf179
  v222 := Try.zeroValue179
  t228 := Try.underlying204
  a228 := Try.isAgg204
  z228 := Try.sizeOf204
  v228 := Try.zeroValue204
  t229 := Try.underlying205
  a229 := Try.isAgg205
  z229 := Try.sizeOf205
  v229 := Try.zeroValue205

section
variable {mu : Nm → Nat → Option Loc} {pr : Bool → Nat → Prop} {h : Hp} {w : World}
theorem Rel.heap {w2 : World} (R : Rel mu pr h w) (e : w2.heap = w.heap) : Rel mu pr h w2 := by
  refine ⟨fun n r hr => ?_, R.inj, R.fresh, R.vers, fun c b hb => by rw [e]; exact R.lt c b hb⟩
  rw [e]
  exact R.row n r hr
theorem ext_grow (os : Array Obj) (hlt : ∀ c b, pr c b → b < w.heap.size) : Ext mu pr w.heap mu pr (w.heap ++ os) :=
  ⟨fun _ _ _ h => h, fun _ _ h => h, fun c b hb => by rw [Array.getElem?_append_left (hlt c b hb)], fun b arr ty fr hb => ⟨arr, fr, by
    have := (Array.getElem?_eq_some_iff.1 hb).1
    rw [Array.getElem?_append_left this]
    exact hb, rfl⟩⟩
theorem Rel.grown (R : Rel mu pr h w) (os : Array Obj) : Rel mu pr h (Sort.grow w os) := by
  refine ⟨fun n r hr => ?_, R.inj, R.fresh, R.vers, fun c b hb => by have := R.lt c b hb; simp; omega⟩
  obtain ⟨l, arr, ty, g1, g2, g3, g4, g5, g6⟩ := R.row n r hr
  have hlt := (Array.getElem?_eq_some_iff.1 g3).1
  refine ⟨l, arr, ty, g1, g2, ?_, g4, g5, g6.1, fun i e j c hi hj => ?_⟩
  · show (w.heap ++ os)[l.b]? = _
    rw [Array.getElem?_append_left hlt]
    exact g3
  · obtain ⟨h1, u, h2, h3⟩ := g6.2 i e j c hi hj
    exact ⟨h1, u, h2, h3.mono (ext_grow os R.lt)⟩
end

def sorted (xs : List Int) : List Int := xs.mergeSort fun x y => decide (x ≤ y)
theorem sorted_len (xs : List Int) : (sorted xs).length = xs.length := List.length_mergeSort _

set_option maxHeartbeats 1000000 in
theorem sortS (xs : List Int) (hne : xs ≠ []) (hl : xs.length < 2 ^ 40) {h : Hp} {n : Nm} {ver : Nat} {sp : List (List AV)} (hr : h.rows n = some ⟨ver, 1, cl1 xs ++ sp⟩) (ht : n.1 < h.tick) :
    Sound Try.prog 124 [.sl n ver 0 xs.length] h fun v h' => h' = h.put n ⟨ver, 1, cl1 (sorted xs) ++ sp⟩ := by
  refine ⟨⟨_, Try.func124, rfl, rfl⟩, fun mu pr w vs R hv => ?_⟩
  obtain ⟨u, rfl⟩ : ∃ u, vs = [u] := by
    match vs, hv.1 with
    | [u], _ => exact ⟨u, rfl⟩
  have hu : VR mu pr w.heap (.sl n ver 0 xs.length) u := by
    obtain ⟨u', h1, h2⟩ := hv.2 0 _ rfl
    simp at h1
    subst h1
    exact h2
  have hxp : 0 < xs.length := List.length_pos_iff.2 hne
  have hu0 := hu
  cases hu with
  | sl _ _ _ _ cap ao l arr0 ty0 fr0 g1 g2 g3 g4 g5 g6 g7 g8 =>
    obtain ⟨l2, arr, ty, k1, k2, k3, k4, k5, k6⟩ := R.row n _ hr
    rw [show (⟨ver, 1, cl1 xs ++ sp⟩ : Row).ver = ver from rfl, g1] at k1
    cases k1
    have hao : ao = l.o := by have := g8 (by omega); omega
    subst hao
    have hblk : l.b < w.heap.size := (Array.getElem?_eq_some_iff.1 k3).1
    have hcell : ∀ j, j < xs.length → arr[l.o + j]? = some (.int .i64 (xs.getD j 0)) := fun j hj => by
      obtain ⟨_, u, h2, h3⟩ := k6.2 j [.int .i64 (xs.getD j 0)] 0 (.int .i64 (xs.getD j 0)) (by
        rw [List.getElem?_append_left (by simpa [cl1] using hj)]; simp [cl1, hj]) rfl
      cases h3
      rw [k4] at h2
      simpa using h2
    have hc : ∀ j, j < xs.length → w.cell? ⟨l.b, l.o + j, none⟩ = some (.int .i64 (xs.getD j 0)) := fun j hj => by
      simp only [World.cell?, k3]
      exact hcell j hj
    have hf : ∀ j, j < xs.length → w.frozen? ⟨l.b, l.o + j, none⟩ = false := fun j hj => by
      simp [World.frozen?, k3]
    have hH := Lib.holds_of_ints (n := xs.length) (Nat.le_refl _) hc hf
    rw [List.take_length] at hH
    have C := calls_of_every_depth fun D => AnyS.slices_Sort_int_alone laysSort D l.b l.o cap xs w hH hblk (by omega)
    refine Calls.mono (R := _) C ?_
    rintro e w' ⟨rfl, q, os, rfl⟩
    have hsw := Lib.sorted_world (Value.int .i64) w l.b l.o q xs.toArray (sorted xs) os hH (by simp [sorted_len])
    have R1 : Rel mu pr h (w.drewN q) := R.heap rfl
    have hsl : (cl1 (sorted xs)).length = xs.length := by simp [cl1, sorted_len]
    have he : overA h.rows h.tick 1 (.sl n ver 0 xs.length) (cl1 (sorted xs)) = some (n, ⟨ver, 1, cl1 (sorted xs) ++ sp⟩) := by
      simp only [overA, hr]
      rw [if_pos ⟨trivial, trivial, by simp [cl1], by omega, ht⟩, hsl]
      simp [cl1]
    have hv' : VRs mu pr (w.drewN q).heap (cl1 (sorted xs)).flatten ((sorted xs).map (Value.int .i64)) := by
      have e1 : (cl1 (sorted xs)).flatten = (sorted xs).map (AV.int .i64) := by
        unfold cl1
        induction sorted xs with
        | nil => rfl
        | cons x l ih => simp only [List.map_cons, List.flatten_cons, ih]; rfl
      rw [e1]
      refine ⟨by simp, fun i c hi => ?_⟩
      simp only [List.getElem?_map, Option.map_eq_some_iff] at hi
      obtain ⟨x, hx, rfl⟩ := hi
      exact ⟨.int .i64 x, by simp [hx], .int _ _⟩
    obtain ⟨mu', w2, a, n2, c2, eu, hle, hrun, R2, X2, F2, hmu⟩ := overA_ok (P := Try.prog) R1 hu0 he (fun e he => by simp only [cl1, List.mem_map] at he; obtain ⟨x, _, rfl⟩ := he; rfl) (fun e he => by simp only [cl1, List.mem_map] at he; obtain ⟨x, _, rfl⟩ := he; rfl) (fun e => by have := congrArg List.length e; simp [hsl] at this; exact hne this) (by omega) hv'
    injection eu with eu _ _
    injection eu with eu
    subst eu
    have hst := run_storeCells_cells (P := Try.prog) l.b l.o ((sorted xs).map (Value.int .i64)) 0 (w.drewN q) (fun j hj => by
        have hj' : j < xs.length := by simpa [sorted_len] using hj
        rw [Nat.add_zero]
        show (w.cell? ⟨l.b, l.o + j, none⟩).isSome = true
        rw [hc j hj']; rfl) (fun j hj => by
        have hj' : j < xs.length := by simpa [sorted_len] using hj
        rw [Nat.add_zero]
        exact hf j hj') (fun v hv => by
        simp only [List.mem_map] at hv
        obtain ⟨x, _, rfl⟩ := hv
        rfl)
    rw [hst] at hrun
    injection hrun with _ hrun
    rw [Nat.add_zero] at hrun
    subst hrun
    have hw2 : Sort.grow (putRow (Value.int .i64) (Sort.ahead w q) l.b l.o ((sorted xs)).toArray) os = Sort.grow ((w.drewN q).setCells l.b l.o ((sorted xs).map (Value.int .i64))) os := hsw
    show ∃ z v h' mu' pr', _
    have hfin : ∀ W, W = Sort.grow ((w.drewN q).setCells l.b l.o ((sorted xs).map (Value.int .i64))) os → ∃ z v h' mu' pr', Ending.returned (.tuple #[]) = .returned z ∧ h' = h.put n ⟨ver, 1, cl1 (sorted xs) ++ sp⟩ ∧ VR mu' pr' W.heap v z ∧ After mu pr h w mu' pr' h' W := by
      rintro W rfl
      refine ⟨_, .tup [], _, mu', pr, rfl, rfl, VR.tup_mk .nil, ⟨R2.grown os, X2.trans (ext_grow os R2.lt), ⟨F2.os, F2.tape, F2.output, Nat.le_trans F2.size (by simp)⟩, fun b hb => .inl hb, fun b hb => hb, fun m hm hf v => by rw [hmu]; exact hf v, by rw [hp_put_tick]; exact Nat.le_refl _⟩⟩
    exact hfin _ hw2
end Go.Proofs.Ytlmlkkkgcbpaoaa.AM

/-
  Orders of blocks: the plain law.
-/
set_option linter.unusedVariables false
set_option linter.unusedSimpArgs false
set_option maxRecDepth 4000
namespace Go.Proofs.Ytlmlkkkgcbpaoaa.AM
open Go.RowKit

def rangeI (n : Nat) : List Int := (List.range n).map fun i : Nat => (i : Int)
theorem rangeI_len (n : Nat) : (rangeI n).length = n := by simp [rangeI]
theorem rangeI_mem {n : Nat} {x : Int} : x ∈ rangeI n ↔ inB x 0 ((n : Int) - 1) = true := by
  simp only [rangeI, List.mem_map, List.mem_range, inB, Bool.and_eq_true, decide_eq_true_eq]
  constructor
  · rintro ⟨a, h, rfl⟩; omega
  · rintro ⟨h1, h2⟩; exact ⟨x.toNat, by omega, by omega⟩
theorem rangeI_nodup (n : Nat) : (rangeI n).Nodup := by
  unfold rangeI
  rw [List.Nodup, List.pairwise_map]
  exact (List.nodup_range (n := n)).imp fun h e => h (by omega)
theorem rangeI_sorted (n : Nat) : (rangeI n).Pairwise (· ≤ ·) := by
  unfold rangeI
  rw [List.pairwise_map]
  exact (List.pairwise_lt_range (n := n)).imp fun h => by omega
/-- As many and among them: a permutation. -/
theorem perm_of_nodup : ∀ {l m : List Int}, l.Nodup → (∀ x ∈ l, x ∈ m) → m.length ≤ l.length → l.Perm m
  | [], m, _, _, hl => by
    have : m = [] := List.eq_nil_of_length_eq_zero (by simpa using hl)
    rw [this]
  | x :: l, m, hn, hs, hl => by
    have hx := hs x (by simp)
    have hp := List.perm_cons_erase hx
    have hn' := List.nodup_cons.1 hn
    have ih := perm_of_nodup (l := l) (m := m.erase x) hn'.2 (fun y hy => by
      have hym := hs y (by simp [hy])
      have hne : y ≠ x := fun e => hn'.1 (e ▸ hy)
      exact (List.mem_erase_of_ne hne).2 hym) (by
      have := hp.length_eq
      simp only [List.length_cons] at this hl
      omega)
    exact (List.Perm.cons x ih).trans hp.symm
theorem eq_of_sorted : ∀ {l m : List Int}, l.Pairwise (· ≤ ·) → m.Pairwise (· ≤ ·) → l.Perm m → l = m
  | [], m, _, _, hp => (List.Perm.nil_eq hp)
  | x :: l, [], _, _, hp => by have := hp.length_eq; simp at this
  | x :: l, y :: m, hl, hm, hp => by
    have h1 := List.pairwise_cons.1 hl
    have h2 := List.pairwise_cons.1 hm
    have e : x = y := by
      have hx : x ∈ y :: m := hp.subset (by simp)
      have hy : y ∈ x :: l := hp.symm.subset (by simp)
      have a1 : y ≤ x := by
        rcases List.mem_cons.1 hx with h | h
        · omega
        · exact h2.1 x h
      have a2 : x ≤ y := by
        rcases List.mem_cons.1 hy with h | h
        · omega
        · exact h1.1 y h
      omega
    subst e
    rw [eq_of_sorted h1.2 h2.2 ((List.perm_cons x).1 hp)]
theorem sorted_perm (l : List Int) : (sorted l).Perm l := List.mergeSort_perm _ _
theorem sorted_sorted (l : List Int) : (sorted l).Pairwise (· ≤ ·) := by
  have := List.pairwise_mergeSort (le := fun x y : Int => decide (x ≤ y)) (fun a b c h1 h2 => by simp at *; omega) (fun a b => by simp; omega) l
  exact this.imp fun h => by simpa using h
theorem sorted_range {l : List Int} {n : Nat} (hl : l.length = n) : sorted l = rangeI n ↔ (∀ x ∈ l, inB x 0 ((n : Int) - 1) = true) ∧ l.Nodup := by
  constructor
  · intro h
    have hp := (sorted_perm l).symm
    rw [h] at hp
    exact ⟨fun x hx => rangeI_mem.1 (hp.subset hx), (hp.symm.nodup_iff).1 (rangeI_nodup n)⟩
  · rintro ⟨h1, h2⟩
    exact eq_of_sorted (sorted_sorted l) (rangeI_sorted n) ((sorted_perm l).trans (perm_of_nodup h2 (fun x hx => rangeI_mem.2 (h1 x hx)) (by rw [rangeI_len, hl]; exact Nat.le_refl _)))
/-- What an order of a graph's blocks is. -/
def orderB (g : Graph) (l : List Int) : Bool := graphOk g && (decide (l.length = g.Blocks.length) && (decide (l.getD 0 1 = 0) && decide (sorted l = rangeI g.Blocks.length)))
end Go.Proofs.Ytlmlkkkgcbpaoaa.AM

/-
  Searches in slices, and what is left out of one: places.
-/
set_option linter.unusedVariables false
set_option linter.unusedSimpArgs false
set_option maxRecDepth 4000
namespace Go.Proofs.Ytlmlkkkgcbpaoaa.AM
open Go.RowKit

private def MG45 : FuncId → Mode := fun f => .tree

def idxF {α : Type} (q : α → Bool) (l : List α) : Int := match l.findIdx? q with
  | some k => (k : Int)
  | none => -1
theorem idxF_at {α : Type} {q : α → Bool} {l : List α} {i : Nat} (hi : i < l.length) (hq : q l[i] = true) (hn : ∀ m, m < i → ∀ hm : m < l.length, q l[m] = false) : idxF q l = i := by
  unfold idxF
  rw [List.findIdx?_eq_some_iff_getElem.2 ⟨hi, hq, fun j hj => by simpa using hn j hj (by omega)⟩]
theorem idxF_no {α : Type} {q : α → Bool} {l : List α} (hn : ∀ m, ∀ hm : m < l.length, q l[m] = false) : idxF q l = -1 := by
  unfold idxF
  rw [List.findIdx?_eq_none_iff.2 fun x hx => by
    obtain ⟨m, hm, rfl⟩ := List.mem_iff_getElem.1 hx
    exact hn m hm]
theorem idxF_spec {α : Type} (q : α → Bool) (l : List α) : (∃ k : Nat, ∃ hk : k < l.length, idxF q l = k ∧ q l[k] = true ∧ ∀ x ∈ l.take k, q x = false) ∨ (idxF q l = -1 ∧ ∀ x ∈ l, q x = false) := by
  unfold idxF
  cases hf : l.findIdx? q with
  | none => exact .inr ⟨rfl, List.findIdx?_eq_none_iff.1 hf⟩
  | some k =>
    obtain ⟨hk, h1, h2⟩ := List.findIdx?_eq_some_iff_getElem.1 hf
    refine .inl ⟨k, hk, rfl, h1, fun x hx => ?_⟩
    obtain ⟨m, hm, rfl⟩ := List.mem_iff_getElem.1 hx
    simp only [List.length_take] at hm
    rw [List.getElem_take]
    simpa using h2 m (by omega)
def eqV (p x : Plc) : Bool := decide (p.R = x.R) && (decide (p.Lo = x.Lo) && (decide (p.Hi = x.Hi) && (decide (p.Off = x.Off) && true)))
theorem eqV_iff (p x : Plc) : eqV p x = (aliasV x p == 2) := by
  rw [Bool.eq_iff_iff, beq_iff_eq, aliasV_2]
  obtain ⟨a, b, c, d⟩ := p
  obtain ⟨a', b', c', d'⟩ := x
  simp only [eqV, Bool.and_eq_true, decide_eq_true_eq, Bool.and_true, Plc.mk.injEq]
  constructor
  · rintro ⟨rfl, rfl, rfl, rfl⟩; exact ⟨rfl, rfl, rfl, rfl⟩
  · rintro ⟨rfl, rfl, rfl, rfl⟩; exact ⟨rfl, rfl, rfl, rfl⟩
theorem eqPV (p x : Plc) : eqCells [.i, .i, .i, .i] p.cells x.cells = some (eqV p x) := eqP _ _ _ _ _ _ _ _

set_option maxHeartbeats 1000000 in
theorem indexP (l : List Plc) (p : Plc) (hl : l.length ≤ 2 ^ 40) : Pure Try.prog 95 [plcs true l, .agg p.cells] (.int .i64 (idxF (eqV p) l)) := by
  intro T
  have hnil : True := trivial
  have hp : p.cells.length = 4 := rfl
  have hp1 : ones p.cells = true := rfl
  have hp2 : List.take 4 p.cells = p.cells := rfl
  refine enter mixed MG45 Try.func95 rfl (by kernel_rfl) rfl ?_
  repeat' (first
   | with_reducible refine stp ?_
   | with_reducible refine k_blk_o rfl ?_
   | ((try (conv => arg 1; simp [hp, hp1])); with_reducible refine evp ?_)
   | ((with_reducible refine apn ?na ?_); (case na => simp [appNames, ints, intss] <;> first | kernel_rfl | (refine ⟨?_, ?_⟩ <;> kernel_rfl)))
   | fail)
  refine cx_k (Cx.mt.next.box_one (T := T) (i := 0) (r := ⟨0, 4, [p.cells]⟩) Cx.mt.off (by simp)) ?_
  intro h1 x1
  repeat' (first
   | with_reducible refine stp ?_
   | with_reducible refine k_blk_o rfl ?_
   | with_reducible refine k_seq_n ?_
   | ((try (conv => arg 1; simp [plcs])); with_reducible refine evp ?_)
   | ((with_reducible refine apn ?na ?_); (case na => simp [appNames, ints, intss] <;> first | kernel_rfl | (refine ⟨?_, ?_⟩ <;> kernel_rfl)))
   | fail)
  refine st_loop (fun (i : Nat) σ h => i ≤ l.length ∧ σ 0 = plcs true l ∧ σ 3 = .ptr (T, 0, 0) 0 0 0 ∧ σ 7 = .int .i64 l.length ∧ σ 8 = .int .i64 i ∧ (∀ m, m < i → ∀ hm : m < l.length, eqV p l[m] = false) ∧ Cx h [((T, 0, 0), ⟨0, 4, [p.cells]⟩)] []) (fun i => l.length - i) 0 ?init ?step
  case init => exact ⟨Nat.zero_le _, by simp [plcs], by simp, by simp, by simp, fun m hm => by omega, Cx.to x1⟩
  case step =>
    rintro i σ h ⟨hi, s0, s3, s7, s8, hm, x⟩
    have b := x.bxs
    simp only [Bxs] at b
    by_cases hlt : i < l.length
    · have hlt2 : (i : Int) < l.length := by omega
      have hw : IntKind.i64.wrap (i + 1) = i + 1 := wrap_id (by omega) (by omega)
      have hx : l[i]? = some l[i] := by simp
      have hlen : l[i].cells.length = 4 := rfl
      have htk : List.take 4 l[i].cells = l[i].cells := rfl
      have hT : ¬ T = h.tick + 1 + 1 := by omega
      have E := eqPV p l[i]
      cases ha : eqV p l[i] with
      | true =>
        rw [ha] at E
        repeat' (first
         | with_reducible refine stp ?_
         | with_reducible refine k_blk_o rfl ?_
         | with_reducible refine k_seq_n ?_
         | ((try (conv => arg 1; simp [s0, s3, s7, s8, plcs, hlt2])); with_reducible refine evp ?_)
         | ((with_reducible refine apn ?na ?_); (case na => simp [appNames, ints, intss] <;> first | kernel_rfl | (refine ⟨?_, ?_⟩ <;> kernel_rfl)))
         | fail)
        repeat (with_reducible first | refine stp ?_ | refine k_seq_n ?_)
        refine st_draw 6 (fun _ => false) (by kernel_rfl) ?_
        simp only [List.take_succ_cons, List.take_zero, List.drop_succ_cons, List.drop_zero, List.take_nil, List.drop_nil]
        repeat' (first
         | with_reducible refine stp ?_
         | with_reducible refine k_blk_o rfl ?_
         | with_reducible refine k_seq_n ?_
         | ((try (conv => arg 1; simp [s0, s3, s7, s8, plcs, b, hp, hp1, hp2, hx, hlen, htk, E, maskR, hT])); with_reducible refine evp ?_)
         | ((with_reducible refine apn ?na ?_); (case na => simp [appNames, ints, intss] <;> first | kernel_rfl | (refine ⟨?_, ?_⟩ <;> kernel_rfl)))
         | fail)
        rw [idxF_at hlt ha hm]
        exact .int _ _
      | false =>
        rw [ha] at E
        repeat' (first
         | with_reducible refine stp ?_
         | with_reducible refine k_blk_o rfl ?_
         | with_reducible refine k_seq_n ?_
         | ((try (conv => arg 1; simp [s0, s3, s7, s8, plcs, hlt2])); with_reducible refine evp ?_)
         | ((with_reducible refine apn ?na ?_); (case na => simp [appNames, ints, intss] <;> first | kernel_rfl | (refine ⟨?_, ?_⟩ <;> kernel_rfl)))
         | fail)
        repeat (with_reducible first | refine stp ?_ | refine k_seq_n ?_)
        refine st_draw 6 (fun _ => false) (by kernel_rfl) ?_
        simp only [List.take_succ_cons, List.take_zero, List.drop_succ_cons, List.drop_zero, List.take_nil, List.drop_nil]
        repeat' (first
         | with_reducible refine stp ?_
         | with_reducible refine k_blk_o rfl ?_
         | with_reducible refine k_seq_n ?_
         | ((try (conv => arg 1; simp [s0, s3, s7, s8, plcs, b, hp, hp1, hp2, hx, hlen, htk, E, hw, maskR, hT])); with_reducible refine evp ?_)
         | ((with_reducible refine apn ?na ?_); (case na => simp [appNames, ints, intss] <;> first | kernel_rfl | (refine ⟨?_, ?_⟩ <;> kernel_rfl)))
         | fail)
        refine k_lp_n (i + 1) (by omega) ⟨by omega, by simp [s0, plcs], by simp [s3], by simp [s7], by simp, fun m h1 h2 => ?_, Cx.to x⟩
        by_cases e : m = i
        · subst e; exact ha
        · exact hm m (by omega) h2
    · have hge : i = l.length := by omega
      have hlt2 : ¬ (i : Int) < l.length := by omega
      repeat' (first
       | with_reducible refine stp ?_
       | with_reducible refine k_blk_o rfl ?_
       | with_reducible refine k_seq_n ?_
       | ((try (conv => arg 1; simp [s0, s3, s7, s8, plcs, hlt2])); with_reducible refine evp ?_)
       | ((with_reducible refine apn ?na ?_); (case na => simp [appNames, ints, intss] <;> first | kernel_rfl | (refine ⟨?_, ?_⟩ <;> kernel_rfl)))
       | fail)
      rw [idxF_no fun m h1 => hm m (by omega) h1]
      exact .int _ _
theorem containsP (l : List Plc) (p : Plc) (hl : l.length ≤ 2 ^ 40) : Pure Try.prog 60 [plcs true l, .agg p.cells] (.bool (mustV l p)) := by
  intro T
  have hp : p.cells.length = 4 := rfl
  have hp1 : ones p.cells = true := rfl
  have hp2 : List.take 4 p.cells = p.cells := rfl
  have I := indexP l p hl
  refine enter mixed MG45 Try.func60 rfl (by kernel_rfl) rfl ?_
  rcases idxF_spec (eqV p) l with ⟨k, hk, e, h1, _⟩ | ⟨e, h1⟩
  · rw [e] at I
    repeat' (first
     | with_reducible refine stp ?_
     | with_reducible refine k_blk_o rfl ?_
     | with_reducible refine k_seq_n ?_
     | ((try (conv => arg 1; simp [plcs, hp, hp1, hp2])); with_reducible refine evp ?_)
     | ((with_reducible refine apn ?na ?_); (case na => simp [appNames, ints, intss] <;> first | kernel_rfl | (refine ⟨?_, ?_⟩ <;> kernel_rfl)))
     | ((with_reducible refine tcl ?_); first | ((apply tg (I)); (case e => rfl); (case d => (refine dq ?_); (repeat' (first | ((refine Da.mk ?_); first | exact dr_plcs (by simp) _ | exact drs_plc _ | assumption) | constructor)))))
     | fail)
    have : mustV l p = true := by
      unfold mustV; rw [List.any_eq_true]; exact ⟨l[k], List.getElem_mem hk, by rw [← eqV_iff]; exact h1⟩
    rw [this]
    exact dr_bool (by simp)
  · rw [e] at I
    repeat' (first
     | with_reducible refine stp ?_
     | with_reducible refine k_blk_o rfl ?_
     | with_reducible refine k_seq_n ?_
     | ((try (conv => arg 1; simp [plcs, hp, hp1, hp2])); with_reducible refine evp ?_)
     | ((with_reducible refine apn ?na ?_); (case na => simp [appNames, ints, intss] <;> first | kernel_rfl | (refine ⟨?_, ?_⟩ <;> kernel_rfl)))
     | ((with_reducible refine tcl ?_); first | ((apply tg (I)); (case e => rfl); (case d => (refine dq ?_); (repeat' (first | ((refine Da.mk ?_); first | exact dr_plcs (by simp) _ | exact drs_plc _ | assumption) | constructor)))))
     | fail)
    have : mustV l p = false := by
      unfold mustV; rw [List.any_eq_false]; exact fun x hx => by rw [← eqV_iff, h1 x hx]; simp
    rw [this]
    exact dr_bool (by simp)

theorem clearA_at {P : Program} {t : TypeId} {n : Nm} {v off len s : Nat} {h : Hp} {pre mid post : List (List AV)} {z : List AV} (h0 : ((telem P t).bind fun e => (tsz P e).bind fun s => (tzero P e).bind fun z => some (s, z, decide (z.length = s ∧ 0 < s ∧ ones z = true))) = some (s, z, true))
    (hr : h.rows n = some ⟨v, s, pre ++ (mid ++ post)⟩) (hp : pre.length = off) (hm : mid.length = len) (ht : n.1 < h.tick) : clearA P t (.sl n v off len) h = some (h.put n ⟨v, s, pre ++ (List.replicate len z ++ post)⟩) := by
  simp only [Option.bind_eq_some_iff] at h0
  obtain ⟨e, he, s', hs, z', hz, hd⟩ := h0
  simp only [Option.some.injEq, Prod.mk.injEq, decide_eq_true_eq] at hd
  obtain ⟨rfl, rfl, hd⟩ := hd
  unfold clearA
  simp only [he, lenOfA, hs, hz]
  subst hp hm
  by_cases h0 : mid.length = 0
  · rw [if_pos h0]
    have : mid = [] := List.eq_nil_of_length_eq_zero h0
    subst this
    congr 1
    exact (hp_put_same (by simpa using hr)).symm
  · rw [if_neg h0, if_pos hd]
    have e1 : (pre ++ (mid ++ post)).take pre.length = pre := by simp
    have e2 : (pre ++ (mid ++ post)).drop (pre.length + mid.length) = post := by rw [← List.append_assoc]; exact List.drop_left' (by simp)
    simp only [overA, hr]
    rw [if_pos ⟨trivial, trivial, by simp, by simp, ht⟩]
    simp only [e1, List.length_replicate, e2, List.append_assoc]
end Go.Proofs.Ytlmlkkkgcbpaoaa.AM

/-
  Orders of blocks: the program's parts.
-/
set_option linter.unusedVariables false
set_option linter.unusedSimpArgs false
set_option maxRecDepth 4000
namespace Go.Proofs.Ytlmlkkkgcbpaoaa.AM
open Go.RowKit

private def MG72 : FuncId → Mode := fun f => if f = 124 ∨ f = 125 ∨ f = 85 then .heap else .tree

theorem numbers (n : Nat) (hn : n ≤ 2 ^ 20) : Pure Try.prog 86 [.int .i64 n] (ints false (rangeI n)) := by
  intro T
  have hnil : True := trivial
  have hrs : ∀ i : Nat, rangeI (i + 1) = rangeI i ++ [(i : Int)] := fun i => by simp [rangeI, List.range_succ]
  refine enter mixed MG72 Try.func86 rfl (by kernel_rfl) rfl ?_
  repeat' (first
   | with_reducible refine stp ?_
   | with_reducible refine k_blk_o rfl ?_
   | with_reducible refine k_seq_n ?_
   | ((try (conv => arg 1; simp [hnil])); with_reducible refine evp ?_)
   | ((with_reducible refine apn ?na ?_); (case na => simp [appNames, ints, intss] <;> first | kernel_rfl | (refine ⟨?_, ?_⟩ <;> kernel_rfl)))
   | fail)
  refine st_loop (fun (i : Nat) σ h => i ≤ n ∧ σ 3 = .sl (T + 1, 0, 0) i 0 i ∧ σ 6 = .int .i64 n ∧ σ 7 = .int .i64 i ∧ Cx h [((T + 1, 0, 0), ⟨i, 1, cl1 (rangeI i)⟩)] []) (fun i => n - i) 0 ?init ?step
  case init =>
    have x0 := Cx.mt (T := T).next.next.box_one (T := T + 1) (i := 0) (r := ⟨0, 1, []⟩) (fun n hn => by simp [nms] at hn) (by simp)
    exact ⟨Nat.zero_le _, by simp, by simp, by simp, Cx.to x0⟩
  case step =>
    rintro i σ h ⟨hi, s3, s6, s7, x⟩
    have b := x.bxs
    simp only [Bxs] at b
    have hw : IntKind.i64.wrap (i + 1) = i + 1 := wrap_id (by omega) (by omega)
    by_cases hlt : i < n
    · have hlt2 : (i : Int) < n := by omega
      repeat' (first
       | with_reducible refine stp ?_
       | with_reducible refine k_blk_o rfl ?_
       | with_reducible refine k_seq_n ?_
       | ((try (conv => arg 1; simp [s3, s6, s7, b, hlt2, ltS, nm_ne])); with_reducible refine evp ?_)
       | ((with_reducible refine apn ?na ?_); (case na => simp [appNames, ints, intss] <;> first | kernel_rfl | (refine ⟨?_, ?_⟩ <;> kernel_rfl)))
       | fail)
      conv => arg 1; simp
      rw [appendA_snoc (s := 1) (l := cl1 (rangeI i)) (e := [.int .i64 i]) (by kernel_rfl) ?hr (by simp [cl1, rangeI_len]) ?hk rfl (by omega) ?hm]
      case hr => simp [b, nm_ne, ltS]
      case hk => simp
      case hm => simp [b, ltS]
      refine ev2_some ?_
      repeat' (first
       | with_reducible refine stp ?_
       | with_reducible refine k_blk_o rfl ?_
       | with_reducible refine k_seq_n ?_
       | ((try (conv => arg 1; simp [s3, s6, s7, hw])); with_reducible refine evp ?_)
       | ((with_reducible refine apn ?na ?_); (case na => simp [appNames, ints, intss] <;> first | kernel_rfl | (refine ⟨?_, ?_⟩ <;> kernel_rfl)))
       | fail)
      refine k_lp_n (i + 1) (by omega) ⟨by omega, by simp, by simp [s6], by simp, ?_⟩
      rw [hrs, show cl1 (rangeI i ++ [(i : Int)]) = cl1 (rangeI i) ++ [[.int .i64 i]] by simp [cl1]]
      exact Cx.to x
    · have hge : i = n := by omega
      have hlt2 : ¬ (i : Int) < n := by omega
      subst hge
      repeat' (first
       | with_reducible refine stp ?_
       | with_reducible refine k_blk_o rfl ?_
       | with_reducible refine k_seq_n ?_
       | ((try (conv => arg 1; simp [s3, s6, s7, hlt2])); with_reducible refine evp ?_)
       | ((with_reducible refine apn ?na ?_); (case na => simp [appNames, ints, intss] <;> first | kernel_rfl | (refine ⟨?_, ?_⟩ <;> kernel_rfl)))
       | fail)
      exact dr_ints_sl' (rangeI_len i) (by simpa [cl1] using b.1)

theorem equalII (a l : List Int) (h1 : a.length ≤ 2 ^ 40) : Pure Try.prog 84 [ints true a, ints true l] (.bool (decide (a = l))) := by
  intro T
  have hnil : True := trivial
  refine enter mixed MG72 Try.func84 rfl (by kernel_rfl) rfl ?_
  by_cases hl : a.length = l.length
  · have hl2 : (a.length : Int) = l.length := by omega
    repeat' (first
     | with_reducible refine stp ?_
     | with_reducible refine k_blk_o rfl ?_
     | with_reducible refine k_seq_n ?_
     | ((try (conv => arg 1; simp [ints, hl2, hl])); with_reducible refine evp ?_)
     | ((with_reducible refine apn ?na ?_); (case na => simp [appNames, ints, intss] <;> first | kernel_rfl | (refine ⟨?_, ?_⟩ <;> kernel_rfl)))
     | fail)
    refine st_loop (fun (i : Nat) σ h => i ≤ l.length ∧ σ 0 = ints true a ∧ σ 1 = ints true l ∧ σ 12 = .int .i64 l.length ∧ σ 13 = .int .i64 i ∧ a.take i = l.take i) (fun i => l.length - i) 0 ?init ?step
    case init => exact ⟨Nat.zero_le _, by simp [ints], by simp [ints], by simp, by simp, by simp⟩
    case step =>
      rintro i σ h ⟨hi, s0, s1, s12, s13, ht⟩
      have hw : IntKind.i64.wrap (i + 1) = i + 1 := wrap_id (by omega) (by omega)
      by_cases hlt : i < l.length
      · have hlt2 : (i : Int) < l.length := by omega
        have hx : a[i]? = some (a[i]'(by omega)) := by simp
        have hy : l[i]? = some l[i] := by simp
        have hla : i < a.length := by omega
        by_cases he : a[i] = l[i]
        · skip
          repeat' (first
           | with_reducible refine stp ?_
           | with_reducible refine k_blk_o rfl ?_
           | with_reducible refine k_seq_n ?_
           | ((try (conv => arg 1; simp [s0, s1, s12, s13, ints, hlt2])); with_reducible refine evp ?_)
           | ((with_reducible refine apn ?na ?_); (case na => simp [appNames, ints, intss] <;> first | kernel_rfl | (refine ⟨?_, ?_⟩ <;> kernel_rfl)))
           | fail)
          repeat (with_reducible first | refine stp ?_ | refine k_seq_n ?_)
          refine st_draw 9 (fun _ => false) (by kernel_rfl) ?_
          simp only [List.take_succ_cons, List.take_zero, List.drop_succ_cons, List.drop_zero, List.take_nil, List.drop_nil]
          repeat' (first
           | with_reducible refine stp ?_
           | with_reducible refine k_blk_o rfl ?_
           | with_reducible refine k_seq_n ?_
           | ((try (conv => arg 1; simp [s0, s1, s12, s13, ints, hx, hy, he, hw])); with_reducible refine evp ?_)
           | ((with_reducible refine apn ?na ?_); (case na => simp [appNames, ints, intss] <;> first | kernel_rfl | (refine ⟨?_, ?_⟩ <;> kernel_rfl)))
           | fail)
          refine k_lp_n (i + 1) (by omega) ⟨by omega, by simp [s0, ints], by simp [s1, ints], by simp [s12], by simp, ?_⟩
          rw [take_snoc hla, take_snoc hlt, ht, he]
        · skip
          repeat' (first
           | with_reducible refine stp ?_
           | with_reducible refine k_blk_o rfl ?_
           | with_reducible refine k_seq_n ?_
           | ((try (conv => arg 1; simp [s0, s1, s12, s13, ints, hlt2])); with_reducible refine evp ?_)
           | ((with_reducible refine apn ?na ?_); (case na => simp [appNames, ints, intss] <;> first | kernel_rfl | (refine ⟨?_, ?_⟩ <;> kernel_rfl)))
           | fail)
          repeat (with_reducible first | refine stp ?_ | refine k_seq_n ?_)
          refine st_draw 9 (fun _ => false) (by kernel_rfl) ?_
          simp only [List.take_succ_cons, List.take_zero, List.drop_succ_cons, List.drop_zero, List.take_nil, List.drop_nil]
          repeat' (first
           | with_reducible refine stp ?_
           | with_reducible refine k_blk_o rfl ?_
           | with_reducible refine k_seq_n ?_
           | ((try (conv => arg 1; simp [s0, s1, s12, s13, ints, hx, hy, he, hw])); with_reducible refine evp ?_)
           | ((with_reducible refine apn ?na ?_); (case na => simp [appNames, ints, intss] <;> first | kernel_rfl | (refine ⟨?_, ?_⟩ <;> kernel_rfl)))
           | fail)
          refine dr_bool ?_
          symm
          rw [decide_eq_false_iff_not]
          rintro rfl
          exact he rfl
      · have hge : i = l.length := by omega
        have hlt2 : ¬ (i : Int) < l.length := by omega
        repeat' (first
         | with_reducible refine stp ?_
         | with_reducible refine k_blk_o rfl ?_
         | with_reducible refine k_seq_n ?_
         | ((try (conv => arg 1; simp [s0, s1, s12, s13, ints, hlt2])); with_reducible refine evp ?_)
         | ((with_reducible refine apn ?na ?_); (case na => simp [appNames, ints, intss] <;> first | kernel_rfl | (refine ⟨?_, ?_⟩ <;> kernel_rfl)))
         | fail)
        refine dr_bool ?_
        symm
        rw [decide_eq_true_iff]
        rw [hge, List.take_length, ← hl, List.take_length] at ht
        exact ht
  · have hl2 : ¬ (a.length : Int) = l.length := by omega
    repeat' (first
     | with_reducible refine stp ?_
     | with_reducible refine k_blk_o rfl ?_
     | with_reducible refine k_seq_n ?_
     | ((try (conv => arg 1; simp [ints, hl2, hl])); with_reducible refine evp ?_)
     | ((with_reducible refine apn ?na ?_); (case na => simp [appNames, ints, intss] <;> first | kernel_rfl | (refine ⟨?_, ?_⟩ <;> kernel_rfl)))
     | fail)
    refine dr_bool ?_
    symm
    rw [decide_eq_false_iff_not]
    rintro rfl
    exact hl rfl
end Go.Proofs.Ytlmlkkkgcbpaoaa.AM

/-
  Orders of blocks: the program's.
-/
set_option linter.unusedVariables false
set_option linter.unusedSimpArgs false
set_option maxRecDepth 4000
namespace Go.Proofs.Ytlmlkkkgcbpaoaa.AM
open Go.RowKit

private def MG73 : FuncId → Mode := fun f => if f = 124 ∨ f = 125 ∨ f = 85 then .heap else .tree

theorem cl1_at {xs : List Int} {i : Nat} (hi : i < xs.length) : (cl1 xs)[i]? = some [.int .i64 xs[i]] := by simp [cl1, hi]
theorem not_nodup {xs : List Int} {i : Nat} (hi : i + 1 < xs.length) (he : xs[i + 1] = xs[i]) : ¬ xs.Nodup := fun h => by
  have := (List.pairwise_iff_getElem.1 h) i (i + 1) (by omega) hi (by omega)
  exact this he.symm

set_option maxHeartbeats 2000000 in
theorem compactS (xs : List Int) {m : Nat} (hm : xs.length = m) (hl : m ≤ 2 ^ 31) {h : Hp} {bs : Bx} {os : Ox} {n : Nm} {ver : Nat} (x : Cx h ((n, ⟨ver, 1, cl1 xs⟩) :: bs) os) :
    Sound Try.prog 125 [.sl n ver 0 m] h fun v h' => ∃ ys sp, v = .sl n ver 0 ys.length ∧ (ys = xs ∨ (ys.length < xs.length ∧ ¬ xs.Nodup)) ∧ Cx h' ((n, ⟨ver, 1, cl1 ys ++ sp⟩) :: bs) os := by
  have hnil : True := trivial
  subst hm
  refine enter mixed MG73 Try.func125 rfl (by kernel_rfl) rfl ?_
  by_cases h2 : (xs.length : Int) < 2
  · skip
    repeat' (first
     | with_reducible refine stp ?_
     | with_reducible refine k_blk_o rfl ?_
     | with_reducible refine k_seq_n ?_
     | ((try (conv => arg 1; simp [h2])); with_reducible refine evp ?_)
     | ((with_reducible refine apn ?na ?_); (case na => simp [appNames, ints, intss] <;> first | kernel_rfl | (refine ⟨?_, ?_⟩ <;> kernel_rfl)))
     | fail)
    exact ⟨xs, [], rfl, .inl rfl, by rw [List.append_nil]; exact Cx.to x⟩
  · skip
    repeat' (first
     | with_reducible refine stp ?_
     | with_reducible refine k_blk_o rfl ?_
     | with_reducible refine k_seq_n ?_
     | ((try (conv => arg 1; simp [h2])); with_reducible refine evp ?_)
     | ((with_reducible refine apn ?na ?_); (case na => simp [appNames, ints, intss] <;> first | kernel_rfl | (refine ⟨?_, ?_⟩ <;> kernel_rfl)))
     | fail)
    refine st_loop (fun (k : Nat) σ h' => 1 ≤ k ∧ k ≤ xs.length ∧ σ 0 = .sl n ver 0 xs.length ∧ σ 3 = .int .i64 k ∧ Cx h' ((n, ⟨ver, 1, cl1 xs⟩) :: bs) os) (fun k => xs.length - k) 1 ?init ?step
    case init => exact ⟨Nat.le_refl _, by omega, by simp, by simp, Cx.to x⟩
    case step =>
      rintro k σ h' ⟨hk1, hk, s0, s3, y⟩
      have b := y.bxs
      simp only [Bxs] at b
      by_cases hlt : k < xs.length
      · have hlt2 : (k : Int) < xs.length := by omega
        have hw : IntKind.i64.wrap (k + 1) = k + 1 := wrap_id (by omega) (by omega)
        have hwk : IntKind.i64.wrap ((k : Int) - 1) = ((k - 1 : Nat) : Int) := by rw [wrap_id (by omega) (by omega)]; omega
        have hg1 := cl1_at hlt
        have hk2 : k - 1 < xs.length := by omega
        have hg2 := cl1_at hk2
        have hT : ¬ n.1 = h'.tick + 1 := by have := b.2.1; omega
        have hcl : (cl1 xs).length = xs.length := by simp [cl1]
        have hsl : k ≤ xs.length := by omega
        generalize hE : cl1 xs = E at *
        generalize hj : k - 1 = j at *
        by_cases he : xs[k] = xs[j]
        · have hnn : ¬ xs.Nodup := by
            have e1 : k = j + 1 := by omega
            subst e1
            exact not_nodup hlt he
          repeat' (first
           | with_reducible refine stp ?_
           | with_reducible refine k_blk_o rfl ?_
           | with_reducible refine k_seq_n ?_
           | ((try (conv => arg 1; simp [s0, s3, hlt2])); with_reducible refine evp ?_)
           | ((with_reducible refine apn ?na ?_); (case na => simp [appNames, ints, intss] <;> first | kernel_rfl | (refine ⟨?_, ?_⟩ <;> kernel_rfl)))
           | fail)
          repeat (with_reducible first | refine stp ?_ | refine k_seq_n ?_)
          refine st_draw 10 (fun _ => false) (by kernel_rfl) ?_
          simp only [List.take_succ_cons, List.take_zero, List.drop_succ_cons, List.drop_zero, List.take_nil, List.drop_nil]
          repeat' (first
           | with_reducible refine stp ?_
           | with_reducible refine k_blk_o rfl ?_
           | with_reducible refine k_seq_n ?_
           | ((try (conv => arg 1; simp [s0, s3, b, hlt, hlt2, hk2, hwk, hg1, hg2, he, maskR, hT])); with_reducible refine evp ?_)
           | ((with_reducible refine apn ?na ?_); (case na => simp [appNames, ints, intss] <;> first | kernel_rfl | (refine ⟨?_, ?_⟩ <;> kernel_rfl)))
           | fail)
          repeat' (first
           | with_reducible refine stp ?_
           | with_reducible refine k_blk_o rfl ?_
           | with_reducible refine k_seq_n ?_
           | ((try (conv => arg 1; simp [s0, s3, b, hlt, hlt2, hsl, hcl, sliceA, bnd])); with_reducible refine evp ?_)
           | ((with_reducible refine apn ?na ?_); (case na => simp [appNames, ints, intss] <;> first | kernel_rfl | (refine ⟨?_, ?_⟩ <;> kernel_rfl)))
           | fail)
          refine st_loop (fun (i : Nat) σ h' => 1 ≤ i ∧ i ≤ xs.length - k ∧ σ 0 = .sl n ver 0 xs.length ∧ σ 4 = .sl n ver k (xs.length - k) ∧ σ 5 = .int .i64 i ∧ ∃ (cur : List Int) (m : Nat), cur.length = xs.length ∧ k ≤ m ∧ m < k + i ∧ σ 3 = .int .i64 m ∧ Cx h' ((n, ⟨ver, 1, cl1 cur⟩) :: bs) os) (fun i => xs.length - k - i) 1 ?init ?step
          case init => exact ⟨Nat.le_refl _, by omega, by simp [s0], by simp, by simp, xs, k, rfl, Nat.le_refl _, by omega, by simp [s3], by rw [hE]; exact Cx.to y⟩
          case step =>
            rintro i σ h2 ⟨hi1, hi, s0, s4, s5, cur, m, hcu, hm1, hm2, s3, z⟩
            have bz := z.bxs
            simp only [Bxs] at bz
            by_cases hil : i < xs.length - k
            · have hil2 : (i : Int) < ((xs.length - k : Nat) : Int) := by omega
              have hwi : IntKind.i64.wrap (i + 1) = i + 1 := wrap_id (by omega) (by omega)
              have hwm : IntKind.i64.wrap (m + 1) = m + 1 := wrap_id (by omega) (by omega)
              have hwi2 : IntKind.i64.wrap ((i : Int) - 1) = ((i - 1 : Nat) : Int) := by rw [wrap_id (by omega) (by omega)]; omega
              have ha : k + i < cur.length := by omega
              have ha2 : k + (i - 1) < cur.length := by omega
              have hg3 := cl1_at ha
              have hg4 := cl1_at ha2
              have hmx : m < xs.length := by omega
              have hg5 := cl1_at (xs := cur) (i := m) (by omega)
              have hT2 : ¬ n.1 = h2.tick + 1 := by have := bz.2.1; omega
              have hi2l : i - 1 < xs.length - k := by omega
              have hset : ∀ c : Int, (cl1 cur).set m [.int .i64 c] = cl1 (cur.set m c) := fun c => by simp [cl1, List.map_set]
              generalize hq : i - 1 = q at *
              generalize hrm : xs.length - k = rm at *
              generalize hF : cl1 cur = F at *
              by_cases hc : cur[k + i] = cur[k + q]
              · skip
                repeat' (first
                 | with_reducible refine stp ?_
                 | with_reducible refine k_blk_o rfl ?_
                 | with_reducible refine k_seq_n ?_
                 | ((try (conv => arg 1; simp [s0, s3, s4, s5, hil2])); with_reducible refine evp ?_)
                 | ((with_reducible refine apn ?na ?_); (case na => simp [appNames, ints, intss] <;> first | kernel_rfl | (refine ⟨?_, ?_⟩ <;> kernel_rfl)))
                 | fail)
                repeat (with_reducible first | refine stp ?_ | refine k_seq_n ?_)
                refine st_draw 10 (fun _ => false) (by kernel_rfl) ?_
                simp only [List.take_succ_cons, List.take_zero, List.drop_succ_cons, List.drop_zero, List.take_nil, List.drop_nil]
                repeat' (first
                 | with_reducible refine stp ?_
                 | with_reducible refine k_blk_o rfl ?_
                 | with_reducible refine k_seq_n ?_
                 | ((try (conv => arg 1; simp [s0, s3, s4, s5, bz, hil, hi2l, hwi2, hg3, hg4, hc, hwi, maskR, hT2])); with_reducible refine evp ?_)
                 | ((with_reducible refine apn ?na ?_); (case na => simp [appNames, ints, intss] <;> first | kernel_rfl | (refine ⟨?_, ?_⟩ <;> kernel_rfl)))
                 | fail)
                refine k_lp_n (i + 1) (by omega) ⟨by omega, by omega, by simp [s0], by simp [s4], by simp, cur, m, hcu, hm1, by omega, by simp [s3], by rw [hF]; exact Cx.to z⟩
              · skip
                repeat' (first
                 | with_reducible refine stp ?_
                 | with_reducible refine k_blk_o rfl ?_
                 | with_reducible refine k_seq_n ?_
                 | ((try (conv => arg 1; simp [s0, s3, s4, s5, hil2])); with_reducible refine evp ?_)
                 | ((with_reducible refine apn ?na ?_); (case na => simp [appNames, ints, intss] <;> first | kernel_rfl | (refine ⟨?_, ?_⟩ <;> kernel_rfl)))
                 | fail)
                repeat (with_reducible first | refine stp ?_ | refine k_seq_n ?_)
                refine st_draw 10 (fun _ => false) (by kernel_rfl) ?_
                simp only [List.take_succ_cons, List.take_zero, List.drop_succ_cons, List.drop_zero, List.take_nil, List.drop_nil]
                repeat' (first
                 | with_reducible refine stp ?_
                 | with_reducible refine k_blk_o rfl ?_
                 | with_reducible refine k_seq_n ?_
                 | ((try (conv => arg 1; simp [s0, s3, s4, s5, bz, hil, hi2l, hwi2, hg3, hg4, hg5, hmx, hc, hwi, hwm, maskR, hT2])); with_reducible refine evp ?_)
                 | ((with_reducible refine apn ?na ?_); (case na => simp [appNames, ints, intss] <;> first | kernel_rfl | (refine ⟨?_, ?_⟩ <;> kernel_rfl)))
                 | fail)
                refine k_lp_n (i + 1) (by omega) ⟨by omega, by omega, by simp [s0], by simp [s4], by simp, cur.set m cur[k + i], m + 1, by simp [hcu], by omega, by omega, by simp, ?_⟩
                rw [← hset]
                exact Cx.to z
            · have hil2 : ¬ (i : Int) < ((xs.length - k : Nat) : Int) := by omega
              have hmn : m < xs.length := by omega
              have hml : m ≤ xs.length := by omega
              have ee : cl1 cur = cl1 (cur.take m) ++ (cl1 (cur.drop m) ++ []) := by
                rw [List.append_nil]; simp only [cl1]; rw [← List.map_append, List.take_append_drop]
              have row := bz.1
              rw [ee] at row
              have hcl2 : (cl1 cur).length = xs.length := by simp [cl1, hcu]
              have hpl : (cl1 (cur.take m)).length = m := by simp [cl1]; omega
              have hdl : (cl1 (cur.drop m)).length = xs.length - m := by simp [cl1]; omega
              generalize hrm : xs.length - k = rm at *
              generalize hF : cl1 cur = F at *
              repeat' (first
               | with_reducible refine stp ?_
               | with_reducible refine k_blk_o rfl ?_
               | with_reducible refine k_seq_n ?_
               | ((try (conv => arg 1; simp [s0, s3, s4, s5, hil2, bz, hml, hcl2, sliceA, bnd])); with_reducible refine evp ?_)
               | ((with_reducible refine apn ?na ?_); (case na => simp [appNames, ints, intss] <;> first | kernel_rfl | (refine ⟨?_, ?_⟩ <;> kernel_rfl)))
               | fail)
              conv => arg 1; simp
              rw [clearA_at (s := 1) (z := [AV.int .i64 0]) (pre := cl1 (cur.take m)) (mid := cl1 (cur.drop m)) (post := []) (by kernel_rfl) (by simpa using row) hpl hdl (by have := bz.2.1; simp; omega)]
              refine ev2_some ?_
              have hRl : m ≤ (cl1 (cur.take m) ++ (List.replicate (xs.length - m) [AV.int .i64 0] ++ [])).length := by simp [cl1]; omega
              generalize hR : cl1 (cur.take m) ++ (List.replicate (xs.length - m) [AV.int .i64 0] ++ []) = R at *
              repeat' (first
               | with_reducible refine stp ?_
               | with_reducible refine k_blk_o rfl ?_
               | with_reducible refine k_seq_n ?_
               | ((try (conv => arg 1; simp [s0, s3, s4, s5, bz, hml, hRl, sliceA, bnd])); with_reducible refine evp ?_)
               | ((with_reducible refine apn ?na ?_); (case na => simp [appNames, ints, intss] <;> first | kernel_rfl | (refine ⟨?_, ?_⟩ <;> kernel_rfl)))
               | fail)
              refine ⟨cur.take m, List.replicate (xs.length - m) [AV.int .i64 0] ++ [], ?_, .inr ⟨by simp; omega, hnn⟩, by rw [hR]; exact Cx.to z⟩
              rw [show (cur.take m).length = m by simp; omega]
              rfl
        · skip
          repeat' (first
           | with_reducible refine stp ?_
           | with_reducible refine k_blk_o rfl ?_
           | with_reducible refine k_seq_n ?_
           | ((try (conv => arg 1; simp [s0, s3, hlt2])); with_reducible refine evp ?_)
           | ((with_reducible refine apn ?na ?_); (case na => simp [appNames, ints, intss] <;> first | kernel_rfl | (refine ⟨?_, ?_⟩ <;> kernel_rfl)))
           | fail)
          repeat (with_reducible first | refine stp ?_ | refine k_seq_n ?_)
          refine st_draw 10 (fun _ => false) (by kernel_rfl) ?_
          simp only [List.take_succ_cons, List.take_zero, List.drop_succ_cons, List.drop_zero, List.take_nil, List.drop_nil]
          repeat' (first
           | with_reducible refine stp ?_
           | with_reducible refine k_blk_o rfl ?_
           | with_reducible refine k_seq_n ?_
           | ((try (conv => arg 1; simp [s0, s3, b, hlt, hlt2, hk2, hwk, hg1, hg2, he, hw, maskR, hT])); with_reducible refine evp ?_)
           | ((with_reducible refine apn ?na ?_); (case na => simp [appNames, ints, intss] <;> first | kernel_rfl | (refine ⟨?_, ?_⟩ <;> kernel_rfl)))
           | fail)
          refine k_lp_n (k + 1) (by omega) ⟨by omega, by omega, by simp [s0], by simp, Cx.to y⟩
      · have hge : k = xs.length := by omega
        have hlt2 : ¬ (k : Int) < xs.length := by omega
        repeat' (first
         | with_reducible refine stp ?_
         | with_reducible refine k_blk_o rfl ?_
         | with_reducible refine k_seq_n ?_
         | ((try (conv => arg 1; simp [s0, s3, hlt2])); with_reducible refine evp ?_)
         | ((with_reducible refine apn ?na ?_); (case na => simp [appNames, ints, intss] <;> first | kernel_rfl | (refine ⟨?_, ?_⟩ <;> kernel_rfl)))
         | fail)
        exact ⟨xs, [], rfl, .inl rfl, by rw [List.append_nil]; exact Cx.to y⟩

theorem ascendingS (xs : List Int) (hne : xs ≠ []) (hl : xs.length ≤ 2 ^ 30) {h : Hp} {bs : Bx} {os : Ox} {n : Nm} {ver : Nat} (x : Cx h ((n, ⟨ver, 1, cl1 xs⟩) :: bs) os) :
    Sound Try.prog 85 [.sl n ver 0 xs.length] h fun v h' => ∃ ys sp, v = .sl n ver 0 ys.length ∧ (ys = sorted xs ∨ (ys.length < xs.length ∧ ¬ (sorted xs).Nodup)) ∧ Cx h' ((n, ⟨ver, 1, cl1 ys ++ sp⟩) :: bs) os := by
  have hnil : True := trivial
  have b := x.bxs
  simp only [Bxs] at b
  refine enter mixed MG73 Try.func85 rfl (by kernel_rfl) rfl ?_
  repeat' (first
   | with_reducible refine stp ?_
   | with_reducible refine k_blk_o rfl ?_
   | with_reducible refine k_seq_n ?_
   | ((try (conv => arg 1; simp [hnil])); with_reducible refine evp ?_)
   | ((with_reducible refine apn ?na ?_); (case na => simp [appNames, ints, intss] <;> first | kernel_rfl | (refine ⟨?_, ?_⟩ <;> kernel_rfl)))
   | fail)
  refine st_heap rfl (sortS xs hne (by omega) (sp := []) (ver := ver) (n := n) (by simp [b]) (by have := b.2.1; simp; omega)) ?_
  rintro v h' rfl
  repeat' (first
   | with_reducible refine stp ?_
   | with_reducible refine k_blk_o rfl ?_
   | with_reducible refine k_seq_n ?_
   | ((try (conv => arg 1; simp [hnil])); with_reducible refine evp ?_)
   | ((with_reducible refine apn ?na ?_); (case na => simp [appNames, ints, intss] <;> first | kernel_rfl | (refine ⟨?_, ?_⟩ <;> kernel_rfl)))
   | fail)
  rw [List.append_nil]
  refine st_heap rfl (compactS (sorted xs) (sorted_len xs) (by omega) (Cx.to x)) ?_
  rintro v h' ⟨ys, sp, rfl, hy, z⟩
  repeat' (first
   | with_reducible refine stp ?_
   | with_reducible refine k_blk_o rfl ?_
   | with_reducible refine k_seq_n ?_
   | ((try (conv => arg 1; simp [hnil])); with_reducible refine evp ?_)
   | ((with_reducible refine apn ?na ?_); (case na => simp [appNames, ints, intss] <;> first | kernel_rfl | (refine ⟨?_, ?_⟩ <;> kernel_rfl)))
   | fail)
  exact ⟨ys, sp, rfl, by rw [sorted_len] at hy; exact hy, Cx.to z⟩
end Go.Proofs.Ytlmlkkkgcbpaoaa.AM

/-
  Orders of blocks: both sides.
-/
set_option linter.unusedVariables false
set_option linter.unusedSimpArgs false
set_option maxRecDepth 4000
namespace Go.Proofs.Ytlmlkkkgcbpaoaa.AM
open Go.RowKit

private def MG74 : FuncId → Mode := fun f => if f = 85 then .heap else .tree

theorem orderB_f1 {g : Graph} {l : List Int} (h : graphOk g = false) : orderB g l = false := by simp [orderB, h]
theorem orderB_f2 {g : Graph} {l : List Int} (h : ¬ l.length = g.Blocks.length) : orderB g l = false := by simp [orderB, h]
theorem orderB_f3 {g : Graph} {l : List Int} (h : ¬ l.getD 0 1 = 0) : orderB g l = false := by simp only [orderB, h]; simp
theorem ok_blocks {g : Graph} (hk : graphOk g = true) : 1 ≤ g.Blocks.length ∧ g.Blocks.length ≤ 300 := (headOk_head (by simp only [graphOk, Bool.and_eq_true] at hk; exact hk.1.1)).blocks
/-- Which are there. -/
def markOf (n : Nat) (l : List Int) : List Bool := (List.range n).map fun k : Nat => decide ((k : Int) ∈ l)
theorem markOf_len (n : Nat) (l : List Int) : (markOf n l).length = n := by simp [markOf]
theorem markOf_at {n : Nat} {l : List Int} {k : Nat} (hk : k < n) : (markOf n l)[k]'(by rw [markOf_len]; exact hk) = decide ((k : Int) ∈ l) := by simp [markOf]
theorem markOf_set {n : Nat} {l : List Int} {k : Nat} (hk : k < n) : (markOf n l).set k true = markOf n (l ++ [(k : Int)]) := by
  refine List.ext_getElem (by simp [markOf]) fun i h1 h2 => ?_
  simp only [markOf_len, List.length_set] at h1
  rw [List.getElem_set, markOf_at h1, markOf_at h1]
  by_cases e : k = i
  · subst e; simp
  · rw [if_neg e]
    have : ¬ (i : Int) = (k : Int) := by omega
    simp [this]

set_option maxHeartbeats 2000000 in
theorem specOrderOk (g : Graph) (d : g.Small) (l : List Int) (hll : l.length ≤ 2 ^ 20) : Pure Try.prog 28 [.agg (g.cells true), ints true l] (.bool (orderB g l)) := by
  intro T
  have hln := d.len
  have hnil : True := trivial
  have G := graphOkSpec g d.fit
  refine enter mixed MG74 Try.func28 rfl (by kernel_rfl) rfl ?_
  repeat' (first
   | with_reducible refine stp ?_
   | with_reducible refine k_blk_o rfl ?_
   | ((try (conv => arg 1; simp [Graph.cells])); with_reducible refine evp ?_)
   | ((with_reducible refine apn ?na ?_); (case na => simp [appNames, ints, intss] <;> first | kernel_rfl | (refine ⟨?_, ?_⟩ <;> kernel_rfl)))
   | fail)
  refine cx_k (Cx.mt.next.box_one (T := T) (i := 0) Cx.mt.off (by simp)) ?_
  intro h1 x1
  have b1 := x1.bxs
  simp only [Bxs] at b1
  cases hk : graphOk g with
  | false =>
    rw [hk] at G
    rw [orderB_f1 hk]
    repeat' (first
     | with_reducible refine stp ?_
     | with_reducible refine k_blk_o rfl ?_
     | with_reducible refine k_seq_n ?_
     | ((try (conv => arg 1; simp [b1, ltS, nm_ne, tk_ne])); with_reducible refine evp ?_)
     | ((with_reducible refine apn ?na ?_); (case na => simp [appNames, ints, intss] <;> first | kernel_rfl | (refine ⟨?_, ?_⟩ <;> kernel_rfl)))
     | ((with_reducible refine tcl ?_); first | ((apply tg (G)); (case e => rfl); (case d => (refine dq ?_); (repeat' (first | ((refine Da.mk ?_); first | exact dr_blocks (by simp) _ | assumption) | constructor)))))
     | fail)
    exact .bool _
  | true =>
    rw [hk] at G
    have hnb := ok_blocks hk
    by_cases hl : l.length = g.Blocks.length
    · have hl2 : (l.length : Int) = g.Blocks.length := by omega
      have hl0 : l[0]? = some (l[0]'(by omega)) := by simp
      have hg0 : l.getD 0 1 = l[0]'(by omega) := by simp [List.getD, hl0]
      have hlp : 0 < l.length := by omega
      by_cases h0 : l[0]'(by omega) = 0
      · have hnb3 : (g.Blocks.length : Int) ≤ 4294967296 := by omega
        repeat' (first
         | with_reducible refine stp ?_
         | with_reducible refine k_blk_o rfl ?_
         | with_reducible refine k_seq_n ?_
         | ((try (conv => arg 1; simp [b1, ints, blocks, hl, hl2, hl0, hlp, h0, hnb3, ltS, nm_ne, tk_ne])); with_reducible refine evp ?_)
         | ((with_reducible refine apn ?na ?_); (case na => simp [appNames, ints, intss] <;> first | kernel_rfl | (refine ⟨?_, ?_⟩ <;> kernel_rfl)))
         | ((with_reducible refine tcl ?_); first | ((apply tg (G)); (case e => rfl); (case d => (refine dq ?_); (repeat' (first | ((refine Da.mk ?_); first | exact dr_blocks (by simp) _ | assumption) | constructor)))))
         | fail)
        have oe : orderB g l = decide ((∀ x ∈ l, inB x 0 ((g.Blocks.length : Int) - 1) = true) ∧ l.Nodup) := by
          simp only [orderB, hk, hl, hg0, h0, decide_true, Bool.true_and]
          exact decide_eq_decide.2 (sorted_range hl)
        rw [oe]
        refine st_loop (fun (i : Nat) σ h => i ≤ l.length ∧ σ 1 = ints true l ∧ σ 5 = .sl (h1.tick + 1, 2, 0) 0 0 g.Blocks.length ∧ σ 6 = .int .i64 i ∧ (∀ x ∈ l.take i, inB x 0 ((g.Blocks.length : Int) - 1) = true) ∧ (l.take i).Nodup ∧
          ∃ L : List (List AV), L = (markOf g.Blocks.length (l.take i)).map (fun x => [.bool x]) ∧ Cx h [((h1.tick + 1, 2, 0), ⟨0, 1, L⟩)] []) (fun i => l.length - i) 0 ?init ?step
        case init =>
          have z0 : Cx h1 [] [] := x1.box_drop
          have z1 := z0.next.next.box_one (T := h1.tick + 1) (i := 2) (r := ⟨0, 1, List.replicate g.Blocks.length [.bool false]⟩) (fun n hn => by simp [nms] at hn) (by simp)
          refine ⟨Nat.zero_le _, by simp [ints], by simp, by simp, by simp, by simp, _, ?_, Cx.to z1⟩
          rw [List.take_zero]
          refine List.ext_getElem (by simp [markOf]) fun i h1 h2 => by simp [markOf]
        case step =>
          rintro i σ h ⟨hi, s1, s5, s6, hal, hnd, L, hL, x⟩
          have b := x.bxs
          simp only [Bxs] at b
          by_cases hlt : i < l.length
          · have hlt2 : (i : Int) < l.length := by omega
            have hw : IntKind.i64.wrap (i + 1) = i + 1 := wrap_id (by omega) (by omega)
            have hwl : IntKind.i64.wrap ((l.length : Int) - 1) = (l.length : Int) - 1 := wrap_id (by omega) (by omega)
            have hx : l[i]? = some l[i] := by simp
            have I := l01In l[i] 0 ((l.length : Int) - 1)
            have hmem : l[i] ∈ l := List.getElem_mem hlt
            have hLl : L.length = g.Blocks.length := by rw [hL, List.length_map, markOf_len]
            have hts := take_snoc hlt
            cases hb : inB l[i] 0 ((l.length : Int) - 1) with
            | false =>
              rw [hb] at I
              generalize hli : l[i] = li at *
              have hop : ∀ hh, l[i]'hh = li := fun _ => hli
              repeat' (first
               | with_reducible refine stp ?_
               | with_reducible refine k_blk_o rfl ?_
               | with_reducible refine k_seq_n ?_
               | ((try (conv => arg 1; simp [s1, s5, s6, ints, hlt2, hx, hlt, hop, hwl])); with_reducible refine evp ?_)
               | ((with_reducible refine apn ?na ?_); (case na => simp [appNames, ints, intss] <;> first | kernel_rfl | (refine ⟨?_, ?_⟩ <;> kernel_rfl)))
               | ((with_reducible refine tcl ?_); first | ((apply tg (I)); (case e => rfl); (case d => (refine dq ?_); (repeat' (first | ((refine Da.mk ?_); first | assumption) | constructor)))))
               | fail)
              refine dr_bool ?_
              symm
              rw [decide_eq_false_iff_not]
              rintro ⟨h1, _⟩
              have := h1 li hmem
              rw [← hl, hb] at this
              cases this
            | true =>
              rw [hb] at I
              obtain ⟨k, hk2⟩ : ∃ k : Nat, l[i] = (k : Int) := ⟨l[i].toNat, by simp [inB] at hb; omega⟩
              have hkN : k < g.Blocks.length := by rw [hk2] at hb; simp [inB] at hb; omega
              have hkN2 : (k : Int) < g.Blocks.length := by omega
              generalize hli : l[i] = li at *
              subst hk2
              have hop : ∀ hh, l[i]'hh = (k : Int) := fun _ => hli
              cases hm : decide ((k : Int) ∈ l.take i) with
              | true =>
                have hel : ∀ hh, L[k]'hh = [.bool true] := fun hh => by
                  simp only [hL, List.getElem_map, markOf_at hkN, hm]
                repeat' (first
                 | with_reducible refine stp ?_
                 | with_reducible refine k_blk_o rfl ?_
                 | with_reducible refine k_seq_n ?_
                 | ((try (conv => arg 1; simp [s1, s5, s6, ints, b, hlt2, hx, hlt, hop, hwl, hLl, hkN, hkN2, hel])); with_reducible refine evp ?_)
                 | ((with_reducible refine apn ?na ?_); (case na => simp [appNames, ints, intss] <;> first | kernel_rfl | (refine ⟨?_, ?_⟩ <;> kernel_rfl)))
                 | ((with_reducible refine tcl ?_); first | ((apply tg (I)); (case e => rfl); (case d => (refine dq ?_); (repeat' (first | ((refine Da.mk ?_); first | assumption) | constructor)))))
                 | fail)
                refine dr_bool ?_
                symm
                rw [decide_eq_false_iff_not]
                rintro ⟨_, h2⟩
                have h3 := h2.sublist (List.take_sublist (i + 1) l)
                rw [hts] at h3
                have h4 := List.nodup_append.1 h3
                exact h4.2.2 _ (of_decide_eq_true hm) _ (by simp) rfl
              | false =>
                have hel : ∀ hh, L[k]'hh = [.bool false] := fun hh => by
                  simp only [hL, List.getElem_map, markOf_at hkN, hm]
                have hls : L.set k [.bool true] = (markOf g.Blocks.length (l.take (i + 1))).map (fun x => [.bool x]) := by
                  rw [hL, ← List.map_set (f := fun x => [AV.bool x]), markOf_set hkN, hts]
                repeat' (first
                 | with_reducible refine stp ?_
                 | with_reducible refine k_blk_o rfl ?_
                 | with_reducible refine k_seq_n ?_
                 | ((try (conv => arg 1; simp [s1, s5, s6, ints, b, hlt2, hx, hlt, hop, hwl, hLl, hkN, hkN2, hel, hw])); with_reducible refine evp ?_)
                 | ((with_reducible refine apn ?na ?_); (case na => simp [appNames, ints, intss] <;> first | kernel_rfl | (refine ⟨?_, ?_⟩ <;> kernel_rfl)))
                 | ((with_reducible refine tcl ?_); first | ((apply tg (I)); (case e => rfl); (case d => (refine dq ?_); (repeat' (first | ((refine Da.mk ?_); first | assumption) | constructor)))))
                 | fail)
                refine k_lp_n (i + 1) (by omega) ⟨by omega, by simp [s1, ints], by simp [s5], by simp, ?_, ?_, _, hls, Cx.to x⟩
                · rw [hts]
                  intro y hy
                  rcases List.mem_append.1 hy with hy | hy
                  · exact hal y hy
                  · rw [List.mem_singleton.1 hy, ← hl]; exact hb
                · rw [hts, List.nodup_append]
                  refine ⟨hnd, by simp, fun a ha c hc e => ?_⟩
                  rw [List.mem_singleton.1 hc] at e
                  rw [e] at ha
                  exact absurd ha (of_decide_eq_false hm)
          · have hge : i = l.length := by omega
            have hlt2 : ¬ (i : Int) < l.length := by omega
            repeat' (first
             | with_reducible refine stp ?_
             | with_reducible refine k_blk_o rfl ?_
             | with_reducible refine k_seq_n ?_
             | ((try (conv => arg 1; simp [s1, s5, s6, ints, hlt2])); with_reducible refine evp ?_)
             | ((with_reducible refine apn ?na ?_); (case na => simp [appNames, ints, intss] <;> first | kernel_rfl | (refine ⟨?_, ?_⟩ <;> kernel_rfl)))
             | fail)
            rw [hge, List.take_length] at hal hnd
            refine dr_bool ?_
            symm
            rw [decide_eq_true_iff]
            exact ⟨hal, hnd⟩
      · rw [orderB_f3 (by rw [hg0]; exact h0)]
        repeat' (first
         | with_reducible refine stp ?_
         | with_reducible refine k_blk_o rfl ?_
         | with_reducible refine k_seq_n ?_
         | ((try (conv => arg 1; simp [b1, ints, blocks, hl, hl2, hl0, hlp, h0, ltS, nm_ne, tk_ne])); with_reducible refine evp ?_)
         | ((with_reducible refine apn ?na ?_); (case na => simp [appNames, ints, intss] <;> first | kernel_rfl | (refine ⟨?_, ?_⟩ <;> kernel_rfl)))
         | ((with_reducible refine tcl ?_); first | ((apply tg (G)); (case e => rfl); (case d => (refine dq ?_); (repeat' (first | ((refine Da.mk ?_); first | exact dr_blocks (by simp) _ | assumption) | constructor)))))
         | fail)
        exact .bool _
    · have hl2 : ¬ (l.length : Int) = g.Blocks.length := by omega
      rw [orderB_f2 hl]
      repeat' (first
       | with_reducible refine stp ?_
       | with_reducible refine k_blk_o rfl ?_
       | with_reducible refine k_seq_n ?_
       | ((try (conv => arg 1; simp [b1, ints, blocks, hl, hl2, ltS, nm_ne, tk_ne])); with_reducible refine evp ?_)
       | ((with_reducible refine apn ?na ?_); (case na => simp [appNames, ints, intss] <;> first | kernel_rfl | (refine ⟨?_, ?_⟩ <;> kernel_rfl)))
       | ((with_reducible refine tcl ?_); first | ((apply tg (G)); (case e => rfl); (case d => (refine dq ?_); (repeat' (first | ((refine Da.mk ?_); first | exact dr_blocks (by simp) _ | assumption) | constructor)))))
       | fail)
      exact .bool _
theorem dr_ints_sp {c : Bool} {rows : Nm → Option Row} {n : Nm} {ver : Nat} {l : List Int} {sp : List (List AV)} (h : rows n = some ⟨ver, 1, cl1 l ++ sp⟩) : DR c rows (.sl n ver 0 l.length) (ints c l) := by
  have := dr_flat_sl (c := c) (l := cl1 l) (sp := sp) h (fun e he x hx => by simp only [cl1, List.mem_map] at he; obtain ⟨a, _, rfl⟩ := he; simp at hx; subst hx; rfl)
  rw [show (cl1 l).length = l.length by simp [cl1]] at this
  exact this

set_option maxHeartbeats 2000000 in
theorem isOrder (g : Graph) (d : g.Small) (l : List Int) (hll : l.length ≤ 2 ^ 20) : Pure Try.prog 56 [.agg (g.cells true), ints true l] (.bool (orderB g l)) := by
  intro T
  have hln := d.len
  have hnil : True := trivial
  have G := isGraph g d
  refine enter mixed MG74 Try.func56 rfl (by kernel_rfl) rfl ?_
  repeat' (first
   | with_reducible refine stp ?_
   | with_reducible refine k_blk_o rfl ?_
   | ((try (conv => arg 1; simp [Graph.cells])); with_reducible refine evp ?_)
   | ((with_reducible refine apn ?na ?_); (case na => simp [appNames, ints, intss] <;> first | kernel_rfl | (refine ⟨?_, ?_⟩ <;> kernel_rfl)))
   | fail)
  refine cx_k (Cx.mt.next.box_one (T := T) (i := 0) Cx.mt.off (by simp)) ?_
  intro h1 x1
  have b1 := x1.bxs
  simp only [Bxs] at b1
  cases hk : graphOk g with
  | false =>
    rw [hk] at G
    rw [orderB_f1 hk]
    repeat' (first
     | with_reducible refine stp ?_
     | with_reducible refine k_blk_o rfl ?_
     | with_reducible refine k_seq_n ?_
     | ((try (conv => arg 1; simp [b1, ltS, nm_ne, tk_ne])); with_reducible refine evp ?_)
     | ((with_reducible refine apn ?na ?_); (case na => simp [appNames, ints, intss] <;> first | kernel_rfl | (refine ⟨?_, ?_⟩ <;> kernel_rfl)))
     | ((with_reducible refine tcl ?_); first | ((apply tg (G)); (case e => rfl); (case d => (refine dq ?_); (repeat' (first | ((refine Da.mk ?_); first | exact dr_blocks (by simp) _ | assumption) | constructor)))))
     | fail)
    exact .bool _
  | true =>
    rw [hk] at G
    have hnb := ok_blocks hk
    by_cases hl : l.length = g.Blocks.length
    · have hl2 : (l.length : Int) = g.Blocks.length := by omega
      have hl0 : l[0]? = some (l[0]'(by omega)) := by simp
      have hg0 : l.getD 0 1 = l[0]'(by omega) := by simp [List.getD, hl0]
      have hlp : 0 < l.length := by omega
      have hne : l ≠ [] := fun e => by rw [e] at hlp; simp at hlp
      have hll2 : l.length ≤ 4294967296 := by omega
      by_cases h0 : l[0]'(by omega) = 0
      · have oe : orderB g l = decide (sorted l = rangeI g.Blocks.length) := by simp only [orderB, hk, hl, hg0, h0, decide_true, Bool.true_and]
        have N := numbers l.length hll
        have z1 := x1.next.box_one (T := h1.tick) (i := 17) (r := ⟨0, 1, []⟩) x1.off (by simp)
        repeat' (first
         | with_reducible refine stp ?_
         | with_reducible refine k_blk_o rfl ?_
         | with_reducible refine k_seq_n ?_
         | ((try (conv => arg 1; simp [b1, ints, blocks, hl2, hl0, hlp, h0, hll2, ltS, nm_ne, tk_ne])); with_reducible refine evp ?_)
         | ((with_reducible refine apn ?na ?_); (case na => simp [appNames, ints, intss] <;> first | kernel_rfl | (refine ⟨?_, ?_⟩ <;> kernel_rfl)))
         | ((with_reducible refine tcl ?_); first | ((apply tg (G)); (case e => rfl); (case d => (refine dq ?_); (repeat' (first | ((refine Da.mk ?_); first | exact dr_blocks (by simp) _ | assumption) | constructor)))))
         | fail)
        conv => arg 1; simp
        rw [show AV.tr true (l.map fun n => [AV.int .i64 n]) = ints true l from rfl]
        repeat' (first
         | with_reducible refine stp ?_
         | with_reducible refine k_blk_o rfl ?_
         | with_reducible refine k_seq_n ?_
         | ((try (conv => arg 1; simp [b1, hll2, hlp, ltS, nm_ne, tk_ne])); with_reducible refine evp ?_)
         | ((with_reducible refine apn ?na ?_); (case na => simp [appNames, ints, intss] <;> first | kernel_rfl | (refine ⟨?_, ?_⟩ <;> kernel_rfl)))
         | fail)
        refine st_heap rfl (ascendingS l hne (by omega) (Cx.to z1)) ?_
        rintro v h2 ⟨ys, sp, rfl, hy, z⟩
        have bz := z.bxs
        simp only [Bxs] at bz
        have E := equalII ys (rangeI l.length) (by rcases hy with rfl | ⟨hy, _⟩; rw [sorted_len]; omega; omega)
        have er : decide (ys = rangeI l.length) = orderB g l := by
          rw [oe, ← hl]
          rcases hy with rfl | ⟨hy, hn⟩
          · rfl
          · rw [decide_eq_decide]
            constructor
            · intro e; rw [e, rangeI_len] at hy; omega
            · intro e; rw [e] at hn; exact absurd (rangeI_nodup _) hn
        rw [er] at E
        repeat' (first
         | with_reducible refine stp ?_
         | with_reducible refine k_blk_o rfl ?_
         | with_reducible refine k_seq_n ?_
         | ((try (conv => arg 1; simp [bz, ltS, nm_ne])); with_reducible refine evp ?_)
         | ((with_reducible refine apn ?na ?_); (case na => simp [appNames, ints, intss] <;> first | kernel_rfl | (refine ⟨?_, ?_⟩ <;> kernel_rfl)))
         | ((with_reducible refine tcl ?_); first | ((apply tg (N)); (case e => rfl); (case d => (refine dq ?_); (repeat' (first | ((refine Da.mk ?_); first | assumption) | constructor)))))
         | fail)
        refine st_tree rfl E (.cons (dr_ints_sp (sp := sp) (by simpa [hne] using bz.1)) (.cons (dr_ints (by simp) _) .nil)) ?_
        repeat' (first
         | with_reducible refine stp ?_
         | with_reducible refine k_blk_o rfl ?_
         | with_reducible refine k_seq_n ?_
         | ((try (conv => arg 1; simp [hnil])); with_reducible refine evp ?_)
         | ((with_reducible refine apn ?na ?_); (case na => simp [appNames, ints, intss] <;> first | kernel_rfl | (refine ⟨?_, ?_⟩ <;> kernel_rfl)))
         | fail)
        exact .bool _
      · rw [orderB_f3 (by rw [hg0]; exact h0)]
        repeat' (first
         | with_reducible refine stp ?_
         | with_reducible refine k_blk_o rfl ?_
         | with_reducible refine k_seq_n ?_
         | ((try (conv => arg 1; simp [b1, ints, blocks, hl2, hl0, hlp, h0, ltS, nm_ne, tk_ne])); with_reducible refine evp ?_)
         | ((with_reducible refine apn ?na ?_); (case na => simp [appNames, ints, intss] <;> first | kernel_rfl | (refine ⟨?_, ?_⟩ <;> kernel_rfl)))
         | ((with_reducible refine tcl ?_); first | ((apply tg (G)); (case e => rfl); (case d => (refine dq ?_); (repeat' (first | ((refine Da.mk ?_); first | exact dr_blocks (by simp) _ | assumption) | constructor)))))
         | fail)
        exact .bool _
    · have hl2 : ¬ (l.length : Int) = g.Blocks.length := by omega
      rw [orderB_f2 hl]
      repeat' (first
       | with_reducible refine stp ?_
       | with_reducible refine k_blk_o rfl ?_
       | with_reducible refine k_seq_n ?_
       | ((try (conv => arg 1; simp [b1, ints, blocks, hl2, ltS, nm_ne, tk_ne])); with_reducible refine evp ?_)
       | ((with_reducible refine apn ?na ?_); (case na => simp [appNames, ints, intss] <;> first | kernel_rfl | (refine ⟨?_, ?_⟩ <;> kernel_rfl)))
       | ((with_reducible refine tcl ?_); first | ((apply tg (G)); (case e => rfl); (case d => (refine dq ?_); (repeat' (first | ((refine Da.mk ?_); first | exact dr_blocks (by simp) _ | assumption) | constructor)))))
       | fail)
      exact .bool _
theorem implOrderOk (g : Graph) (d : g.Small) (l : List Int) (hll : l.length ≤ 2 ^ 20) : Pure Try.prog 29 [.agg (g.cells true), ints true l] (.bool (orderB g l)) := by
  intro T
  have I := isOrder g d l hll
  refine enter mixed MG74 Try.func29 rfl (by kernel_rfl) rfl ?_
  repeat' (first
   | with_reducible refine stp ?_
   | with_reducible refine k_blk_o rfl ?_
   | with_reducible refine k_seq_n ?_
   | ((try (conv => arg 1; simp [Graph.cells])); with_reducible refine evp ?_)
   | ((with_reducible refine apn ?na ?_); (case na => simp [appNames, ints, intss] <;> first | kernel_rfl | (refine ⟨?_, ?_⟩ <;> kernel_rfl)))
   | ((with_reducible refine tcl ?_); first | ((apply tg (I)); (case e => rfl); (case d => (refine dq ?_); (repeat' (first | ((refine Da.mk ?_); first | exact dr_blocks (by simp) _ | assumption) | constructor)))))
   | fail)
  exact .bool _
end Go.Proofs.Ytlmlkkkgcbpaoaa.AM

/-
  The law of OrderOk.
-/
set_option linter.unusedVariables false
set_option linter.unusedSimpArgs false
set_option maxRecDepth 4000
namespace Go.Proofs.Ytlmlkkkgcbpaoaa.AM
open Go.RowKit

private def MLOrderOk : FuncId → Mode := fun f => if f = 13 ∨ f = 17 then .fresh else if f = 20 ∨ f = 21 then .heap else .tree

set_option maxHeartbeats 2000000 in
theorem lawOrderOk (g : Graph) (aa : List Int) (d_g : g.Data) (d_aa : aa.length ≤ maxLen) : Sound Try.prog 7 [.agg (g.cells true), ints true aa] (.mt 0) fun v _ => v = .bool true := by
  have hnil : True := trivial
  refine enter mixed MLOrderOk Try.func7 rfl (by kernel_rfl) rfl ?_
  repeat' (first
   | with_reducible refine stp ?_
   | with_reducible refine k_blk_o rfl ?_
   | ((try (conv => arg 1; simp [Graph.cells])); with_reducible refine evp ?_)
   | ((with_reducible refine apn ?na ?_); (case na => simp [appNames, ints, intss] <;> first | kernel_rfl | (refine ⟨?_, ?_⟩ <;> kernel_rfl)))
   | fail)
  refine cx_k Cx.mt_box ?_
  intro h1 x1
  repeat' (first
   | with_reducible refine stp ?_
   | with_reducible refine k_blk_o rfl ?_
   | ((try (conv => arg 1; simp [hnil])); with_reducible refine evp ?_)
   | ((with_reducible refine apn ?na ?_); (case na => simp [appNames, ints, intss] <;> first | kernel_rfl | (refine ⟨?_, ?_⟩ <;> kernel_rfl)))
   | fail)
  refine cx_k x1.next ?_
  intro h2 x2
  by_cases hl_aa : (1048576 : Int) < (aa.length : Int)
  · skip
    repeat' (first
     | with_reducible refine stp ?_
     | with_reducible refine k_blk_o rfl ?_
     | with_reducible refine k_seq_n ?_
     | ((try (conv => arg 1; simp [hl_aa])); with_reducible refine evp ?_)
     | ((with_reducible refine apn ?na ?_); (case na => simp [appNames, ints, intss] <;> first | kernel_rfl | (refine ⟨?_, ?_⟩ <;> kernel_rfl)))
     | fail)
    rfl
  have hq_aa := hl_aa
  repeat' (first
   | with_reducible refine stp ?_
   | with_reducible refine k_blk_o rfl ?_
   | ((try (conv => arg 1; simp [hl_aa])); with_reducible refine evp ?_)
   | ((with_reducible refine apn ?na ?_); (case na => simp [appNames, ints, intss] <;> first | kernel_rfl | (refine ⟨?_, ?_⟩ <;> kernel_rfl)))
   | fail)
  refine k_seq_n ?_
  replace hl_aa : aa.length ≤ 2 ^ 20 := by omega
  repeat' (first
   | with_reducible refine stp ?_
   | with_reducible refine k_blk_o rfl ?_
   | ((try (conv => arg 1; simp [hnil])); with_reducible refine evp ?_)
   | ((with_reducible refine apn ?na ?_); (case na => simp [appNames, ints, intss] <;> first | kernel_rfl | (refine ⟨?_, ?_⟩ <;> kernel_rfl)))
   | fail)
  refine cx_k x2.next ?_
  intro h3 x3
  obtain ⟨r1, hr_g, hs_g⟩ := szGraph g 1048576 (by omega) (by omega) d_g
  repeat' (first
   | with_reducible refine stp ?_
   | with_reducible refine k_blk_o rfl ?_
   | ((try (conv => arg 1; simp [x3.b0])); with_reducible refine evp ?_)
   | ((with_reducible refine apn ?na ?_); (case na => simp [appNames, ints, intss] <;> first | kernel_rfl | (refine ⟨?_, ?_⟩ <;> kernel_rfl)))
   | fail)
  refine st_tree rfl (hr_g) (.cons (dr_agg (drs_graphL g fun h => h)) (.cons (.int _ _) .nil)) ?_
  repeat' (first
   | with_reducible refine stp ?_
   | with_reducible refine k_blk_o rfl ?_
   | ((try (conv => arg 1; simp [x3.b0])); with_reducible refine evp ?_)
   | ((with_reducible refine apn ?na ?_); (case na => simp [appNames, ints, intss] <;> first | kernel_rfl | (refine ⟨?_, ?_⟩ <;> kernel_rfl)))
   | fail)
  refine cx_k x3.next ?_
  intro h4 x4
  repeat' (first
   | with_reducible refine stp ?_
   | with_reducible refine k_blk_o rfl ?_
   | ((try (conv => arg 1; simp [hnil])); with_reducible refine evp ?_)
   | ((with_reducible refine apn ?na ?_); (case na => simp [appNames, ints, intss] <;> first | kernel_rfl | (refine ⟨?_, ?_⟩ <;> kernel_rfl)))
   | fail)
  refine cx_k x4.next ?_
  intro h5 x5
  by_cases hneg : r1 < 0
  · skip
    repeat' (first
     | with_reducible refine stp ?_
     | with_reducible refine k_blk_o rfl ?_
     | with_reducible refine k_seq_n ?_
     | ((try (conv => arg 1; simp [hneg])); with_reducible refine evp ?_)
     | ((with_reducible refine apn ?na ?_); (case na => simp [appNames, ints, intss] <;> first | kernel_rfl | (refine ⟨?_, ?_⟩ <;> kernel_rfl)))
     | fail)
    rfl
  repeat' (first
   | with_reducible refine stp ?_
   | with_reducible refine k_blk_o rfl ?_
   | ((try (conv => arg 1; simp [hneg])); with_reducible refine evp ?_)
   | ((with_reducible refine apn ?na ?_); (case na => simp [appNames, ints, intss] <;> first | kernel_rfl | (refine ⟨?_, ?_⟩ <;> kernel_rfl)))
   | fail)
  refine k_seq_n ?_
  replace hs_g := hs_g.resolve_left hneg
  obtain ⟨hs_g, hg1_g, hg2_g⟩ := hs_g
  have S := specOrderOk g hs_g aa (by omega)
  have I := implOrderOk g hs_g aa (by omega)
  generalize orderB g aa = R at S I
  repeat' (first
   | with_reducible refine stp ?_
   | with_reducible refine k_blk_o rfl ?_
   | ((try (conv => arg 1; simp [x5.b0])); with_reducible refine evp ?_)
   | ((with_reducible refine apn ?na ?_); (case na => simp [appNames, ints, intss] <;> first | kernel_rfl | (refine ⟨?_, ?_⟩ <;> kernel_rfl)))
   | fail)
  refine st_freshw rfl (toGraph g hs_g) (.cons (dr_agg (drs_graphL g fun h => h)) .nil) ?_
  intro v1 h6 n1 o1 e1 f1 p1 t1
  have x6 := x5.next.fresh o1 e1 f1 p1 t1
  have z6 : h5.tick < h6.tick := by simp only [hp_next_tick] at t1; omega
  obtain ⟨wa1, wb1, _, _, rfl, _, qa1, qb1⟩ := ownV_graph (o1 true)
  have qa1 := own_one qa1
  have qb1 := own_one' qb1
  repeat' (first
   | with_reducible refine stp ?_
   | with_reducible refine k_blk_o rfl ?_
   | ((try (conv => arg 1; simp [x6.b0, z6, qa1.1, qb1.1])); with_reducible refine evp ?_)
   | ((with_reducible refine apn ?na ?_); (case na => simp [appNames, ints, intss] <;> first | kernel_rfl | (refine ⟨?_, ?_⟩ <;> kernel_rfl)))
   | fail)
  refine st_fresh rfl (toIntS aa hl_aa) (.cons (dr_ints (fun h => h) _) .nil) ?_
  intro v2 h7 n2 o2 e2 f2 p2 t2
  have x7 := x6.fresh o2 e2 f2 p2 t2
  have z7 : h5.tick < h7.tick := by omega
  repeat' (first
   | with_reducible refine stp ?_
   | with_reducible refine k_blk_o rfl ?_
   | ((try (conv => arg 1; simp [x7.b0, z7])); with_reducible refine evp ?_)
   | ((with_reducible refine apn ?na ?_); (case na => simp [appNames, ints, intss] <;> first | kernel_rfl | (refine ⟨?_, ?_⟩ <;> kernel_rfl)))
   | fail)
  refine st_tree rfl (S) (.cons ((x7.o1 true).dr) (.cons ((x7.o0 true).dr) .nil)) ?_
  repeat' (first
   | with_reducible refine stp ?_
   | with_reducible refine k_blk_o rfl ?_
   | ((try (conv => arg 1; simp [x7.b0, z7])); with_reducible refine evp ?_)
   | ((with_reducible refine apn ?na ?_); (case na => simp [appNames, ints, intss] <;> first | kernel_rfl | (refine ⟨?_, ?_⟩ <;> kernel_rfl)))
   | fail)
  refine cx_k x7 ?_
  intro h8 x8
  repeat' (first
   | with_reducible refine stp ?_
   | with_reducible refine k_blk_o rfl ?_
   | ((try (conv => arg 1; simp [x8.b0])); with_reducible refine evp ?_)
   | ((with_reducible refine apn ?na ?_); (case na => simp [appNames, ints, intss] <;> first | kernel_rfl | (refine ⟨?_, ?_⟩ <;> kernel_rfl)))
   | fail)
  refine st_freshw rfl (toGraph g hs_g) (.cons (dr_agg (drs_graphL g fun h => h)) .nil) ?_
  intro v3 h9 n3 o3 e3 f3 p3 t3
  have x9 := x8.next.fresh o3 e3 f3 p3 t3
  have z9 : h8.tick < h9.tick := by simp only [hp_next_tick] at t3; omega
  obtain ⟨wa3, wb3, _, _, rfl, _, qa3, qb3⟩ := ownV_graph (o3 true)
  have qa3 := own_one qa3
  have qb3 := own_one' qb3
  repeat' (first
   | with_reducible refine stp ?_
   | with_reducible refine k_blk_o rfl ?_
   | ((try (conv => arg 1; simp [x9.b0, z9, qa3.1, qb3.1])); with_reducible refine evp ?_)
   | ((with_reducible refine apn ?na ?_); (case na => simp [appNames, ints, intss] <;> first | kernel_rfl | (refine ⟨?_, ?_⟩ <;> kernel_rfl)))
   | fail)
  refine cx_k (x9.box_new (x8.off.fresh f3 (by simp [hp_next_tick])) z9) ?_
  intro h10 x10
  repeat' (first
   | with_reducible refine stp ?_
   | with_reducible refine k_blk_o rfl ?_
   | ((try (conv => arg 1; simp [hnil])); with_reducible refine evp ?_)
   | ((with_reducible refine apn ?na ?_); (case na => simp [appNames, ints, intss] <;> first | kernel_rfl | (refine ⟨?_, ?_⟩ <;> kernel_rfl)))
   | fail)
  refine st_fresh rfl (toIntS aa hl_aa) (.cons (dr_ints (fun h => h) _) .nil) ?_
  intro v4 h11 n4 o4 e4 f4 p4 t4
  have x11 := x10.next.fresh o4 e4 f4 p4 t4
  have z11 : h10.tick < h11.tick := by simp only [hp_next_tick] at t4; omega
  repeat' (first
   | with_reducible refine stp ?_
   | with_reducible refine k_blk_o rfl ?_
   | ((try (conv => arg 1; simp [z11])); with_reducible refine evp ?_)
   | ((with_reducible refine apn ?na ?_); (case na => simp [appNames, ints, intss] <;> first | kernel_rfl | (refine ⟨?_, ?_⟩ <;> kernel_rfl)))
   | fail)
  refine cx_k x11 ?_
  intro h12 x12
  repeat' (first
   | with_reducible refine stp ?_
   | with_reducible refine k_blk_o rfl ?_
   | ((try (conv => arg 1; simp [x12.b0, qa3.1, qb3.1])); with_reducible refine evp ?_)
   | ((with_reducible refine apn ?na ?_); (case na => simp [appNames, ints, intss] <;> first | kernel_rfl | (refine ⟨?_, ?_⟩ <;> kernel_rfl)))
   | fail)
  refine st_tree rfl (I) (.cons ((x12.next.o1 true).dr) (.cons ((x12.next.o0 true).dr) .nil)) ?_
  repeat' (first
   | with_reducible refine stp ?_
   | with_reducible refine k_blk_o rfl ?_
   | ((try (conv => arg 1; simp [x12.b0, qa3.1, qb3.1])); with_reducible refine evp ?_)
   | ((with_reducible refine apn ?na ?_); (case na => simp [appNames, ints, intss] <;> first | kernel_rfl | (refine ⟨?_, ?_⟩ <;> kernel_rfl)))
   | fail)
  refine cx_k x12.next ?_
  intro h13 x13
  repeat' (first
   | with_reducible refine stp ?_
   | with_reducible refine k_blk_o rfl ?_
   | ((try (conv => arg 1; simp [hnil])); with_reducible refine evp ?_)
   | ((with_reducible refine apn ?na ?_); (case na => simp [appNames, ints, intss] <;> first | kernel_rfl | (refine ⟨?_, ?_⟩ <;> kernel_rfl)))
   | fail)
  refine cx_k x13.next ?_
  intro h14 x14
  repeat' (first
   | with_reducible refine stp ?_
   | with_reducible refine k_blk_o rfl ?_
   | ((try (conv => arg 1; simp [hnil])); with_reducible refine evp ?_)
   | ((with_reducible refine apn ?na ?_); (case na => simp [appNames, ints, intss] <;> first | kernel_rfl | (refine ⟨?_, ?_⟩ <;> kernel_rfl)))
   | fail)
  refine k_seq_n ?_
  repeat' (first
   | with_reducible refine stp ?_
   | with_reducible refine k_blk_o rfl ?_
   | ((try (conv => arg 1; simp [hnil])); with_reducible refine evp ?_)
   | ((with_reducible refine apn ?na ?_); (case na => simp [appNames, ints, intss] <;> first | kernel_rfl | (refine ⟨?_, ?_⟩ <;> kernel_rfl)))
   | fail)
  repeat (with_reducible first | refine stp ?_ | refine k_seq_n ?_)
  refine st_draw 5 (fun _ => false) (by kernel_rfl) ?_
  simp only [List.take_succ_cons, List.take_zero, List.drop_succ_cons, List.drop_zero, List.take_nil, List.drop_nil]
  repeat' (first
   | with_reducible refine stp ?_
   | with_reducible refine k_blk_o rfl ?_
   | ((try (conv => arg 1; simp [x14.b0, x14.b1, x14.l0, x14.l1, qa3.1, qb3.1])); with_reducible refine evp ?_)
   | ((with_reducible refine apn ?na ?_); (case na => simp [appNames, ints, intss] <;> first | kernel_rfl | (refine ⟨?_, ?_⟩ <;> kernel_rfl)))
   | fail)
  refine treeW_pure (toGraph g hs_g).pure (.cons (dr_agg (drs_graphL g fun h => h)) .nil) ?_
  repeat' (first
   | with_reducible refine stp ?_
   | with_reducible refine k_blk_o rfl ?_
   | ((try (conv => arg 1; simp [x14.b0, x14.b1, x14.l0, x14.l1, qa3.1, qb3.1])); with_reducible refine evp ?_)
   | ((with_reducible refine apn ?na ?_); (case na => simp [appNames, ints, intss] <;> first | kernel_rfl | (refine ⟨?_, ?_⟩ <;> kernel_rfl)))
   | fail)
  refine treeW_pure (eqGraph g hs_g) (.cons ((x14.m1 true).dr) (.cons (dr_agg (drs_graphL g (by simp))) .nil)) ?_
  repeat' (first
   | with_reducible refine stp ?_
   | with_reducible refine k_blk_o rfl ?_
   | ((try (conv => arg 1; simp [x14.b0, x14.b1, x14.l0, x14.l1, qa3.1, qb3.1])); with_reducible refine evp ?_)
   | ((with_reducible refine apn ?na ?_); (case na => simp [appNames, ints, intss] <;> first | kernel_rfl | (refine ⟨?_, ?_⟩ <;> kernel_rfl)))
   | fail)
  refine cx_k x14.next ?_
  intro h15 x15
  repeat' (first
   | with_reducible refine stp ?_
   | with_reducible refine k_blk_o rfl ?_
   | ((try (conv => arg 1; simp [hnil])); with_reducible refine evp ?_)
   | ((with_reducible refine apn ?na ?_); (case na => simp [appNames, ints, intss] <;> first | kernel_rfl | (refine ⟨?_, ?_⟩ <;> kernel_rfl)))
   | fail)
  refine k_seq_n ?_
  repeat' (first
   | with_reducible refine stp ?_
   | with_reducible refine k_blk_o rfl ?_
   | ((try (conv => arg 1; simp [hnil])); with_reducible refine evp ?_)
   | ((with_reducible refine apn ?na ?_); (case na => simp [appNames, ints, intss] <;> first | kernel_rfl | (refine ⟨?_, ?_⟩ <;> kernel_rfl)))
   | fail)
  refine st_fresh rfl (toIntS aa hl_aa) (.cons (dr_ints (fun h => h) _) .nil) ?_
  intro v5 h16 n5 o5 e5 f5 p5 t5
  have x16 := x15.next.fresh o5 e5 f5 p5 t5
  have z16 : h15.tick < h16.tick := by simp only [hp_next_tick] at t5; omega
  repeat' (first
   | with_reducible refine stp ?_
   | with_reducible refine k_blk_o rfl ?_
   | ((try (conv => arg 1; simp [z16])); with_reducible refine evp ?_)
   | ((with_reducible refine apn ?na ?_); (case na => simp [appNames, ints, intss] <;> first | kernel_rfl | (refine ⟨?_, ?_⟩ <;> kernel_rfl)))
   | fail)
  refine st_tree rfl (eqIntS aa (by omega)) (.cons ((x16.o1 true).dr) (.cons ((x16.o0 true).dr) .nil)) ?_
  repeat' (first
   | with_reducible refine stp ?_
   | with_reducible refine k_blk_o rfl ?_
   | ((try (conv => arg 1; simp [z16])); with_reducible refine evp ?_)
   | ((with_reducible refine apn ?na ?_); (case na => simp [appNames, ints, intss] <;> first | kernel_rfl | (refine ⟨?_, ?_⟩ <;> kernel_rfl)))
   | fail)
  refine cx_k x16 ?_
  intro h17 x17
  repeat' (first
   | with_reducible refine stp ?_
   | with_reducible refine k_blk_o rfl ?_
   | ((try (conv => arg 1; simp [hnil])); with_reducible refine evp ?_)
   | ((with_reducible refine apn ?na ?_); (case na => simp [appNames, ints, intss] <;> first | kernel_rfl | (refine ⟨?_, ?_⟩ <;> kernel_rfl)))
   | fail)
  refine k_seq_n ?_
  repeat' (first
   | with_reducible refine stp ?_
   | with_reducible refine k_blk_o rfl ?_
   | with_reducible refine k_seq_n ?_
   | ((try (conv => arg 1; simp [hnil])); with_reducible refine evp ?_)
   | ((with_reducible refine apn ?na ?_); (case na => simp [appNames, ints, intss] <;> first | kernel_rfl | (refine ⟨?_, ?_⟩ <;> kernel_rfl)))
   | fail)
  rfl
end Go.Proofs.Ytlmlkkkgcbpaoaa.AM


namespace Go.Proofs.Ytlmlkkkgcbpaoaa.fnExactOrderOk
open Go.ChangeShapes Go.WideShapes Go.ChangeAt Go.RowKit
set_option linter.unusedVariables false
theorem own : ownKnob Try.prog.godebug = none := by kernel_rfl

theorem sound (l : List AM.AV) (h : AM.ShpAll Try.prog [25, 22] l) : AM.Sound Try.prog 7 l (.mt 0) fun v _ => v = .bool true := by
  obtain ⟨cells0, l0, g0, e0, k0⟩ := AM.shpAll_cons h
  obtain ⟨cells1, l1, g1, e1, k1⟩ := AM.shpAll_cons k0
  have e' := AM.shpAll_nil k1
  subst e' e1 e0
  obtain ⟨a0, rfl, d0⟩ := AM.shp_graph g0
  obtain ⟨a1, rfl, d1, _⟩ := g1.ints_inv AM.und_22 AM.und_3
  rw [AM.agg_graph, AM.av22]
  exact AM.lawOrderOk a0 a1 d0 d1

set_option maxRecDepth 100000 in
theorem lifted (os : Os) (started : os.Started) (H : Type) (enc : TypeId × Value → H) :
    ReturnsInHanded {} Try.checked os 7 .any (Rows.fnExactOrderOkSpec.pre6 enc Try.prog Try.f7 Rows.fnExactOrderOkRow.domain false) (Rows.fnExactOrderOkSpec.post enc Try.prog Try.f7 false true false false) := by
  refine returnsInHanded_of_change_sized (C := Try.checked) own started (by kernel_rfl) Try.func7
    (ChangeSpec.witness6 (enc := enc) (C := Try.checked) false ⟨#[], #[.agg #[.slice none 0 0, .int .i64 0, .int .i64 0, .int .i64 0, .slice none 0 0], .slice none 0 0], []⟩ 8 (by kernel_rfl) (by kernel_rfl) (by kernel_rfl) (by kernel_rfl)) ?_
  intro W base args ds gs before hval0 hW hcnd hsz0 _
  have hval : ∀ (j : Nat) t v, Try.f7.params[j]? = some t → args[j]? = some v → Value.okWide Try.prog W .any base t v := hval0
  have hW' := hW
  obtain ⟨p, q, hA0, hV, rfl, hfz, hnd⟩ := hW
  have hA : DataW.TrodAll enc Try.prog W 0 (fun _ => true) true Try.f7.params.toList args.toList ds p := hA0
  rw [Try.params7] at hA hval
  obtain ⟨v0, vs0, d0, ds0, p0, q0, hargs, rfl, rfl, h0, r0⟩ := trodAll_cons hA
  obtain ⟨v1, vs1, d1, ds1, p1, q1, rfl, rfl, rfl, h1, r1⟩ := trodAll_cons r0
  obtain ⟨rfl, rfl, rfl⟩ := trodAll_nil r1
  obtain rfl : args = #[v0, v1] := by cases args; simp_all
  obtain ⟨rfl, rfl⟩ := trodVars_none hV
  clear hA0 hval0 hsz0
  refine (AM.law_calls (params := [25, 22]) (ts := [25, 3, 22, 23, 80, 78, 156, 9]) sound (by kernel_rfl) (by simp) (args := #[v0, v1]) (fun j t v a b => hval j t v (by simpa using a) b) hA).mono fun e W' ⟨he, bel⟩ => ?_
  subst he
  exact ⟨_, rfl, _, _, _, [], _, [], hW', trodAll_mk1 (shut_bool Try.underlying4 _), AM.back_all AM.laid bel _ _ _ _ (by kernel_rfl) hA, rfl, bel.frame _, fun h => by cases h⟩
theorem over : Rows.fnExactOrderOkRow.holds Try.pinned (OpenSpec.ofChange Rows.fnExactOrderOkSpec) :=
  OpenClaim.holds_of_wide 7 Try.f7 rfl rfl rfl rfl rfl rfl rfl ⟨rfl, rfl, rfl, rfl, rfl⟩ rfl rfl rfl rfl rfl (by kernel_rfl) Try.func7 (by kernel_rfl)
    (of_decide_eq_true (by kernel_rfl)) (by unfold Func.isWrapper; first | (rw [if_pos (by decide +kernel)]; kernel_rfl) | (rw [if_neg (by decide +kernel)]; exact ⟨rfl, rfl⟩))
    (fun os started H enc _ => lifted os started H enc)
theorem proved : Rows.FnExactOrderOkSaid := over
end Go.Proofs.Ytlmlkkkgcbpaoaa.fnExactOrderOk
namespace Go.Proofs.Ytlmlkkkgcbpaoaa
theorem fnExactOrderOk_holds : Rows.FnExactOrderOkSaid := fnExactOrderOk.proved
end Go.Proofs.Ytlmlkkkgcbpaoaa
