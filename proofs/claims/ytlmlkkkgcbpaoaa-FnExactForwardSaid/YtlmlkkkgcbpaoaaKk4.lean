/- Lemmas: an abstract machine over named rows, and what single functions compute (parts G32, G33, G50, G34, G35, G45, G51, G36, G37, G38, G52, G62, G53, G39, G40, G44). -/
import Derived.Test.YtlmlkkkgcbpaoaaKk3
/-
  Places: words, symbols.
-/
set_option linter.unusedVariables false
set_option linter.unusedSimpArgs false
set_option maxRecDepth 4000
namespace Go.Proofs.Ytlmlkkkgcbpaoaa.AM
open Go.RowKit

private def MG32 : FuncId → Mode := fun f => .tree

theorem isT_t {op : ByteArray} {k : List UInt8} (h : isT op k = true) : op.toList = k := by simpa [isT] using h
theorem isT_f {op : ByteArray} {k : List UInt8} (h : ¬ isT op k = true) : (op.toList == k) = false := by simpa [isT] using h

theorem specBin (op : ByteArray) (a b : Int) : Pure Try.prog 142 [.str op, .int .i64 a, .int .i64 b] (.int .i64 (binV op a b)) := by
  intro T
  refine enter mixed MG32 Try.func142 rfl (by kernel_rfl) rfl ?_
  by_cases h1 : isT op [43] = true
  · have e1 := isT_t h1
    repeat' (first
     | with_reducible refine stp ?_
     | with_reducible refine k_blk_o rfl ?_
     | with_reducible refine k_seq_n ?_
     | ((try (conv => arg 1; simp [e1])); with_reducible refine evp ?_)
     | ((with_reducible refine apn ?na ?_); (case na => simp [appNames, ints, intss] <;> first | kernel_rfl | (refine ⟨?_, ?_⟩ <;> kernel_rfl)))
     | fail)
    exact dr_int (by simp [binV, h1, w64])
  have e1 := isT_f h1
  by_cases h2 : isT op [45] = true
  · have e2 := isT_t h2
    repeat' (first
     | with_reducible refine stp ?_
     | with_reducible refine k_blk_o rfl ?_
     | with_reducible refine k_seq_n ?_
     | ((try (conv => arg 1; simp [e1, e2])); with_reducible refine evp ?_)
     | ((with_reducible refine apn ?na ?_); (case na => simp [appNames, ints, intss] <;> first | kernel_rfl | (refine ⟨?_, ?_⟩ <;> kernel_rfl)))
     | fail)
    exact dr_int (by simp [binV, h1, h2, w64])
  have e2 := isT_f h2
  by_cases h3 : isT op [42] = true
  · have e3 := isT_t h3
    repeat' (first
     | with_reducible refine stp ?_
     | with_reducible refine k_blk_o rfl ?_
     | with_reducible refine k_seq_n ?_
     | ((try (conv => arg 1; simp [e1, e2, e3])); with_reducible refine evp ?_)
     | ((with_reducible refine apn ?na ?_); (case na => simp [appNames, ints, intss] <;> first | kernel_rfl | (refine ⟨?_, ?_⟩ <;> kernel_rfl)))
     | fail)
    exact dr_int (by simp [binV, h1, h2, h3, w64])
  have e3 := isT_f h3
  by_cases h4 : isT op [38] = true
  · have e4 := isT_t h4
    repeat' (first
     | with_reducible refine stp ?_
     | with_reducible refine k_blk_o rfl ?_
     | with_reducible refine k_seq_n ?_
     | ((try (conv => arg 1; simp [e1, e2, e3, e4])); with_reducible refine evp ?_)
     | ((with_reducible refine apn ?na ?_); (case na => simp [appNames, ints, intss] <;> first | kernel_rfl | (refine ⟨?_, ?_⟩ <;> kernel_rfl)))
     | fail)
    exact dr_int (by simp [binV, h1, h2, h3, h4, w64])
  have e4 := isT_f h4
  by_cases h5 : isT op [61, 61] = true
  · have e5 := isT_t h5
    by_cases hab : a = b
    · skip
      repeat' (first
       | with_reducible refine stp ?_
       | with_reducible refine k_blk_o rfl ?_
       | with_reducible refine k_seq_n ?_
       | ((try (conv => arg 1; simp [e1, e2, e3, e4, e5, hab])); with_reducible refine evp ?_)
       | ((with_reducible refine apn ?na ?_); (case na => simp [appNames, ints, intss] <;> first | kernel_rfl | (refine ⟨?_, ?_⟩ <;> kernel_rfl)))
       | fail)
      exact dr_int (by simp [binV, h1, h2, h3, h4, h5, hab])
    · skip
      repeat' (first
       | with_reducible refine stp ?_
       | with_reducible refine k_blk_o rfl ?_
       | with_reducible refine k_seq_n ?_
       | ((try (conv => arg 1; simp [e1, e2, e3, e4, e5, hab])); with_reducible refine evp ?_)
       | ((with_reducible refine apn ?na ?_); (case na => simp [appNames, ints, intss] <;> first | kernel_rfl | (refine ⟨?_, ?_⟩ <;> kernel_rfl)))
       | fail)
      exact dr_int (by simp [binV, h1, h2, h3, h4, h5, hab])
  have e5 := isT_f h5
  by_cases h6 : isT op [60] = true
  · have e6 := isT_t h6
    by_cases hab : a < b
    · skip
      repeat' (first
       | with_reducible refine stp ?_
       | with_reducible refine k_blk_o rfl ?_
       | with_reducible refine k_seq_n ?_
       | ((try (conv => arg 1; simp [e1, e2, e3, e4, e5, e6, hab])); with_reducible refine evp ?_)
       | ((with_reducible refine apn ?na ?_); (case na => simp [appNames, ints, intss] <;> first | kernel_rfl | (refine ⟨?_, ?_⟩ <;> kernel_rfl)))
       | fail)
      exact dr_int (by simp [binV, h1, h2, h3, h4, h5, h6, hab])
    · skip
      repeat' (first
       | with_reducible refine stp ?_
       | with_reducible refine k_blk_o rfl ?_
       | with_reducible refine k_seq_n ?_
       | ((try (conv => arg 1; simp [e1, e2, e3, e4, e5, e6, hab])); with_reducible refine evp ?_)
       | ((with_reducible refine apn ?na ?_); (case na => simp [appNames, ints, intss] <;> first | kernel_rfl | (refine ⟨?_, ?_⟩ <;> kernel_rfl)))
       | fail)
      exact dr_int (by simp [binV, h1, h2, h3, h4, h5, h6, hab])
  have e6 := isT_f h6
  repeat' (first
   | with_reducible refine stp ?_
   | with_reducible refine k_blk_o rfl ?_
   | with_reducible refine k_seq_n ?_
   | ((try (conv => arg 1; simp [e1, e2, e3, e4, e5, e6])); with_reducible refine evp ?_)
   | ((with_reducible refine apn ?na ?_); (case na => simp [appNames, ints, intss] <;> first | kernel_rfl | (refine ⟨?_, ?_⟩ <;> kernel_rfl)))
   | fail)
  exact dr_int (by simp [binV, h1, h2, h3, h4, h5, h6])
theorem implBin (op : ByteArray) (a b : Int) : Pure Try.prog 145 [.str op, .int .i64 a, .int .i64 b] (.int .i64 (binV op a b)) := by
  intro T
  refine enter mixed MG32 Try.func145 rfl (by kernel_rfl) rfl ?_
  by_cases h1 : isT op [43] = true
  · have e1 := isT_t h1
    repeat' (first
     | with_reducible refine stp ?_
     | with_reducible refine k_blk_o rfl ?_
     | with_reducible refine k_seq_n ?_
     | ((try (conv => arg 1; simp [e1])); with_reducible refine evp ?_)
     | ((with_reducible refine apn ?na ?_); (case na => simp [appNames, ints, intss] <;> first | kernel_rfl | (refine ⟨?_, ?_⟩ <;> kernel_rfl)))
     | fail)
    exact dr_int (by simp [binV, h1, w64])
  have e1 := isT_f h1
  by_cases h2 : isT op [45] = true
  · have e2 := isT_t h2
    repeat' (first
     | with_reducible refine stp ?_
     | with_reducible refine k_blk_o rfl ?_
     | with_reducible refine k_seq_n ?_
     | ((try (conv => arg 1; simp [e1, e2])); with_reducible refine evp ?_)
     | ((with_reducible refine apn ?na ?_); (case na => simp [appNames, ints, intss] <;> first | kernel_rfl | (refine ⟨?_, ?_⟩ <;> kernel_rfl)))
     | fail)
    exact dr_int (by simp [binV, h1, h2, w64])
  have e2 := isT_f h2
  by_cases h3 : isT op [42] = true
  · have e3 := isT_t h3
    repeat' (first
     | with_reducible refine stp ?_
     | with_reducible refine k_blk_o rfl ?_
     | with_reducible refine k_seq_n ?_
     | ((try (conv => arg 1; simp [e1, e2, e3])); with_reducible refine evp ?_)
     | ((with_reducible refine apn ?na ?_); (case na => simp [appNames, ints, intss] <;> first | kernel_rfl | (refine ⟨?_, ?_⟩ <;> kernel_rfl)))
     | fail)
    exact dr_int (by simp [binV, h1, h2, h3, w64])
  have e3 := isT_f h3
  by_cases h4 : isT op [38] = true
  · have e4 := isT_t h4
    repeat' (first
     | with_reducible refine stp ?_
     | with_reducible refine k_blk_o rfl ?_
     | with_reducible refine k_seq_n ?_
     | ((try (conv => arg 1; simp [e1, e2, e3, e4])); with_reducible refine evp ?_)
     | ((with_reducible refine apn ?na ?_); (case na => simp [appNames, ints, intss] <;> first | kernel_rfl | (refine ⟨?_, ?_⟩ <;> kernel_rfl)))
     | fail)
    exact dr_int (by simp [binV, h1, h2, h3, h4, w64])
  have e4 := isT_f h4
  by_cases h5 : isT op [61, 61] = true
  · have e5 := isT_t h5
    by_cases hab : a = b
    · skip
      repeat' (first
       | with_reducible refine stp ?_
       | with_reducible refine k_blk_o rfl ?_
       | with_reducible refine k_seq_n ?_
       | ((try (conv => arg 1; simp [e1, e2, e3, e4, e5, hab])); with_reducible refine evp ?_)
       | ((with_reducible refine apn ?na ?_); (case na => simp [appNames, ints, intss] <;> first | kernel_rfl | (refine ⟨?_, ?_⟩ <;> kernel_rfl)))
       | fail)
      exact dr_int (by simp [binV, h1, h2, h3, h4, h5, hab])
    · skip
      repeat' (first
       | with_reducible refine stp ?_
       | with_reducible refine k_blk_o rfl ?_
       | with_reducible refine k_seq_n ?_
       | ((try (conv => arg 1; simp [e1, e2, e3, e4, e5, hab])); with_reducible refine evp ?_)
       | ((with_reducible refine apn ?na ?_); (case na => simp [appNames, ints, intss] <;> first | kernel_rfl | (refine ⟨?_, ?_⟩ <;> kernel_rfl)))
       | fail)
      exact dr_int (by simp [binV, h1, h2, h3, h4, h5, hab])
  have e5 := isT_f h5
  by_cases h6 : isT op [60] = true
  · have e6 := isT_t h6
    by_cases hab : a < b
    · skip
      repeat' (first
       | with_reducible refine stp ?_
       | with_reducible refine k_blk_o rfl ?_
       | with_reducible refine k_seq_n ?_
       | ((try (conv => arg 1; simp [e1, e2, e3, e4, e5, e6, hab])); with_reducible refine evp ?_)
       | ((with_reducible refine apn ?na ?_); (case na => simp [appNames, ints, intss] <;> first | kernel_rfl | (refine ⟨?_, ?_⟩ <;> kernel_rfl)))
       | fail)
      exact dr_int (by simp [binV, h1, h2, h3, h4, h5, h6, hab])
    · skip
      repeat' (first
       | with_reducible refine stp ?_
       | with_reducible refine k_blk_o rfl ?_
       | with_reducible refine k_seq_n ?_
       | ((try (conv => arg 1; simp [e1, e2, e3, e4, e5, e6, hab])); with_reducible refine evp ?_)
       | ((with_reducible refine apn ?na ?_); (case na => simp [appNames, ints, intss] <;> first | kernel_rfl | (refine ⟨?_, ?_⟩ <;> kernel_rfl)))
       | fail)
      exact dr_int (by simp [binV, h1, h2, h3, h4, h5, h6, hab])
  have e6 := isT_f h6
  repeat' (first
   | with_reducible refine stp ?_
   | with_reducible refine k_blk_o rfl ?_
   | with_reducible refine k_seq_n ?_
   | ((try (conv => arg 1; simp [e1, e2, e3, e4, e5, e6])); with_reducible refine evp ?_)
   | ((with_reducible refine apn ?na ?_); (case na => simp [appNames, ints, intss] <;> first | kernel_rfl | (refine ⟨?_, ?_⟩ <;> kernel_rfl)))
   | fail)
  exact dr_int (by simp [binV, h1, h2, h3, h4, h5, h6])
theorem l06Bin (op : ByteArray) (a b : PV) : Pure Try.prog 127 [.str op, .agg a.cells, .agg b.cells] (.tup [.agg ((bin2 op a b).getD ⟨0, 0⟩).cells, .bool (bin2 op a b).isSome]) := by
  intro T
  have B := specBin op a.off b.off
  refine enter mixed MG32 Try.func127 rfl (by kernel_rfl) rfl ?_
  by_cases ha : a.base = -1
  · by_cases hb : b.base = -1
    · skip
      repeat' (first
       | with_reducible refine stp ?_
       | with_reducible refine k_blk_o rfl ?_
       | with_reducible refine k_seq_n ?_
       | ((try (conv => arg 1; simp [PV.cells, ha, hb])); with_reducible refine evp ?_)
       | ((with_reducible refine apn ?na ?_); (case na => simp [appNames, ints, intss] <;> first | kernel_rfl | (refine ⟨?_, ?_⟩ <;> kernel_rfl)))
       | ((with_reducible refine tcl ?_); first | ((apply tg (B)); (case e => rfl); (case d => (refine dq ?_); (repeat' (first | ((refine Da.mk ?_); first | assumption) | constructor)))))
       | fail)
      rw [show bin2 op a b = some ⟨-1, binV op a.off b.off⟩ by simp [bin2, ha, hb]]
      exact dr_tup2 (dr_agg (drs_pv _)) (.bool _)
    · by_cases h1 : isT op [43] = true
      · have e1 := isT_t h1
        repeat' (first
         | with_reducible refine stp ?_
         | with_reducible refine k_blk_o rfl ?_
         | with_reducible refine k_seq_n ?_
         | ((try (conv => arg 1; simp [PV.cells, ha, hb, e1])); with_reducible refine evp ?_)
         | ((with_reducible refine apn ?na ?_); (case na => simp [appNames, ints, intss] <;> first | kernel_rfl | (refine ⟨?_, ?_⟩ <;> kernel_rfl)))
         | fail)
        rw [show bin2 op a b = some ⟨b.base, w64 (a.off + b.off)⟩ by simp [bin2, ha, hb, h1]]
        exact dr_tup2 (dr_agg (drs_pv _)) (.bool _)
      · have e1 := isT_f h1
        have hab : ¬ a.base = b.base := fun e => hb (by rw [← e]; exact ha)
        have hab2 : ¬ -1 = b.base := fun e => hb e.symm
        by_cases h2 : isT op [45] = true
        · have e2 := isT_t h2
          repeat' (first
           | with_reducible refine stp ?_
           | with_reducible refine k_blk_o rfl ?_
           | with_reducible refine k_seq_n ?_
           | ((try (conv => arg 1; simp [PV.cells, ha, hb, e1, e2, hab, hab2])); with_reducible refine evp ?_)
           | ((with_reducible refine apn ?na ?_); (case na => simp [appNames, ints, intss] <;> first | kernel_rfl | (refine ⟨?_, ?_⟩ <;> kernel_rfl)))
           | ((with_reducible refine tcl ?_); first | ((apply tg (B)); (case e => rfl); (case d => (refine dq ?_); (repeat' (first | ((refine Da.mk ?_); first | assumption) | constructor)))))
           | fail)
          rw [show bin2 op a b = none by simp [bin2, ha, hb, h1, h2, hab2]]
          exact dr_tup2 (dr_agg (drs_pv _)) (.bool _)
        · have e2 := isT_f h2
          repeat' (first
           | with_reducible refine stp ?_
           | with_reducible refine k_blk_o rfl ?_
           | with_reducible refine k_seq_n ?_
           | ((try (conv => arg 1; simp [PV.cells, ha, hb, e1, e2, hab, hab2])); with_reducible refine evp ?_)
           | ((with_reducible refine apn ?na ?_); (case na => simp [appNames, ints, intss] <;> first | kernel_rfl | (refine ⟨?_, ?_⟩ <;> kernel_rfl)))
           | ((with_reducible refine tcl ?_); first | ((apply tg (B)); (case e => rfl); (case d => (refine dq ?_); (repeat' (first | ((refine Da.mk ?_); first | assumption) | constructor)))))
           | fail)
          rw [show bin2 op a b = none by simp [bin2, ha, hb, h1, h2, hab2]]
          exact dr_tup2 (dr_agg (drs_pv _)) (.bool _)
  · by_cases hb : b.base = -1
    · have hab : ¬ a.base = b.base := fun e => ha (by rw [e]; exact hb)
      by_cases h1 : isT op [43] = true
      · have e1 := isT_t h1
        repeat' (first
         | with_reducible refine stp ?_
         | with_reducible refine k_blk_o rfl ?_
         | with_reducible refine k_seq_n ?_
         | ((try (conv => arg 1; simp [PV.cells, ha, hb, e1])); with_reducible refine evp ?_)
         | ((with_reducible refine apn ?na ?_); (case na => simp [appNames, ints, intss] <;> first | kernel_rfl | (refine ⟨?_, ?_⟩ <;> kernel_rfl)))
         | ((with_reducible refine tcl ?_); first | ((apply tg (B)); (case e => rfl); (case d => (refine dq ?_); (repeat' (first | ((refine Da.mk ?_); first | assumption) | constructor)))))
         | fail)
        rw [show bin2 op a b = some ⟨a.base, w64 (a.off + b.off)⟩ by simp [bin2, ha, hb, h1]]
        exact dr_tup2 (dr_agg (drs_pv _)) (.bool _)
      · have e1 := isT_f h1
        by_cases h2 : isT op [45] = true
        · have e2 := isT_t h2
          repeat' (first
           | with_reducible refine stp ?_
           | with_reducible refine k_blk_o rfl ?_
           | with_reducible refine k_seq_n ?_
           | ((try (conv => arg 1; simp [PV.cells, ha, hb, e1, e2])); with_reducible refine evp ?_)
           | ((with_reducible refine apn ?na ?_); (case na => simp [appNames, ints, intss] <;> first | kernel_rfl | (refine ⟨?_, ?_⟩ <;> kernel_rfl)))
           | ((with_reducible refine tcl ?_); first | ((apply tg (B)); (case e => rfl); (case d => (refine dq ?_); (repeat' (first | ((refine Da.mk ?_); first | assumption) | constructor)))))
           | fail)
          rw [show bin2 op a b = some ⟨a.base, w64 (a.off - b.off)⟩ by simp [bin2, ha, hb, h1, h2]]
          exact dr_tup2 (dr_agg (drs_pv _)) (.bool _)
        · have e2 := isT_f h2
          repeat' (first
           | with_reducible refine stp ?_
           | with_reducible refine k_blk_o rfl ?_
           | with_reducible refine k_seq_n ?_
           | ((try (conv => arg 1; simp [PV.cells, ha, hb, e1, e2])); with_reducible refine evp ?_)
           | ((with_reducible refine apn ?na ?_); (case na => simp [appNames, ints, intss] <;> first | kernel_rfl | (refine ⟨?_, ?_⟩ <;> kernel_rfl)))
           | ((with_reducible refine tcl ?_); first | ((apply tg (B)); (case e => rfl); (case d => (refine dq ?_); (repeat' (first | ((refine Da.mk ?_); first | assumption) | constructor)))))
           | fail)
          rw [show bin2 op a b = none by simp [bin2, ha, hb, h1, h2]]
          exact dr_tup2 (dr_agg (drs_pv _)) (.bool _)
    · by_cases h1 : isT op [43] = true
      · have e1 := isT_t h1
        have h2 : ¬ isT op [45] = true := by simp [isT, e1]
        repeat' (first
         | with_reducible refine stp ?_
         | with_reducible refine k_blk_o rfl ?_
         | with_reducible refine k_seq_n ?_
         | ((try (conv => arg 1; simp [PV.cells, ha, hb, e1])); with_reducible refine evp ?_)
         | ((with_reducible refine apn ?na ?_); (case na => simp [appNames, ints, intss] <;> first | kernel_rfl | (refine ⟨?_, ?_⟩ <;> kernel_rfl)))
         | ((with_reducible refine tcl ?_); first | ((apply tg (B)); (case e => rfl); (case d => (refine dq ?_); (repeat' (first | ((refine Da.mk ?_); first | assumption) | constructor)))))
         | fail)
        rw [show bin2 op a b = none by simp [bin2, ha, hb, h1, h2]]
        exact dr_tup2 (dr_agg (drs_pv _)) (.bool _)
      · have e1 := isT_f h1
        by_cases h2 : isT op [45] = true
        · have e2 := isT_t h2
          by_cases hab : a.base = b.base
          · have hb2 := hb
            rw [← hab] at hb2
            repeat' (first
             | with_reducible refine stp ?_
             | with_reducible refine k_blk_o rfl ?_
             | with_reducible refine k_seq_n ?_
             | ((try (conv => arg 1; simp [PV.cells, ha, hb, e1, e2, hab])); with_reducible refine evp ?_)
             | ((with_reducible refine apn ?na ?_); (case na => simp [appNames, ints, intss] <;> first | kernel_rfl | (refine ⟨?_, ?_⟩ <;> kernel_rfl)))
             | ((with_reducible refine tcl ?_); first | ((apply tg (B)); (case e => rfl); (case d => (refine dq ?_); (repeat' (first | ((refine Da.mk ?_); first | assumption) | constructor)))))
             | fail)
            rw [show bin2 op a b = some ⟨-1, w64 (a.off - b.off)⟩ by simp [bin2, ha, hb, h1, h2, hab]]
            exact dr_tup2 (dr_agg (drs_pv _)) (.bool _)
          · 
            repeat' (first
             | with_reducible refine stp ?_
             | with_reducible refine k_blk_o rfl ?_
             | with_reducible refine k_seq_n ?_
             | ((try (conv => arg 1; simp [PV.cells, ha, hb, e1, e2, hab])); with_reducible refine evp ?_)
             | ((with_reducible refine apn ?na ?_); (case na => simp [appNames, ints, intss] <;> first | kernel_rfl | (refine ⟨?_, ?_⟩ <;> kernel_rfl)))
             | ((with_reducible refine tcl ?_); first | ((apply tg (B)); (case e => rfl); (case d => (refine dq ?_); (repeat' (first | ((refine Da.mk ?_); first | assumption) | constructor)))))
             | fail)
            rw [show bin2 op a b = none by simp [bin2, ha, hb, h1, h2, hab]]
            exact dr_tup2 (dr_agg (drs_pv _)) (.bool _)
        · have e2 := isT_f h2
          repeat' (first
           | with_reducible refine stp ?_
           | with_reducible refine k_blk_o rfl ?_
           | with_reducible refine k_seq_n ?_
           | ((try (conv => arg 1; simp [PV.cells, ha, hb, e1, e2])); with_reducible refine evp ?_)
           | ((with_reducible refine apn ?na ?_); (case na => simp [appNames, ints, intss] <;> first | kernel_rfl | (refine ⟨?_, ?_⟩ <;> kernel_rfl)))
           | ((with_reducible refine tcl ?_); first | ((apply tg (B)); (case e => rfl); (case d => (refine dq ?_); (repeat' (first | ((refine Da.mk ?_); first | assumption) | constructor)))))
           | fail)
          rw [show bin2 op a b = none by simp [bin2, ha, hb, h1, h2]]
          exact dr_tup2 (dr_agg (drs_pv _)) (.bool _)
end Go.Proofs.Ytlmlkkkgcbpaoaa.AM

/-
  Places: the plain law.
-/
set_option linter.unusedVariables false
set_option linter.unusedSimpArgs false
set_option maxRecDepth 4000
namespace Go.Proofs.Ytlmlkkkgcbpaoaa.AM
open Go.RowKit

def getS (st : List PV) (i : Int) : PV := st.getD i.toNat ⟨0, 0⟩
def plOf (x : Instr) (st : List PV) : Plc :=
  if x.Op = 3 ∨ x.Op = 4 then
    ⟨x.N, min (if 0 ≤ x.A then getS st x.A else ⟨-1, 0⟩).base (getS st x.B).base, max (if 0 ≤ x.A then getS st x.A else ⟨-1, 0⟩).base (getS st x.B).base, w64 ((if 0 ≤ x.A then getS st x.A else ⟨-1, 0⟩).off + (getS st x.B).off)⟩
  else ⟨-1, 0, 0, 0⟩
def stVal (x : Instr) (st : List PV) : Option PV :=
  if x.Op = 0 then some ⟨-1, x.N⟩ else if x.Op = 1 then some (getS st x.A) else if x.Op = 2 then bin2 x.Text (getS st x.A) (getS st x.B) else none
def stpP (x : Instr) (s : List PV × Int) : List PV × Int :=
  if x.Op = 4 ∨ x.Op = 6 then s else match stVal x s.1 with
  | some v => (s.1.set x.D.toNat v, s.2)
  | none => (s.1.set x.D.toNat ⟨s.2, 0⟩, s.2 + 1)
def start (n : Nat) : List PV := (List.range n).map fun i : Nat => ⟨(i : Int), 0⟩
def stN (s : List PV × Int) (l : List Instr) : List PV × Int := l.foldl (fun s x => stpP x s) s
def plsFrom : List Instr → List PV × Int → List Plc
  | [], _ => []
  | x :: l, s => plOf x s.1 :: plsFrom l (stpP x s)
def plcsOf (n : Nat) (code : List Instr) : List Plc := plsFrom code (start n, n)
theorem start_len (n : Nat) : (start n).length = n := by simp [start]
theorem start_succ (n : Nat) : start (n + 1) = start n ++ [⟨n, 0⟩] := by simp [start, List.range_succ]
theorem stp_len (x : Instr) (s : List PV × Int) : (stpP x s).1.length = s.1.length := by
  unfold stpP
  split
  · rfl
  · split <;> simp
theorem stp_nx (x : Instr) (s : List PV × Int) : s.2 ≤ (stpP x s).2 ∧ (stpP x s).2 ≤ s.2 + 1 := by
  unfold stpP
  split
  · omega
  · split <;> (simp only []; omega)
theorem stN_snoc (s : List PV × Int) (l : List Instr) (x : Instr) : stN s (l ++ [x]) = stpP x (stN s l) := by simp [stN]
theorem stN_len (l : List Instr) : ∀ s : List PV × Int, (stN s l).1.length = s.1.length := by
  induction l with
  | nil => intro s; rfl
  | cons x l ih => intro s; show (stN (stpP x s) l).1.length = _; rw [ih, stp_len]
theorem stN_nx (l : List Instr) : ∀ s : List PV × Int, s.2 ≤ (stN s l).2 ∧ (stN s l).2 ≤ s.2 + l.length := by
  induction l with
  | nil => intro s; simp [stN]
  | cons x l ih =>
    intro s
    have h1 := ih (stpP x s)
    have h2 := stp_nx x s
    have e : stN s (x :: l) = stN (stpP x s) l := rfl
    rw [e, List.length_cons]
    omega
theorem plsFrom_snoc (l : List Instr) (x : Instr) : ∀ s : List PV × Int, plsFrom (l ++ [x]) s = plsFrom l s ++ [plOf x (stN s l).1] := by
  induction l with
  | nil => intro s; rfl
  | cons y l ih => intro s; simp only [List.cons_append, plsFrom, ih]; rfl
theorem plsFrom_len (l : List Instr) : ∀ s : List PV × Int, (plsFrom l s).length = l.length := by
  induction l with
  | nil => intro s; rfl
  | cons y l ih => intro s; simp [plsFrom, ih]
theorem take_snoc {α : Type} {l : List α} {i : Nat} (hi : i < l.length) : l.take (i + 1) = l.take i ++ [l[i]] := by
  rw [List.take_add_one, List.getElem?_eq_getElem hi]; rfl
theorem plsFrom_take {l : List Instr} {i : Nat} (hi : i < l.length) (s : List PV × Int) : plsFrom (l.take (i + 1)) s = plsFrom (l.take i) s ++ [plOf l[i] (stN s (l.take i)).1] := by
  rw [take_snoc hi, plsFrom_snoc]
theorem stN_take {l : List Instr} {i : Nat} (hi : i < l.length) (s : List PV × Int) : stN s (l.take (i + 1)) = stpP l[i] (stN s (l.take i)) := by
  rw [take_snoc hi, stN_snoc]
theorem getS_at {st : List PV} {i : Nat} (hi : i < st.length) : getS st i = st[i] := by simp [getS, hi]
theorem pv_at {st : List PV} {i : Nat} (hi : i < st.length) : (st.map PV.cells)[i]? = some (getS st i).cells := by simp [getS, hi]

/-- What a right step says of its numbers. -/
structure InOk (ns : Nat) (x : Instr) : Prop where
  op : x.Op = 0 ∨ x.Op = 1 ∨ x.Op = 2 ∨ x.Op = 3 ∨ x.Op = 4 ∨ x.Op = 5 ∨ x.Op = 6
  d : ¬ x.Op = 4 → ¬ x.Op = 6 → ∃ d : Nat, x.D = d ∧ d < ns
  a : x.Op = 1 ∨ x.Op = 2 → ∃ a : Nat, x.A = a ∧ a < ns
  b : x.Op = 2 ∨ x.Op = 3 ∨ x.Op = 4 → ∃ b : Nat, x.B = b ∧ b < ns
  a2 : x.Op = 3 ∨ x.Op = 4 → x.A = -1 ∨ ∃ a : Nat, x.A = a ∧ a < ns
  r : x.Op = 3 ∨ x.Op = 4 → 0 ≤ x.N
  c : x.Op = 4 → 0 ≤ x.C
theorem inB_slot {a : Int} {ns : Nat} (h : inB a 0 (ns - 1) = true) : ∃ k : Nat, a = k ∧ k < ns := by
  simp [inB] at h
  exact ⟨a.toNat, by omega, by omega⟩
theorem instrOk_in {ns : Nat} {nr : Int} {x : Instr} (h : instrOk ns nr x = true) : InOk ns x := by
  unfold instrOk at h
  split at h
  · rename_i e
    simp only [Bool.and_eq_true] at h
    exact ⟨.inl e, fun _ _ => inB_slot h.1.1.1.1, fun g => by omega, fun g => by omega, fun g => by omega, fun g => by omega, fun g => by omega⟩
  split at h
  · rename_i e
    simp only [Bool.and_eq_true] at h
    exact ⟨by omega, fun _ _ => inB_slot h.1.1.1.1.1, fun g => inB_slot h.1.1.1.1.2, fun g => by omega, fun g => by omega, fun g => by omega, fun g => by omega⟩
  split at h
  · rename_i e
    simp only [Bool.and_eq_true] at h
    exact ⟨by omega, fun _ _ => inB_slot h.1.1.1.1.1, fun g => inB_slot h.1.1.1.1.2, fun g => inB_slot h.1.1.1.2, fun g => by omega, fun g => by omega, fun g => by omega⟩
  split at h
  · rename_i e
    simp only [Bool.and_eq_true, Bool.or_eq_true] at h
    refine ⟨by omega, fun _ _ => inB_slot h.1.1.1.1.1, fun g => by omega, fun g => inB_slot h.1.1.1.1.2, fun g => ?_, fun g => ?_, fun g => by omega⟩
    · rcases h.1.1.1.2 with h | h
      · exact .inr (inB_slot h)
      · exact .inl (by simpa using h)
    · have := h.1.1.2; simp [inB] at this; omega
  split at h
  · rename_i e
    simp only [Bool.and_eq_true, Bool.or_eq_true] at h
    refine ⟨by omega, fun g => by omega, fun g => by omega, fun g => inB_slot h.1.1.1.1.2, fun g => ?_, fun g => ?_, fun g => ?_⟩
    · rcases h.1.1.1.2 with h | h
      · exact .inr (inB_slot h)
      · exact .inl (by simpa using h)
    · have := h.1.1.2; simp [inB] at this; omega
    · have := h.1.2; simp [inB] at this; omega
  split at h
  · rename_i e
    simp only [Bool.and_eq_true] at h
    exact ⟨by omega, fun _ _ => inB_slot h.1.1.1.1.1, fun g => by omega, fun g => by omega, fun g => by omega, fun g => by omega, fun g => by omega⟩
  split at h
  · rename_i e
    exact ⟨by omega, fun _ g => absurd e g, fun g => by omega, fun g => by omega, fun g => by omega, fun g => by omega, fun g => by omega⟩
  · cases h
/-- What a right graph says of a block's steps. -/
theorem code_in {g : Graph} (hg : graphOk g = true) {i : Nat} (hi : i < g.Blocks.length) : ∃ ns : Nat, g.Slots = ns ∧ ns ≤ 1000 ∧ ∀ x ∈ g.Blocks[i].Code, InOk ns x := by
  simp only [graphOk, Bool.and_eq_true, List.all_eq_true] at hg
  have hh := headOk_head hg.1.1
  have hb := hg.2 _ (List.getElem_mem hi)
  have h1 := hh.slots
  refine ⟨g.Slots.toNat, by have := hh.params; omega, by omega, fun x hx => ?_⟩
  unfold blockOk at hb
  simp only [Bool.and_eq_true, List.all_eq_true] at hb
  have := hb.1 x hx
  rw [show g.Slots = (g.Slots.toNat : Int) by have := hh.params; omega] at this
  exact instrOk_in this
theorem gsum_all {α : Type} (f : α → Nat) (l : List α) : gsum f l l.length = (l.map f).sum := by simp [gsum]
theorem gsum_map_le {f : Block → Nat} {t : Block → Block} (ht : ∀ b, f (t b) ≤ f b) : ∀ l : List Block, gsum f (l.map t) (l.map t).length ≤ gsum f l l.length := by
  intro l
  rw [gsum_all, gsum_all]
  induction l with
  | nil => exact Nat.le_refl _
  | cons b l ih =>
    have := ht b
    simp only [List.map_cons, List.sum_cons]
    omega
end Go.Proofs.Ytlmlkkkgcbpaoaa.AM

/-
  Loads of what a slot has: the plain law.
-/
set_option linter.unusedVariables false
set_option linter.unusedSimpArgs false
set_option maxRecDepth 4000
namespace Go.Proofs.Ytlmlkkkgcbpaoaa.AM
open Go.RowKit

/-- A place, and a slot that has what stands there. -/
structure Hd where
  pl : Plc
  slot : Int
def Hd.cells (x : Hd) : List AV := [.int .i64 x.pl.R, .int .i64 x.pl.Lo, .int .i64 x.pl.Hi, .int .i64 x.pl.Off, .int .i64 x.slot]
def hds (b : Bool) (l : List Hd) : AV := .tr b (l.map Hd.cells)
@[simp] theorem one_hds (b : Bool) (xs : List Hd) : (hds b xs).one = true := rfl
@[simp] theorem stored_hds (b : Bool) (xs : List Hd) : (hds b xs).stored = true := rfl
@[simp] theorem cells_hds (b : Bool) (xs : List Hd) : (hds b xs).cells = [hds b xs] := rfl
theorem lenA_hds {P : Program} {t : TypeId} (b : Bool) (xs : List Hd) (h : (telem P t).isSome = true) : lenA P t (hds b xs) = some (.int .i64 xs.length) := by
  unfold hds
  rw [lenA_tr b _ h]
  simp
attribute [simp] lenA_hds
theorem hd_flat (w : Hd) : w.cells.length = 5 ∧ ∀ x ∈ w.cells, flatc x = true := ⟨rfl, by simp [Hd.cells, flatc]⟩
theorem hds_flat (ws : List Hd) : ∀ e ∈ ws.map Hd.cells, e.length = 5 ∧ ∀ x ∈ e, flatc x = true := fun e he => by
  obtain ⟨w, _, rfl⟩ := List.mem_map.1 he
  exact hd_flat w
theorem drs_hd {c : Bool} {rows : Nm → Option Row} (w : Hd) : DRs c rows w.cells w.cells := drs_flat (hd_flat w).2
theorem dr_hds {c b : Bool} {rows : Nm → Option Row} (hb : b = true → c = true) (ws : List Hd) : DR c rows (hds b ws) (hds c ws) := dr_trflat hb fun e he => (hds_flat ws e he).2
theorem dr_hds_sl {c : Bool} {rows : Nm → Option Row} {n : Nm} {ver len : Nat} {l : List Hd} {sp : List (List AV)} (hl : l.length = len) (h : rows n = some ⟨ver, 5, l.map Hd.cells ++ sp⟩) : DR c rows (.sl n ver 0 len) (hds c l) := by
  subst hl
  have := dr_flat_sl (c := c) (l := l.map Hd.cells) (sp := sp) h (fun e he => (hds_flat l e he).2)
  rw [List.length_map] at this
  exact this

def dropH (d : Int) (l : List Hd) : List Hd := l.filter fun h => !decide (h.slot = d)
def farH (p : Plc) (l : List Hd) : List Hd := l.filter fun h => aliasV h.pl p == 0
def isH (p : Plc) (h : Hd) : Bool := aliasV h.pl p == 2
def knowH (p : Plc) (l : List Hd) : Int := match l.find? (isH p) with
  | some h => h.slot
  | none => -1
def fwOne (x : Instr) (p : Plc) (l : List Hd) : Instr × List Hd :=
  if x.Op = 4 then (x, farH p l ++ [⟨p, x.C⟩])
  else if x.Op = 3 then (if 0 ≤ knowH p l then (⟨1, x.D, knowH p l, 0, 0, 0, ⟨#[]⟩⟩, dropH x.D l) else (x, dropH x.D l ++ [⟨p, x.D⟩]))
  else if x.Op = 6 then (x, l) else (x, dropH x.D l)
def fwN (l : List (Instr × Plc)) : List Instr × List Hd := l.foldl (fun s xp => ((s.1 ++ [(fwOne xp.1 xp.2 s.2).1]), (fwOne xp.1 xp.2 s.2).2)) ([], [])
def fwd (code : List Instr) (pls : List Plc) : List Instr := (fwN (code.zip pls)).1
theorem fwN_snoc (l : List (Instr × Plc)) (x : Instr × Plc) : fwN (l ++ [x]) = ((fwN l).1 ++ [(fwOne x.1 x.2 (fwN l).2).1], (fwOne x.1 x.2 (fwN l).2).2) := by simp [fwN]
theorem fwN_take {l : List (Instr × Plc)} {i : Nat} (hi : i < l.length) : fwN (l.take (i + 1)) = ((fwN (l.take i)).1 ++ [(fwOne l[i].1 l[i].2 (fwN (l.take i)).2).1], (fwOne l[i].1 l[i].2 (fwN (l.take i)).2).2) := by
  rw [take_snoc hi, fwN_snoc]
theorem snoc_ind {α : Type} {P : List α → Prop} (h0 : P []) (h1 : ∀ l x, P l → P (l ++ [x])) (l : List α) : P l := by
  have : ∀ l : List α, P l.reverse := fun l => by
    induction l with
    | nil => exact h0
    | cons x l ih => rw [List.reverse_cons]; exact h1 _ _ ih
  have := this l.reverse
  rwa [List.reverse_reverse] at this
theorem fwN_len (l : List (Instr × Plc)) : (fwN l).1.length = l.length := by
  induction l using snoc_ind with
  | h0 => rfl
  | h1 l x ih => rw [fwN_snoc]; simp [ih]
/-- All slots that are kept are slots. -/
theorem fwN_slot (l : List (Instr × Plc)) (hD : ∀ x ∈ l, x.1.Op = 3 → 0 ≤ x.1.D) (hC : ∀ x ∈ l, x.1.Op = 4 → 0 ≤ x.1.C) : ∀ h ∈ (fwN l).2, 0 ≤ h.slot := by
  induction l using snoc_ind with
  | h0 => intro h hh; cases hh
  | h1 l x ih =>
    have ih := ih (fun y hy => hD y (by simp [hy])) (fun y hy => hC y (by simp [hy]))
    have hD := hD x (by simp)
    have hC := hC x (by simp)
    rw [fwN_snoc]
    intro h hh
    unfold fwOne at hh
    split at hh
    · rename_i e
      simp only [List.mem_append, farH, List.mem_filter, List.mem_singleton] at hh
      rcases hh with hh | rfl
      · exact ih _ hh.1
      · exact hC e
    · split at hh
      · rename_i e
        split at hh
        · simp only [dropH, List.mem_filter] at hh
          exact ih _ hh.1
        · simp only [List.mem_append, dropH, List.mem_filter, List.mem_singleton] at hh
          rcases hh with hh | rfl
          · exact ih _ hh.1
          · exact hD e
      · split at hh
        · exact ih _ hh
        · simp only [dropH, List.mem_filter] at hh
          exact ih _ hh.1
theorem fwN_llen (l : List (Instr × Plc)) : (fwN l).2.length ≤ l.length := by
  induction l using snoc_ind with
  | h0 => simp [fwN]
  | h1 l x ih =>
    rw [fwN_snoc]
    have f1 : (farH x.2 (fwN l).2).length ≤ (fwN l).2.length := List.length_filter_le _ _
    have f2 : (dropH x.1.D (fwN l).2).length ≤ (fwN l).2.length := List.length_filter_le _ _
    unfold fwOne
    simp only [List.length_append, List.length_cons, List.length_nil]
    split
    · simp only [List.length_append, List.length_cons, List.length_nil]; omega
    · split
      · split
        · simp only []; omega
        · simp only [List.length_append, List.length_cons, List.length_nil]; omega
      · split
        · simp only []; omega
        · simp only []; omega
theorem knowH_find {p : Plc} {l : List Hd} (h : ∀ x ∈ l, 0 ≤ x.slot) : (∃ k : Nat, ∃ hk : k < l.length, l.findIdx? (isH p) = some k ∧ knowH p l = l[k].slot ∧ 0 ≤ knowH p l) ∨ (l.findIdx? (isH p) = none ∧ knowH p l = -1) := by
  unfold knowH
  rw [List.find?_eq_bind_findIdx?_getElem?]
  cases hf : l.findIdx? (isH p) with
  | none => exact .inr ⟨rfl, rfl⟩
  | some k =>
    obtain ⟨hk, _⟩ := List.findIdx?_eq_some_iff_getElem.1 hf
    left
    refine ⟨k, hk, rfl, ?_⟩
    simp only [Option.bind_some, List.getElem?_eq_getElem hk]
    exact ⟨trivial, h _ (List.getElem_mem hk)⟩
theorem wt_fwOne (x : Instr) (p : Plc) (l : List Hd) : wtI (fwOne x p l).1 ≤ wtI x := by
  unfold fwOne
  split
  · exact Nat.le_refl _
  · split
    · split
      · exact Nat.zero_le _
      · exact Nat.le_refl _
    · split <;> exact Nat.le_refl _
theorem wt_fwN (l : List (Instr × Plc)) : wtIS (fwN l).1 ≤ wtIS (l.map (·.1)) := by
  have key : ((fwN l).1.map wtI).sum ≤ ((l.map (·.1)).map wtI).sum := by
    induction l using snoc_ind with
    | h0 => exact Nat.le_refl _
    | h1 l x ih =>
      rw [fwN_snoc]
      have := wt_fwOne x.1 x.2 (fwN l).2
      simp only [List.map_append, List.sum_append, List.map_cons, List.map_nil, List.sum_cons, List.sum_nil]
      omega
  unfold wtIS
  rw [gsum_all, gsum_all, fwN_len, List.length_map]
  omega
def forwB (n : Nat) (b : Block) : Block := { b with Code := fwd b.Code (plcsOf n b.Code) }
def forwR (g : Graph) : Graph := if graphOk g = true then { g with Blocks := g.Blocks.map (forwB g.Slots.toNat) } else g
theorem zip_fst {α β : Type} : ∀ (l : List α) (m : List β), l.length ≤ m.length → (l.zip m).map (·.1) = l
  | [], _, _ => by simp
  | x :: l, [], h => by simp at h
  | x :: l, y :: m, h => by simp [zip_fst l m (by simpa using h)]
theorem forwB_wt (n : Nat) (b : Block) : wtB (forwB n b) ≤ wtB b := by
  have h := wt_fwN (b.Code.zip (plcsOf n b.Code))
  rw [zip_fst _ _ (by rw [show (plcsOf n b.Code).length = b.Code.length from plsFrom_len _ _]; exact Nat.le_refl _)] at h
  exact h
theorem forwR_small (g : Graph) (d : g.Small) : (forwR g).Small := by
  unfold forwR
  split
  · refine ⟨d.sizes, ?_⟩
    have := d.blocks
    unfold wtBS at this ⊢
    have h := gsum_map_le (f := wtB) (forwB_wt g.Slots.toNat) g.Blocks
    simp only [List.length_map] at h ⊢
    omega
  · exact d
end Go.Proofs.Ytlmlkkkgcbpaoaa.AM

/-
  Stores that are dead: the plain law.
-/
set_option linter.unusedVariables false
set_option linter.unusedSimpArgs false
set_option maxRecDepth 4000
namespace Go.Proofs.Ytlmlkkkgcbpaoaa.AM
open Go.RowKit

def mustV (l : List Plc) (p : Plc) : Bool := l.any fun q => aliasV q p == 2
def farV (l : List Plc) (p : Plc) : List Plc := l.filter fun q => aliasV q p == 0
/-- The reference's: the steps kept, the places stored behind. -/
def dsO : List Instr → List Plc → List Instr × List Plc
  | x :: l, p :: ps =>
    let r := dsO l ps
    if x.Op = 4 then (if mustV r.2 p = true then r.1 else x :: r.1, r.2 ++ [p])
    else if x.Op = 3 then (x :: r.1, farV r.2 p) else if x.Op = 6 then (x :: r.1, []) else (x :: r.1, r.2)
  | _, _ => ([], [])
/-- The program's. -/
def dsI : List Instr → List Plc → List Instr × List Plc
  | x :: l, p :: ps =>
    let r := dsI l ps
    if x.Op = 4 then (if mustV r.2 p = true then r else (x :: r.1, r.2 ++ [p]))
    else if x.Op = 3 then (x :: r.1, farV r.2 p) else if x.Op = 6 then (x :: r.1, []) else (x :: r.1, r.2)
  | _, _ => ([], [])
theorem aliasV_2 (q p : Plc) : aliasV q p = 2 ↔ q = p := by
  obtain ⟨a, b, c, d⟩ := q
  obtain ⟨a', b', c', d'⟩ := p
  unfold aliasV
  simp only [Plc.mk.injEq]
  by_cases h1 : a = a'
  · by_cases h2 : b = b' ∧ c = c'
    · by_cases h3 : d = d'
      · simp [h1, h2, h3]
      · simp [h1, h2, h3]
    · rw [if_pos h1, if_neg h2]
      constructor
      · intro h; omega
      · intro h; exact absurd ⟨h.2.1, h.2.2.1⟩ h2
  · simp [h1]
theorem mustV_mem (l : List Plc) (p : Plc) : mustV l p = true ↔ p ∈ l := by
  unfold mustV
  rw [List.any_eq_true]
  constructor
  · rintro ⟨q, hq, h⟩
    have := (aliasV_2 q p).1 (by simpa using h)
    exact this ▸ hq
  · intro h
    exact ⟨p, h, by simpa using (aliasV_2 p p).2 rfl⟩
theorem dsI_eq : ∀ (l : List Instr) (ps : List Plc), (dsI l ps).1 = (dsO l ps).1 ∧ ∀ q, q ∈ (dsI l ps).2 ↔ q ∈ (dsO l ps).2
  | [], ps => ⟨rfl, fun _ => Iff.rfl⟩
  | x :: l, [] => ⟨rfl, fun _ => Iff.rfl⟩
  | x :: l, p :: ps => by
    obtain ⟨h1, h2⟩ := dsI_eq l ps
    have hm : mustV (dsI l ps).2 p = mustV (dsO l ps).2 p := by
      rw [Bool.eq_iff_iff, mustV_mem, mustV_mem]; exact h2 p
    simp only [dsI, dsO]
    by_cases e4 : x.Op = 4
    · rw [if_pos e4, if_pos e4, hm]
      by_cases hv : mustV (dsO l ps).2 p = true
      · rw [if_pos hv, if_pos hv]
        refine ⟨h1, fun q => ?_⟩
        rw [List.mem_append, h2, List.mem_singleton]
        constructor
        · exact .inl
        · rintro (h | rfl)
          · exact h
          · exact (mustV_mem _ _).1 hv
      · rw [if_neg hv, if_neg hv]
        exact ⟨by rw [h1], fun q => by rw [List.mem_append, List.mem_append, h2]⟩
    · rw [if_neg e4, if_neg e4]
      by_cases e3 : x.Op = 3
      · rw [if_pos e3, if_pos e3]
        exact ⟨by rw [h1], fun q => by simp only [farV, List.mem_filter, h2]⟩
      · rw [if_neg e3, if_neg e3]
        by_cases e6 : x.Op = 6
        · rw [if_pos e6, if_pos e6]; exact ⟨by rw [h1], fun _ => Iff.rfl⟩
        · rw [if_neg e6, if_neg e6]; exact ⟨by rw [h1], h2⟩
theorem dsO_sub : ∀ (l : List Instr) (ps : List Plc), l.length = ps.length → (dsO l ps).1.Sublist l
  | [], [], _ => .slnil
  | x :: l, p :: ps, h => by
    have ih := dsO_sub l ps (by simpa using h)
    simp only [dsO]
    split
    · split
      · exact ih.cons _
      · exact ih.cons_cons _
    · split
      · exact ih.cons_cons _
      · split
        · exact ih.cons_cons _
        · exact ih.cons_cons _
def deadB (n : Nat) (b : Block) : Block := { b with Code := (dsO b.Code (plcsOf n b.Code)).1 }
def deadR (g : Graph) : Graph := if graphOk g = true then { g with Blocks := g.Blocks.map (deadB g.Slots.toNat) } else g
theorem plcsOf_len (n : Nat) (code : List Instr) : (plcsOf n code).length = code.length := plsFrom_len _ _
theorem deadB_sub (n : Nat) (b : Block) : (deadB n b).Code.Sublist b.Code := dsO_sub _ _ (plcsOf_len _ _).symm
theorem sub_sum {l m : List Nat} (h : l.Sublist m) : l.sum ≤ m.sum := by
  induction h with
  | slnil => exact Nat.le_refl _
  | cons a _ ih => simp only [List.sum_cons]; omega
  | cons_cons a _ ih => simp only [List.sum_cons]; omega
theorem deadB_wt (n : Nat) (b : Block) : wtB (deadB n b) ≤ wtB b := by
  have h := deadB_sub n b
  have h1 := h.length_le
  have h2 := sub_sum (h.map wtI)
  unfold wtB wtIS
  rw [gsum_all, gsum_all]
  omega
theorem deadR_small (g : Graph) (d : g.Small) : (deadR g).Small := by
  unfold deadR
  split
  · refine ⟨d.sizes, ?_⟩
    have := d.blocks
    unfold wtBS at this ⊢
    have h := gsum_map_le (f := wtB) (deadB_wt g.Slots.toNat) g.Blocks
    simp only [List.length_map] at h ⊢
    omega
  · exact d
/-- From the end, one step more. -/
theorem ds_drop {α β : Type} {l : List α} {ps : List β} {i : Nat} (hi : i < l.length) (he : ps.length = l.length) : l.drop i = l[i] :: l.drop (i + 1) ∧ ps.drop i = ps[i] :: ps.drop (i + 1) :=
  ⟨List.drop_eq_getElem_cons hi, List.drop_eq_getElem_cons (by omega)⟩
end Go.Proofs.Ytlmlkkkgcbpaoaa.AM

/-
  Slices of plain cells that grow and shrink: no row, or a row of their own.
-/
set_option linter.unusedVariables false
set_option linter.unusedSimpArgs false
set_option maxRecDepth 4000
namespace Go.Proofs.Ytlmlkkkgcbpaoaa.AM
open Go.RowKit

def FL (s : Nat) (l : List (List AV)) (w : AV) (b : Bx) : Prop :=
  (w = .nilsl ∧ l = [] ∧ b = []) ∨ ∃ k ver sp, w = .sl k ver 0 l.length ∧ (∀ e ∈ sp, e.length = s ∧ ∀ x ∈ e, flatc x = true) ∧ b = [(k, ⟨ver, s, l ++ sp⟩)]
theorem FL.one {s : Nat} {l : List (List AV)} {w : AV} {b : Bx} (f : FL s l w b) : w.one = true ∧ w.stored = true ∧ w.cells = [w] := by
  rcases f with ⟨rfl, _, _⟩ | ⟨k, ver, sp, rfl, _, _⟩ <;> exact ⟨rfl, rfl, rfl⟩
theorem FL.nil {s : Nat} : FL s [] .nilsl [] := .inl ⟨rfl, rfl, rfl⟩
theorem FL.mt {s : Nat} {k : Nm} {ver : Nat} : FL s [] (.sl k ver 0 0) [(k, ⟨ver, s, []⟩)] := .inr ⟨k, ver, [], rfl, by simp, rfl⟩
theorem FL.dr {s : Nat} {l : List (List AV)} {w : AV} {b : Bx} {h : Hp} {c : Bool} (f : FL s l w b) (hf : ∀ e ∈ l, ∀ x ∈ e, flatc x = true) (x : ∀ y ∈ b, h.rows y.1 = some y.2) : DR c h.rows w (.tr c l) := by
  rcases f with ⟨rfl, rfl, rfl⟩ | ⟨k, ver, sp, rfl, _, rfl⟩
  · exact .nilsl
  · exact dr_flat_sl (s := s) (x (k, _) (List.mem_singleton.2 rfl)) hf
theorem appendA_room {P : Program} {t : TypeId} {m n k : Nm} {v vk s len : Nat} {h : Hp} {l sp : List (List AV)} {e e0 : List AV} (h0 : ((telem P t).bind fun e => (tsz P e).bind fun s => (tby P e).bind fun bb => (tzero P e).bind fun z => some (s, decide (0 < s ∧ bb ≤ 32768 ∧ z.length = s))) = some (s, true))
    (hr : h.rows m = some ⟨v, s, l ++ e0 :: sp⟩) (hlen : l.length = len) (hk : h.rows k = some ⟨vk, s, [e]⟩) (he : e.length = s) (hl : len + 1 ≤ 4294967296) (hm : m.1 < h.tick) :
    appendA P t (.sl m v 0 len) (.sl k vk 0 1) h n = some (.sl m v 0 (len + 1), h.put m ⟨v, s, (l ++ [e]) ++ sp⟩) := by
  simp only [Option.bind_eq_some_iff] at h0
  obtain ⟨e', he', s', hs, bb, hb, z, hz, hd⟩ := h0
  simp only [Option.some.injEq, Prod.mk.injEq, decide_eq_true_eq] at hd
  obtain ⟨e1, hd1, hd2, hd3⟩ := hd
  rw [e1] at hs hd1 hd3
  subst hlen
  unfold appendA
  have hsrc : srcElems h.rows (.sl k vk 0 1) = some [e] := by simp [srcElems, hk]
  rw [he', hsrc]
  simp only [hs, hb, hz]
  have a1 : (l ++ e0 :: sp).take l.length = l := by simp
  have a2 : (l ++ e0 :: sp).drop (l.length + 1) = sp := by rw [show l ++ e0 :: sp = (l ++ [e0]) ++ sp by simp]; exact List.drop_left' (by simp)
  have a3 : l.length ≤ (l ++ e0 :: sp).length := by simp
  have a4 : l.length + 1 ≤ (l ++ e0 :: sp).length := by simp
  simp only [List.length_append, List.length_cons] at a3 a4
  simp [he, hd1, hd2, hd3, hr, hl, hm, a1, a2, a3, a4]
theorem Cx.to_front {h : Hp} {fs b bs : Bx} {os : Ox} (x : Cx h (fs ++ (b ++ bs)) os) : Cx h (b ++ (fs ++ bs)) os := x.bperm (List.perm_append_comm_assoc fs b bs)
theorem FL.app {P : Program} {t : TypeId} {s : Nat} {l : List (List AV)} {w : AV} {b bs : Bx} {os : Ox} {h : Hp} {k n : Nm} {vk : Nat} {e : List AV} (h0 : ((telem P t).bind fun e => (tsz P e).bind fun s => (tby P e).bind fun bb => (tzero P e).bind fun z => some (s, decide (0 < s ∧ bb ≤ 32768 ∧ z.length = s))) = some (s, true))
    (f : FL s l w b) (x : Cx h (b ++ bs) os) (hk : h.rows k = some ⟨vk, s, [e]⟩) (he : e.length = s) (hl : l.length + 1 ≤ 4294967296) (hn : n ∉ nms (b ++ bs) os) (ht : n.1 < h.tick) :
    ∃ w' b' h', appendA P t w (.sl k vk 0 1) h n = some (w', h') ∧ FL s (l ++ [e]) w' b' ∧ Cx h' (b' ++ bs) os ∧ h'.tick = h.tick ∧ (w'.one = true ∧ w'.stored = true ∧ w'.cells = [w']) := by
  rcases f with ⟨rfl, rfl, rfl⟩ | ⟨m, ver, sp, rfl, hsp, rfl⟩
  · exact ⟨_, [(n, ⟨0, s, [e]⟩)], _, appendA_nil1 h0 hk he, .inr ⟨n, 0, [], rfl, fun e he => by (cases he), rfl⟩, x.box_add hn ht, rfl, rfl, rfl, rfl⟩
  · have ltm := x.lt m (mem_box (x := (m, _)) (List.mem_cons_self ..))
    cases sp with
    | nil =>
      refine ⟨_, [(m, ⟨ver + 1, s, l ++ [e]⟩)], _, appendA_snoc h0 (by simpa using x.b0) rfl hk he hl (decide_eq_true ltm), .inr ⟨m, ver + 1, [], by simp, fun e he => by (cases he), by simp⟩, x.box_set, rfl, rfl, rfl, rfl⟩
    | cons e0 sp =>
      exact ⟨_, [(m, ⟨ver, s, (l ++ [e]) ++ sp⟩)], _, appendA_room h0 x.b0 rfl hk he hl ltm, .inr ⟨m, ver, sp, by simp, fun e he => hsp e (by simp [he]), rfl⟩, x.box_set, rfl, rfl, rfl, rfl⟩
/-- The step of an append. -/
theorem ev2_app {P : Program} {t : TypeId} {s : Nat} {l : List (List AV)} {w : AV} {fs b bs : Bx} {os : Ox} {h : Hp} {k n : Nm} {vk : Nat} {e : List AV} {N : AV → Hp → Prop} (h0 : ((telem P t).bind fun e => (tsz P e).bind fun s => (tby P e).bind fun bb => (tzero P e).bind fun z => some (s, decide (0 < s ∧ bb ≤ 32768 ∧ z.length = s))) = some (s, true))
    (f : FL s l w b) (x : Cx h (fs ++ (b ++ bs)) os) (hk : h.rows k = some ⟨vk, s, [e]⟩) (he : e.length = s) (hl : l.length + 1 ≤ 4294967296) (hn : n ∉ nms (fs ++ (b ++ bs)) os) (ht : n.1 < h.tick)
    (kk : ∀ w' b' h', FL s (l ++ [e]) w' b' → Cx h' (fs ++ (b' ++ bs)) os → h'.tick = h.tick → (w'.one = true ∧ w'.stored = true ∧ w'.cells = [w']) → N w' h') : Ev2 (appendA P t w (.sl k vk 0 1) h n) N := by
  have y := x.to_front
  obtain ⟨w', b', h', ea, fl, z, tk, q⟩ := FL.app (n := n) h0 f y hk he hl (fun e => hn (by
    simp only [nms, List.map_append, List.mem_append] at e ⊢
    rcases e with (e | e | e) | e
    · exact .inl (.inr (.inl e))
    · exact .inl (.inl e)
    · exact .inl (.inr (.inr e))
    · exact .inr e)) ht
  rw [ea]
  exact kk w' b' h' fl z.to_front tk q
theorem Cx.new_nin {h : Hp} {bs : Bx} {os : Ox} {T i : Nat} (x : Cx h bs os) (hT : h.tick ≤ T) : (T, i, 0) ∉ nms bs os := fun e => by
  have := x.lt _ e
  simp only at this
  omega
theorem FL.own {s : Nat} {l : List (List AV)} {w : AV} {b bs : Bx} {os : Ox} {h : Hp} (f : FL s l w b) (hf : ∀ e ∈ l, e.length = s ∧ ∀ x ∈ e, flatc x = true) (x : Cx h (b ++ bs) os) : ∃ ns, Cx h bs ((w, (fun c => .tr c l), ns) :: os) := by
  rcases f with ⟨rfl, rfl, rfl⟩ | ⟨k, ver, sp, rfl, hsp, rfl⟩
  · exact ⟨[], x.add_own (fun b => .one (.nilsl .nil)) .nil (fun n hn => by cases hn) (fun n _ => rfl) (Nat.le_refl _)⟩
  · exact ⟨[k], Cx.close_flat x hf (fun e he => (hsp e he).1) (clRow_flat fun e he => (hsp e he).2)⟩
/-- What a piece of code brings about, and no more of it. -/
theorem st_cut {P : Program} {M : FuncId → Mode} {σ : Nat → AV} {h : Hp} {K : Ex → (Nat → AV) → Hp → Prop} {a : Code} (R : (Nat → AV) → Hp → Prop) (w : wpC P M (Sound P) (drawW2 P M (Sound P)) a σ h (fun e σ' h' => e = .normal ∧ R σ' h')) (k : ∀ σ' h', R σ' h' → K .normal σ' h') : wpC P M (Sound P) (drawW2 P M (Sound P)) a σ h K :=
  wpC_mono Sound.le drawW_le a σ h _ _ (fun e σ' h' hr => by obtain ⟨rfl, hr⟩ := hr; exact k _ _ hr) w
theorem own_pvs {rows : Nm → Option Row} {c : Bool} {w : AV} {st : List PV} {ns : List Nm} (h : OwnV rows c w (pvs c st) ns) : w.one = true ∧ w.stored = true ∧ w.cells = [w] := own_one (own_of h rfl)
theorem Cx.open_pvs {h : Hp} {bs : Bx} {os : Ox} {w : AV} {st : List PV} {ns : List Nm} (x : Cx h bs ((w, (fun b => pvs b st), ns) :: os)) (hs : 0 < st.length) :
    ∃ k ver sp, w = .sl k ver 0 st.length ∧ ns = [k] ∧ (∀ e ∈ sp, e.length = 2) ∧ ClRow ⟨ver, 2, sp⟩ ∧ Cx h ((k, ⟨ver, 2, st.map PV.cells ++ sp⟩) :: bs) os := by
  have := x.open_flat (l := st.map PV.cells) (pvs_flat st) (by omega) (fun e => by have := List.map_eq_nil_iff.1 e; rw [this] at hs; simp at hs)
  rw [List.length_map] at this
  exact this
theorem Cx.close_pvs {h : Hp} {bs : Bx} {os : Ox} {k : Nm} {ver : Nat} {st : List PV} {sp : List (List AV)} {n : Nat} (x : Cx h ((k, ⟨ver, 2, st.map PV.cells ++ sp⟩) :: bs) os) (h1 : ∀ e ∈ sp, e.length = 2) (h2 : ClRow ⟨ver, 2, sp⟩) (hn : st.length = n) :
    Cx h bs ((.sl k ver 0 n, (fun b => pvs b st), [k]) :: os) := by
  have := x.close_flat (l := st.map PV.cells) (pvs_flat st) h1 h2
  rw [List.length_map, hn] at this
  exact this
end Go.Proofs.Ytlmlkkkgcbpaoaa.AM

/-
  Searches in slices, and what is left out of one: places.
-/
set_option linter.unusedVariables false
set_option linter.unusedSimpArgs false
set_option maxRecDepth 4000
namespace Go.Proofs.Ytlmlkkkgcbpaoaa.AM
open Go.RowKit

private def MG45 : FuncId → Mode := fun f => .tree

def idxF {α : Type} (q : α → Bool) (l : List α) : Int := match l.findIdx? q with
  | some k => (k : Int)
  | none => -1
theorem idxF_at {α : Type} {q : α → Bool} {l : List α} {i : Nat} (hi : i < l.length) (hq : q l[i] = true) (hn : ∀ m, m < i → ∀ hm : m < l.length, q l[m] = false) : idxF q l = i := by
  unfold idxF
  rw [List.findIdx?_eq_some_iff_getElem.2 ⟨hi, hq, fun j hj => by simpa using hn j hj (by omega)⟩]
theorem idxF_no {α : Type} {q : α → Bool} {l : List α} (hn : ∀ m, ∀ hm : m < l.length, q l[m] = false) : idxF q l = -1 := by
  unfold idxF
  rw [List.findIdx?_eq_none_iff.2 fun x hx => by
    obtain ⟨m, hm, rfl⟩ := List.mem_iff_getElem.1 hx
    exact hn m hm]
theorem idxF_spec {α : Type} (q : α → Bool) (l : List α) : (∃ k : Nat, ∃ hk : k < l.length, idxF q l = k ∧ q l[k] = true ∧ ∀ x ∈ l.take k, q x = false) ∨ (idxF q l = -1 ∧ ∀ x ∈ l, q x = false) := by
  unfold idxF
  cases hf : l.findIdx? q with
  | none => exact .inr ⟨rfl, List.findIdx?_eq_none_iff.1 hf⟩
  | some k =>
    obtain ⟨hk, h1, h2⟩ := List.findIdx?_eq_some_iff_getElem.1 hf
    refine .inl ⟨k, hk, rfl, h1, fun x hx => ?_⟩
    obtain ⟨m, hm, rfl⟩ := List.mem_iff_getElem.1 hx
    simp only [List.length_take] at hm
    rw [List.getElem_take]
    simpa using h2 m (by omega)
def eqV (p x : Plc) : Bool := decide (p.R = x.R) && (decide (p.Lo = x.Lo) && (decide (p.Hi = x.Hi) && (decide (p.Off = x.Off) && true)))
theorem eqV_iff (p x : Plc) : eqV p x = (aliasV x p == 2) := by
  rw [Bool.eq_iff_iff, beq_iff_eq, aliasV_2]
  obtain ⟨a, b, c, d⟩ := p
  obtain ⟨a', b', c', d'⟩ := x
  simp only [eqV, Bool.and_eq_true, decide_eq_true_eq, Bool.and_true, Plc.mk.injEq]
  constructor
  · rintro ⟨rfl, rfl, rfl, rfl⟩; exact ⟨rfl, rfl, rfl, rfl⟩
  · rintro ⟨rfl, rfl, rfl, rfl⟩; exact ⟨rfl, rfl, rfl, rfl⟩
theorem eqPV (p x : Plc) : eqCells [.i, .i, .i, .i] p.cells x.cells = some (eqV p x) := eqP _ _ _ _ _ _ _ _

set_option maxHeartbeats 1000000 in
theorem indexP (l : List Plc) (p : Plc) (hl : l.length ≤ 2 ^ 40) : Pure Try.prog 95 [plcs true l, .agg p.cells] (.int .i64 (idxF (eqV p) l)) := by
  intro T
  have hnil : True := trivial
  have hp : p.cells.length = 4 := rfl
  have hp1 : ones p.cells = true := rfl
  have hp2 : List.take 4 p.cells = p.cells := rfl
  refine enter mixed MG45 Try.func95 rfl (by kernel_rfl) rfl ?_
  repeat' (first
   | with_reducible refine stp ?_
   | with_reducible refine k_blk_o rfl ?_
   | ((try (conv => arg 1; simp [hp, hp1])); with_reducible refine evp ?_)
   | ((with_reducible refine apn ?na ?_); (case na => simp [appNames, ints, intss] <;> first | kernel_rfl | (refine ⟨?_, ?_⟩ <;> kernel_rfl)))
   | fail)
  refine cx_k (Cx.mt.next.box_one (T := T) (i := 0) (r := ⟨0, 4, [p.cells]⟩) Cx.mt.off (by simp)) ?_
  intro h1 x1
  repeat' (first
   | with_reducible refine stp ?_
   | with_reducible refine k_blk_o rfl ?_
   | with_reducible refine k_seq_n ?_
   | ((try (conv => arg 1; simp [plcs])); with_reducible refine evp ?_)
   | ((with_reducible refine apn ?na ?_); (case na => simp [appNames, ints, intss] <;> first | kernel_rfl | (refine ⟨?_, ?_⟩ <;> kernel_rfl)))
   | fail)
  refine st_loop (fun (i : Nat) σ h => i ≤ l.length ∧ σ 0 = plcs true l ∧ σ 3 = .ptr (T, 0, 0) 0 0 0 ∧ σ 7 = .int .i64 l.length ∧ σ 8 = .int .i64 i ∧ (∀ m, m < i → ∀ hm : m < l.length, eqV p l[m] = false) ∧ Cx h [((T, 0, 0), ⟨0, 4, [p.cells]⟩)] []) (fun i => l.length - i) 0 ?init ?step
  case init => exact ⟨Nat.zero_le _, by simp [plcs], by simp, by simp, by simp, fun m hm => by omega, Cx.to x1⟩
  case step =>
    rintro i σ h ⟨hi, s0, s3, s7, s8, hm, x⟩
    have b := x.bxs
    simp only [Bxs] at b
    by_cases hlt : i < l.length
    · have hlt2 : (i : Int) < l.length := by omega
      have hw : IntKind.i64.wrap (i + 1) = i + 1 := wrap_id (by omega) (by omega)
      have hx : l[i]? = some l[i] := by simp
      have hlen : l[i].cells.length = 4 := rfl
      have htk : List.take 4 l[i].cells = l[i].cells := rfl
      have hT : ¬ T = h.tick + 1 + 1 := by omega
      have E := eqPV p l[i]
      cases ha : eqV p l[i] with
      | true =>
        rw [ha] at E
        repeat' (first
         | with_reducible refine stp ?_
         | with_reducible refine k_blk_o rfl ?_
         | with_reducible refine k_seq_n ?_
         | ((try (conv => arg 1; simp [s0, s3, s7, s8, plcs, hlt2])); with_reducible refine evp ?_)
         | ((with_reducible refine apn ?na ?_); (case na => simp [appNames, ints, intss] <;> first | kernel_rfl | (refine ⟨?_, ?_⟩ <;> kernel_rfl)))
         | fail)
        repeat (with_reducible first | refine stp ?_ | refine k_seq_n ?_)
        refine st_draw 6 (fun _ => false) (by kernel_rfl) ?_
        simp only [List.take_succ_cons, List.take_zero, List.drop_succ_cons, List.drop_zero, List.take_nil, List.drop_nil]
        repeat' (first
         | with_reducible refine stp ?_
         | with_reducible refine k_blk_o rfl ?_
         | with_reducible refine k_seq_n ?_
         | ((try (conv => arg 1; simp [s0, s3, s7, s8, plcs, b, hp, hp1, hp2, hx, hlen, htk, E, maskR, hT])); with_reducible refine evp ?_)
         | ((with_reducible refine apn ?na ?_); (case na => simp [appNames, ints, intss] <;> first | kernel_rfl | (refine ⟨?_, ?_⟩ <;> kernel_rfl)))
         | fail)
        rw [idxF_at hlt ha hm]
        exact .int _ _
      | false =>
        rw [ha] at E
        repeat' (first
         | with_reducible refine stp ?_
         | with_reducible refine k_blk_o rfl ?_
         | with_reducible refine k_seq_n ?_
         | ((try (conv => arg 1; simp [s0, s3, s7, s8, plcs, hlt2])); with_reducible refine evp ?_)
         | ((with_reducible refine apn ?na ?_); (case na => simp [appNames, ints, intss] <;> first | kernel_rfl | (refine ⟨?_, ?_⟩ <;> kernel_rfl)))
         | fail)
        repeat (with_reducible first | refine stp ?_ | refine k_seq_n ?_)
        refine st_draw 6 (fun _ => false) (by kernel_rfl) ?_
        simp only [List.take_succ_cons, List.take_zero, List.drop_succ_cons, List.drop_zero, List.take_nil, List.drop_nil]
        repeat' (first
         | with_reducible refine stp ?_
         | with_reducible refine k_blk_o rfl ?_
         | with_reducible refine k_seq_n ?_
         | ((try (conv => arg 1; simp [s0, s3, s7, s8, plcs, b, hp, hp1, hp2, hx, hlen, htk, E, hw, maskR, hT])); with_reducible refine evp ?_)
         | ((with_reducible refine apn ?na ?_); (case na => simp [appNames, ints, intss] <;> first | kernel_rfl | (refine ⟨?_, ?_⟩ <;> kernel_rfl)))
         | fail)
        refine k_lp_n (i + 1) (by omega) ⟨by omega, by simp [s0, plcs], by simp [s3], by simp [s7], by simp, fun m h1 h2 => ?_, Cx.to x⟩
        by_cases e : m = i
        · subst e; exact ha
        · exact hm m (by omega) h2
    · have hge : i = l.length := by omega
      have hlt2 : ¬ (i : Int) < l.length := by omega
      repeat' (first
       | with_reducible refine stp ?_
       | with_reducible refine k_blk_o rfl ?_
       | with_reducible refine k_seq_n ?_
       | ((try (conv => arg 1; simp [s0, s3, s7, s8, plcs, hlt2])); with_reducible refine evp ?_)
       | ((with_reducible refine apn ?na ?_); (case na => simp [appNames, ints, intss] <;> first | kernel_rfl | (refine ⟨?_, ?_⟩ <;> kernel_rfl)))
       | fail)
      rw [idxF_no fun m h1 => hm m (by omega) h1]
      exact .int _ _
theorem containsP (l : List Plc) (p : Plc) (hl : l.length ≤ 2 ^ 40) : Pure Try.prog 60 [plcs true l, .agg p.cells] (.bool (mustV l p)) := by
  intro T
  have hp : p.cells.length = 4 := rfl
  have hp1 : ones p.cells = true := rfl
  have hp2 : List.take 4 p.cells = p.cells := rfl
  have I := indexP l p hl
  refine enter mixed MG45 Try.func60 rfl (by kernel_rfl) rfl ?_
  rcases idxF_spec (eqV p) l with ⟨k, hk, e, h1, _⟩ | ⟨e, h1⟩
  · rw [e] at I
    repeat' (first
     | with_reducible refine stp ?_
     | with_reducible refine k_blk_o rfl ?_
     | with_reducible refine k_seq_n ?_
     | ((try (conv => arg 1; simp [plcs, hp, hp1, hp2])); with_reducible refine evp ?_)
     | ((with_reducible refine apn ?na ?_); (case na => simp [appNames, ints, intss] <;> first | kernel_rfl | (refine ⟨?_, ?_⟩ <;> kernel_rfl)))
     | ((with_reducible refine tcl ?_); first | ((apply tg (I)); (case e => rfl); (case d => (refine dq ?_); (repeat' (first | ((refine Da.mk ?_); first | exact dr_plcs (by simp) _ | exact drs_plc _ | assumption) | constructor)))))
     | fail)
    have : mustV l p = true := by
      unfold mustV; rw [List.any_eq_true]; exact ⟨l[k], List.getElem_mem hk, by rw [← eqV_iff]; exact h1⟩
    rw [this]
    exact dr_bool (by simp)
  · rw [e] at I
    repeat' (first
     | with_reducible refine stp ?_
     | with_reducible refine k_blk_o rfl ?_
     | with_reducible refine k_seq_n ?_
     | ((try (conv => arg 1; simp [plcs, hp, hp1, hp2])); with_reducible refine evp ?_)
     | ((with_reducible refine apn ?na ?_); (case na => simp [appNames, ints, intss] <;> first | kernel_rfl | (refine ⟨?_, ?_⟩ <;> kernel_rfl)))
     | ((with_reducible refine tcl ?_); first | ((apply tg (I)); (case e => rfl); (case d => (refine dq ?_); (repeat' (first | ((refine Da.mk ?_); first | exact dr_plcs (by simp) _ | exact drs_plc _ | assumption) | constructor)))))
     | fail)
    have : mustV l p = false := by
      unfold mustV; rw [List.any_eq_false]; exact fun x hx => by rw [← eqV_iff, h1 x hx]; simp
    rw [this]
    exact dr_bool (by simp)

theorem clearA_at {P : Program} {t : TypeId} {n : Nm} {v off len s : Nat} {h : Hp} {pre mid post : List (List AV)} {z : List AV} (h0 : ((telem P t).bind fun e => (tsz P e).bind fun s => (tzero P e).bind fun z => some (s, z, decide (z.length = s ∧ 0 < s ∧ ones z = true))) = some (s, z, true))
    (hr : h.rows n = some ⟨v, s, pre ++ (mid ++ post)⟩) (hp : pre.length = off) (hm : mid.length = len) (ht : n.1 < h.tick) : clearA P t (.sl n v off len) h = some (h.put n ⟨v, s, pre ++ (List.replicate len z ++ post)⟩) := by
  simp only [Option.bind_eq_some_iff] at h0
  obtain ⟨e, he, s', hs, z', hz, hd⟩ := h0
  simp only [Option.some.injEq, Prod.mk.injEq, decide_eq_true_eq] at hd
  obtain ⟨rfl, rfl, hd⟩ := hd
  unfold clearA
  simp only [he, lenOfA, hs, hz]
  subst hp hm
  by_cases h0 : mid.length = 0
  · rw [if_pos h0]
    have : mid = [] := List.eq_nil_of_length_eq_zero h0
    subst this
    congr 1
    exact (hp_put_same (by simpa using hr)).symm
  · rw [if_neg h0, if_pos hd]
    have e1 : (pre ++ (mid ++ post)).take pre.length = pre := by simp
    have e2 : (pre ++ (mid ++ post)).drop (pre.length + mid.length) = post := by rw [← List.append_assoc]; exact List.drop_left' (by simp)
    simp only [overA, hr]
    rw [if_pos ⟨trivial, trivial, by simp, by simp, ht⟩]
    simp only [e1, List.length_replicate, e2, List.append_assoc]
end Go.Proofs.Ytlmlkkkgcbpaoaa.AM

/-
  What is left out of a slice: places and what they hold.
-/
set_option linter.unusedVariables false
set_option linter.unusedSimpArgs false
set_option maxRecDepth 4000
namespace Go.Proofs.Ytlmlkkkgcbpaoaa.AM
open Go.RowKit

private def MG51 : FuncId → Mode := fun f => .tree

set_option maxHeartbeats 1000000 in
theorem indexFuncH (l : List Hd) (g : FuncId) (tc : List AV) (q : Hd → Bool) (hl : l.length ≤ 2 ^ 40) (hg : ∀ p ∈ l, Pure Try.prog g (.agg p.cells :: tc) (.bool (q p))) (hc : ∀ rows, DRs true rows tc tc) : Pure Try.prog 104 [hds true l, .fn g tc] (.int .i64 (idxF q l)) := by
  intro T
  have hnil : True := trivial
  refine enter mixed MG51 Try.func104 rfl (by kernel_rfl) rfl ?_
  repeat' (first
   | with_reducible refine stp ?_
   | with_reducible refine k_blk_o rfl ?_
   | with_reducible refine k_seq_n ?_
   | ((try (conv => arg 1; simp [hds])); with_reducible refine evp ?_)
   | ((with_reducible refine apn ?na ?_); (case na => simp [appNames, ints, intss] <;> first | kernel_rfl | (refine ⟨?_, ?_⟩ <;> kernel_rfl)))
   | fail)
  refine st_loop (fun (i : Nat) σ h => i ≤ l.length ∧ σ 0 = hds true l ∧ σ 1 = .fn g tc ∧ σ 7 = .int .i64 l.length ∧ σ 8 = .int .i64 i ∧ (∀ m, m < i → ∀ hm : m < l.length, q l[m] = false)) (fun i => l.length - i) 0 ?init ?step
  case init => exact ⟨Nat.zero_le _, by simp [hds], by simp, by simp, by simp, fun m hm => by omega⟩
  case step =>
    rintro i σ h ⟨hi, s0, s1, s7, s8, hm⟩
    by_cases hlt : i < l.length
    · have hlt2 : (i : Int) < l.length := by omega
      have hw : IntKind.i64.wrap (i + 1) = i + 1 := wrap_id (by omega) (by omega)
      have hx : l[i]? = some l[i] := by simp
      have hlen : l[i].cells.length = 5 := rfl
      have htk : List.take 5 l[i].cells = l[i].cells := rfl
      have Q := hg l[i] (List.getElem_mem hlt)
      cases ha : q l[i] with
      | true =>
        rw [ha] at Q
        repeat' (first
         | with_reducible refine stp ?_
         | with_reducible refine k_blk_o rfl ?_
         | with_reducible refine k_seq_n ?_
         | ((try (conv => arg 1; simp [s0, s1, s7, s8, hds, hlt2, hx, hlen, htk])); with_reducible refine evp ?_)
         | ((with_reducible refine apn ?na ?_); (case na => simp [appNames, ints, intss] <;> first | kernel_rfl | (refine ⟨?_, ?_⟩ <;> kernel_rfl)))
         | ((with_reducible refine tcl ?_); first | ((apply tg (Q)); (case e => rfl); (case d => (refine dq ?_); (repeat' (first | ((refine Da.mk ?_); first | exact dr_agg (drs_hd _) | exact hc _ | assumption) | constructor)))))
         | fail)
        rw [idxF_at hlt ha hm]
        exact .int _ _
      | false =>
        rw [ha] at Q
        repeat' (first
         | with_reducible refine stp ?_
         | with_reducible refine k_blk_o rfl ?_
         | with_reducible refine k_seq_n ?_
         | ((try (conv => arg 1; simp [s0, s1, s7, s8, hds, hlt2, hx, hlen, htk, hw])); with_reducible refine evp ?_)
         | ((with_reducible refine apn ?na ?_); (case na => simp [appNames, ints, intss] <;> first | kernel_rfl | (refine ⟨?_, ?_⟩ <;> kernel_rfl)))
         | ((with_reducible refine tcl ?_); first | ((apply tg (Q)); (case e => rfl); (case d => (refine dq ?_); (repeat' (first | ((refine Da.mk ?_); first | exact dr_agg (drs_hd _) | exact hc _ | assumption) | constructor)))))
         | fail)
        refine k_lp_n (i + 1) (by omega) ⟨by omega, by simp [s0, hds], by simp [s1], by simp [s7], by simp, fun m h1 h2 => ?_⟩
        by_cases e : m = i
        · subst e; exact ha
        · exact hm m (by omega) h2
    · have hge : i = l.length := by omega
      have hlt2 : ¬ (i : Int) < l.length := by omega
      repeat' (first
       | with_reducible refine stp ?_
       | with_reducible refine k_blk_o rfl ?_
       | with_reducible refine k_seq_n ?_
       | ((try (conv => arg 1; simp [s0, s1, s7, s8, hds, hlt2])); with_reducible refine evp ?_)
       | ((with_reducible refine apn ?na ?_); (case na => simp [appNames, ints, intss] <;> first | kernel_rfl | (refine ⟨?_, ?_⟩ <;> kernel_rfl)))
       | fail)
      rw [idxF_no fun m h1 => hm m (by omega) h1]
      exact .int _ _

set_option maxHeartbeats 2000000 in
theorem deleteFuncH (l : List Hd) (g : FuncId) (caps tc : List AV) (q : Hd → Bool) (hl : l.length ≤ 2 ^ 31) (hg : ∀ p ∈ l, Pure Try.prog g (.agg p.cells :: tc) (.bool (q p))) (hc : ∀ rows, DRs true rows tc tc) {h : Hp} {bs b : Bx} {os : Ox} {w : AV} (fl : FL 5 (l.map Hd.cells) w b) (x : Cx h (b ++ bs) os)
    (hcap : ∀ h' b', Cx h' (b' ++ bs) os → DRs true h'.rows caps tc) :
    Sound Try.prog 102 [w, .fn g caps] h fun v h' => ∃ b', FL 5 ((l.filter fun p => !q p).map Hd.cells) v b' ∧ Cx h' (b' ++ bs) os := by
  have hnil : True := trivial
  have I := indexFuncH l g tc q (by omega) hg hc
  rcases idxF_spec q l with ⟨k0, hk0, e, hq0, hn0⟩ | ⟨e, hno⟩
  · rw [e] at I
    rcases fl with ⟨_, h0, _⟩ | ⟨k, ver, sp, rfl, hsp, rfl⟩
    · have := congrArg List.length h0; simp at this; subst this; simp at hk0
    · rw [List.length_map]
      have x : Cx h ((k, ⟨ver, 5, l.map Hd.cells ++ sp⟩) :: bs) os := x
      have bx := x.bxs
      simp only [Bxs] at bx
      have hne : ¬ (k0 : Int) = -1 := by omega
      have hw0 : IntKind.i64.wrap ((k0 : Int) + 1) = ((k0 + 1 : Nat) : Int) := by rw [wrap_id (by omega) (by omega)]; omega
      refine enter mixed MG51 Try.func102 rfl (by kernel_rfl) rfl ?_
      repeat' (first
       | with_reducible refine stp ?_
       | with_reducible refine k_blk_o rfl ?_
       | with_reducible refine k_seq_n ?_
       | ((try (conv => arg 1; simp [hnil])); with_reducible refine evp ?_)
       | ((with_reducible refine apn ?na ?_); (case na => simp [appNames, ints, intss] <;> first | kernel_rfl | (refine ⟨?_, ?_⟩ <;> kernel_rfl)))
       | fail)
      refine st_tree rfl I (.cons (dr_hds_sl (l := l) (sp := sp) rfl (by simp [bx])) (.cons (dr_fn (hcap _ [(k, _)] (Cx.to x))) .nil)) ?_
      repeat' (first
       | with_reducible refine stp ?_
       | with_reducible refine k_blk_o rfl ?_
       | with_reducible refine k_seq_n ?_
       | ((try (conv => arg 1; simp [hne, hw0])); with_reducible refine evp ?_)
       | ((with_reducible refine apn ?na ?_); (case na => simp [appNames, ints, intss] <;> first | kernel_rfl | (refine ⟨?_, ?_⟩ <;> kernel_rfl)))
       | fail)
      refine st_loop (fun (j : Nat) σ h' => j ≤ l.length ∧ σ 0 = .sl k ver 0 l.length ∧ σ 1 = .fn g caps ∧ σ 6 = .int .i64 j ∧ ∃ (cur : List Hd) (i : Nat), cur.length = l.length ∧ i < j ∧ σ 5 = .int .i64 i ∧ cur.take i = (l.take j).filter (fun p => !q p) ∧ cur.drop j = l.drop j ∧
        Cx h' ((k, ⟨ver, 5, cur.map Hd.cells ++ sp⟩) :: bs) os) (fun j => l.length - j) (k0 + 1) ?init ?step
      case init =>
        refine ⟨by omega, by simp, by simp, by simp, l, k0, rfl, by omega, by simp, ?_, rfl, Cx.to x⟩
        rw [take_snoc hk0, List.filter_append, List.filter_eq_self.2 (fun a ha => by simp [hn0 a ha])]
        simp [hq0]
      case step =>
        rintro j σ h' ⟨hj, s0, s1, s6, cur, i, hcl, hij, s5, ht, hd, y⟩
        by_cases hlt : j < l.length
        · have hlt2 : (j : Int) < l.length := by omega
          have hw : IntKind.i64.wrap (j + 1) = j + 1 := wrap_id (by omega) (by omega)
          have hwi : IntKind.i64.wrap (i + 1) = i + 1 := wrap_id (by omega) (by omega)
          have hil : i < l.length := by omega
          have hlen : l[j].cells.length = 5 := rfl
          have hon : ones l[j].cells = true := rfl
          have htk : List.take 5 l[j].cells = l[j].cells := rfl
          have hcj : cur[j]? = some l[j] := by
            have := congrArg (fun l => l[0]?) hd
            simpa [hlt] using this
          have hat : (cur.map Hd.cells ++ sp)[j]? = some l[j].cells := by
            rw [List.getElem?_append_left (by simp; omega), List.getElem?_map, hcj]; rfl
          have hset : (cur.map Hd.cells ++ sp).set i l[j].cells = (cur.set i l[j]).map Hd.cells ++ sp := by
            rw [List.set_append_left _ _ (by simp; omega), List.map_set]
          have hati : ∃ c : Hd, (cur.map Hd.cells ++ sp)[i]? = some c.cells := ⟨cur[i]'(by omega), by rw [List.getElem?_append_left (by simp; omega)]; simp [show i < cur.length by omega]⟩
          obtain ⟨c0, hati⟩ := hati
          have hlen0 : c0.cells.length = 5 := rfl
          have hdr0 : List.drop 5 c0.cells = [] := rfl
          generalize hE : cur.map Hd.cells ++ sp = E at *
          have bx := y.bxs
          simp only [Bxs] at bx
          have Q := hg l[j] (List.getElem_mem hlt)
          cases ha : q l[j] with
          | true =>
            rw [ha] at Q
            repeat' (first
             | with_reducible refine stp ?_
             | with_reducible refine k_blk_o rfl ?_
             | with_reducible refine k_seq_n ?_
             | ((try (conv => arg 1; simp [s0, s1, s5, s6, bx, hlt, hlt2, hat, hlen, hon, htk, hw, ltS, nm_ne])); with_reducible refine evp ?_)
             | ((with_reducible refine apn ?na ?_); (case na => simp [appNames, ints, intss] <;> first | kernel_rfl | (refine ⟨?_, ?_⟩ <;> kernel_rfl)))
             | ((with_reducible refine tcl ?_); first | ((apply tg (Q)); (case e => rfl); (case d => (refine dq ?_); (repeat' (first | ((refine Da.mk ?_); first | exact dr_agg (drs_hd _) | exact hcap _ [(k, _)] (Cx.to y) | exact drs_hd _ | assumption) | constructor)))))
             | fail)
            refine k_lp_n (j + 1) (by omega) ⟨by omega, by simp [s0], by simp [s1], by simp, cur, i, hcl, by omega, by simp [s5], ?_, ?_, by rw [hE]; exact Cx.to y⟩
            · rw [take_snoc hlt, List.filter_append, ht]; simp [ha]
            · rw [← List.drop_drop, hd, List.drop_drop]
          | false =>
            rw [ha] at Q
            repeat' (first
             | with_reducible refine stp ?_
             | with_reducible refine k_blk_o rfl ?_
             | with_reducible refine k_seq_n ?_
             | ((try (conv => arg 1; simp [s0, s1, s5, s6, bx, hlt, hlt2, hil, hat, hati, hlen, hlen0, hdr0, hon, htk, hw, hwi, ltS, nm_ne])); with_reducible refine evp ?_)
             | ((with_reducible refine apn ?na ?_); (case na => simp [appNames, ints, intss] <;> first | kernel_rfl | (refine ⟨?_, ?_⟩ <;> kernel_rfl)))
             | ((with_reducible refine tcl ?_); first | ((apply tg (Q)); (case e => rfl); (case d => (refine dq ?_); (repeat' (first | ((refine Da.mk ?_); first | exact dr_agg (drs_hd _) | exact hcap _ [(k, _)] (Cx.to y) | exact drs_hd _ | assumption) | constructor)))))
             | fail)
            refine k_lp_n (j + 1) (by omega) ⟨by omega, by simp [s0], by simp [s1], by simp, cur.set i l[j], i + 1, by simp [hcl], by omega, by simp, ?_, ?_, by rw [← hset]; exact Cx.to y⟩
            · rw [take_snoc hlt, List.filter_append, ← ht]
              have hi2 : i < (cur.set i l[j]).length := by simp; omega
              rw [take_snoc hi2]
              simp [ha, List.take_set]
              exact List.set_eq_of_length_le (by simp [Nat.min_le_left])
            · rw [List.drop_set_of_lt (by omega), ← List.drop_drop, hd, List.drop_drop]
        · have hge : j = l.length := by omega
          have hlt2 : ¬ (j : Int) < l.length := by omega
          subst hge
          rw [List.take_length] at ht
          have hil : i ≤ l.length := by omega
          have ee : cur.map Hd.cells ++ sp = (cur.take i).map Hd.cells ++ ((cur.drop i).map Hd.cells ++ sp) := by
            rw [← List.append_assoc, ← List.map_append, List.take_append_drop]
          have hpl : ((cur.take i).map Hd.cells).length = i := by simp; omega
          have hml : ((cur.drop i).map Hd.cells).length = l.length - i := by simp; omega
          have hEl : l.length ≤ (cur.map Hd.cells ++ sp).length := by simp; omega
          have bx := y.bxs
          simp only [Bxs] at bx
          have row := bx.1
          rw [ee] at row
          generalize hE : cur.map Hd.cells ++ sp = E at *
          repeat' (first
           | with_reducible refine stp ?_
           | with_reducible refine k_blk_o rfl ?_
           | with_reducible refine k_seq_n ?_
           | ((try (conv => arg 1; simp [s0, s1, s5, s6, bx, hlt2, hil, hEl, sliceA, bnd])); with_reducible refine evp ?_)
           | ((with_reducible refine apn ?na ?_); (case na => simp [appNames, ints, intss] <;> first | kernel_rfl | (refine ⟨?_, ?_⟩ <;> kernel_rfl)))
           | fail)
          conv => arg 1; simp
          rw [clearA_at (s := 5) (z := [AV.int .i64 0, AV.int .i64 0, AV.int .i64 0, AV.int .i64 0, AV.int .i64 0]) (pre := (cur.take i).map Hd.cells) (mid := (cur.drop i).map Hd.cells) (post := sp) (by kernel_rfl) (by simpa using row) hpl hml (by have := bx.2.1; simp; omega)]
          refine ev2_some ?_
          have hEl2 : i ≤ ((cur.take i).map Hd.cells ++ (List.replicate (l.length - i) [AV.int .i64 0, AV.int .i64 0, AV.int .i64 0, AV.int .i64 0, AV.int .i64 0] ++ sp)).length := by simp; omega
          have hrs : ∀ e ∈ List.replicate (l.length - i) [AV.int .i64 0, AV.int .i64 0, AV.int .i64 0, AV.int .i64 0, AV.int .i64 0] ++ sp, e.length = 5 ∧ ∀ x ∈ e, flatc x = true := fun e he => by
            rcases List.mem_append.1 he with he | he
            · rw [(List.mem_replicate.1 he).2]; exact ⟨rfl, by simp [flatc]⟩
            · exact hsp e he
          generalize hR : (cur.take i).map Hd.cells ++ (List.replicate (l.length - i) [AV.int .i64 0, AV.int .i64 0, AV.int .i64 0, AV.int .i64 0, AV.int .i64 0] ++ sp) = R at *
          repeat' (first
           | with_reducible refine stp ?_
           | with_reducible refine k_blk_o rfl ?_
           | with_reducible refine k_seq_n ?_
           | ((try (conv => arg 1; simp [s0, s1, s5, s6, bx, hil, hEl2, sliceA, bnd])); with_reducible refine evp ?_)
           | ((with_reducible refine apn ?na ?_); (case na => simp [appNames, ints, intss] <;> first | kernel_rfl | (refine ⟨?_, ?_⟩ <;> kernel_rfl)))
           | fail)
          refine ⟨[(k, ⟨ver, 5, R⟩)], .inr ⟨k, ver, List.replicate (l.length - i) [AV.int .i64 0, AV.int .i64 0, AV.int .i64 0, AV.int .i64 0, AV.int .i64 0] ++ sp, ?_, hrs, ?_⟩, Cx.to y⟩
          · rw [← ht, hpl]; rfl
          · rw [← ht, hR]
  · rw [e] at I
    have q1 := fl.one
    refine enter mixed MG51 Try.func102 rfl (by kernel_rfl) rfl ?_
    repeat' (first
     | with_reducible refine stp ?_
     | with_reducible refine k_blk_o rfl ?_
     | with_reducible refine k_seq_n ?_
     | ((try (conv => arg 1; simp [hnil])); with_reducible refine evp ?_)
     | ((with_reducible refine apn ?na ?_); (case na => simp [appNames, ints, intss] <;> first | kernel_rfl | (refine ⟨?_, ?_⟩ <;> kernel_rfl)))
     | fail)
    refine st_tree rfl I (.cons (fl.dr (fun e he => (hds_flat l e he).2) (fun y hy => (Cx.to x).box y (List.mem_append_left _ hy))) (.cons (dr_fn (hcap _ b (Cx.to x))) .nil)) ?_
    repeat' (first
     | with_reducible refine stp ?_
     | with_reducible refine k_blk_o rfl ?_
     | with_reducible refine k_seq_n ?_
     | ((try (conv => arg 1; simp [q1.1, q1.2.1, q1.2.2])); with_reducible refine evp ?_)
     | ((with_reducible refine apn ?na ?_); (case na => simp [appNames, ints, intss] <;> first | kernel_rfl | (refine ⟨?_, ?_⟩ <;> kernel_rfl)))
     | fail)
    refine ⟨b, ?_, Cx.to x⟩
    rw [List.filter_eq_self.2 (fun a ha => by simp [hno a ha])]
    exact fl
end Go.Proofs.Ytlmlkkkgcbpaoaa.AM

/-
  Places: the reference's, step by step.
-/
set_option linter.unusedVariables false
set_option linter.unusedSimpArgs false
set_option maxRecDepth 4000
namespace Go.Proofs.Ytlmlkkkgcbpaoaa.AM
open Go.RowKit

private def MG36 : FuncId → Mode := fun f => .tree

theorem l06Start (n : Nat) (hn : n ≤ 1000) : FreshW Try.prog 89 [.int .i64 n] (fun b => pvs b (start n)) := by
  intro T
  have hnil : True := trivial
  refine enter mixed MG36 Try.func89 rfl (by kernel_rfl) rfl ?_
  repeat' (first
   | with_reducible refine stp ?_
   | with_reducible refine k_blk_o rfl ?_
   | with_reducible refine k_seq_n ?_
   | ((try (conv => arg 1; simp [hnil])); with_reducible refine evp ?_)
   | ((with_reducible refine apn ?na ?_); (case na => simp [appNames, ints, intss] <;> first | kernel_rfl | (refine ⟨?_, ?_⟩ <;> kernel_rfl)))
   | fail)
  refine st_loop (fun (i : Nat) σ h => i ≤ n ∧ σ 0 = .int .i64 n ∧ σ 3 = .sl (T + 1, 0, 0) i 0 i ∧ σ 4 = .int .i64 i ∧ Cx h [((T + 1, 0, 0), ⟨i, 2, (start i).map PV.cells⟩)] []) (fun i => n - i) 0 ?init ?step
  case init =>
    have x0 := Cx.mt (T := T).next.next.box_one (T := T + 1) (i := 0) (r := ⟨0, 2, []⟩) (fun n hn => by simp [nms] at hn) (by simp)
    exact ⟨Nat.zero_le _, by simp, by simp, by simp, Cx.to x0⟩
  case step =>
    rintro i σ h ⟨hi, s0, s3, s4, x⟩
    have b := x.bxs
    simp only [Bxs] at b
    have hw : IntKind.i64.wrap (i + 1) = i + 1 := wrap_id (by omega) (by omega)
    by_cases hlt : i < n
    · have hlt2 : (i : Int) < n := by omega
      repeat' (first
       | with_reducible refine stp ?_
       | with_reducible refine k_blk_o rfl ?_
       | with_reducible refine k_seq_n ?_
       | ((try (conv => arg 1; simp [s0, s3, s4, b, hlt2, ltS, nm_ne, tk_ne])); with_reducible refine evp ?_)
       | ((with_reducible refine apn ?na ?_); (case na => simp [appNames, ints, intss] <;> first | kernel_rfl | (refine ⟨?_, ?_⟩ <;> kernel_rfl)))
       | fail)
      conv => arg 1; simp
      rw [appendA_snoc (s := 2) (l := (start i).map PV.cells) (e := PV.cells ⟨i, 0⟩) (by kernel_rfl) ?hr (by simp [start_len]) ?hk rfl (by omega) ?hm]
      case hr => simp [b, nm_ne]
      case hk => simp [PV.cells]
      case hm => simp [b, ltS]
      refine ev2_some ?_
      repeat' (first
       | with_reducible refine stp ?_
       | with_reducible refine k_blk_o rfl ?_
       | with_reducible refine k_seq_n ?_
       | ((try (conv => arg 1; simp [s0, s3, s4, b, hw, ltS, nm_ne, tk_ne])); with_reducible refine evp ?_)
       | ((with_reducible refine apn ?na ?_); (case na => simp [appNames, ints, intss] <;> first | kernel_rfl | (refine ⟨?_, ?_⟩ <;> kernel_rfl)))
       | fail)
      refine k_lp_n (i + 1) (by omega) ⟨by omega, by simp [s0], by simp, by simp, ?_⟩
      rw [start_succ, List.map_append]
      exact Cx.to x
    · have hge : i = n := by omega
      have hlt2 : ¬ (i : Int) < n := by omega
      subst hge
      repeat' (first
       | with_reducible refine stp ?_
       | with_reducible refine k_blk_o rfl ?_
       | with_reducible refine k_seq_n ?_
       | ((try (conv => arg 1; simp [s0, s3, s4, b, hlt2, ltS, nm_ne, tk_ne])); with_reducible refine evp ?_)
       | ((with_reducible refine apn ?na ?_); (case na => simp [appNames, ints, intss] <;> first | kernel_rfl | (refine ⟨?_, ?_⟩ <;> kernel_rfl)))
       | fail)
      have y := Cx.close_pvs (sp := []) (st := start i) (n := i) (by rw [List.append_nil]; exact x) (fun e he => by cases he) (fun i e j y he => by simp at he) (start_len i)
      refine fin_own (os := []) (ns := [(T + 1, 0, 0)]) (bs := ?bs1) ?y1
      case y1 => exact Cx.to y

theorem wrap_add (a b : Int) : IntKind.i64.wrap (a + b) = w64 (a + b) := rfl
theorem w64_comm (a b : Int) : w64 (a + b) = w64 (b + a) := by rw [Int.add_comm]
set_option maxHeartbeats 4000000 in
theorem l06Place (x : Instr) (st : List PV) (hx : InOk st.length x) : Pure Try.prog 90 [.agg x.cells, pvs true st] (.agg (plOf x st).cells) := by
  intro T
  have hnil : True := trivial
  obtain ⟨Op, D, A, B, C, N, Text⟩ := x
  refine enter mixed MG36 Try.func90 rfl (by kernel_rfl) rfl ?_
  by_cases h34 : Op = 3 ∨ Op = 4
  · have hb0 := hx.b (show Op = 2 ∨ Op = 3 ∨ Op = 4 by omega)
    obtain ⟨b, hB, hb⟩ := hb0
    have hA := hx.a2 h34
    simp only at hB hA
    subst hB
    have hxb : st[b]? = some st[b] := by simp
    have egb := getS_at hb
    generalize st[b] = vb at hxb egb
    obtain ⟨bb, bo⟩ := vb
    have h3 : Op = 3 ∨ (¬ Op = 3 ∧ Op = 4) := by
      by_cases e : Op = 3
      · exact .inl e
      · exact .inr ⟨e, h34.resolve_left e⟩
    rcases h3 with rfl | ⟨h3, rfl⟩
    · skip
      repeat' (first
       | with_reducible refine stp ?_
       | with_reducible refine k_blk_o rfl ?_
       | with_reducible refine k_seq_n ?_
       | ((try (conv => arg 1; simp [Instr.cells, PV.cells, hnil])); with_reducible refine evp ?_)
       | ((with_reducible refine apn ?na ?_); (case na => simp [appNames, ints, intss] <;> first | kernel_rfl | (refine ⟨?_, ?_⟩ <;> kernel_rfl)))
       | fail)
      repeat (with_reducible first | refine stp ?_ | refine k_seq_n ?_)
      refine st_cut (fun σ h' => σ 1 = pvs true st ∧ σ 2 = .ptr (T, 0, 0) 0 0 0 ∧ σ 4 = .ptr (T, 1, 0) 0 0 0 ∧ σ 5 = .ptr (T + 1 + 1, 6, 0) 0 0 0 ∧ σ 6 = .ptr (T + 1 + 1, 7, 0) 0 0 0 ∧
          Cx h' [((T + 1 + 1, 7, 0), ⟨0, 2, [[.int .i64 bb, .int .i64 bo]]⟩), ((T + 1 + 1, 6, 0), ⟨0, 2, [[.int .i64 (-1), .int .i64 0]]⟩), ((T, 1, 0), ⟨0, 4, [[.int .i64 0, .int .i64 0, .int .i64 0, .int .i64 0]]⟩), ((T, 0, 0), ⟨0, 7, [[.int .i64 3, .int .i64 D, .int .i64 A, .int .i64 b, .int .i64 C, .int .i64 N, .str Text]]⟩)] []) ?cw ?ck
      case cw =>
        repeat (with_reducible first | refine stp ?_ | refine k_seq_n ?_)
        refine st_lz (by kernel_rfl) ?_
        repeat' (first
         | with_reducible refine stp ?_
         | with_reducible refine k_blk_o rfl ?_
         | ((try (conv => arg 1; simp [Instr.cells, PV.cells, pvs, hxb, hnil])); with_reducible refine evp ?_)
         | ((with_reducible refine apn ?na ?_); (case na => simp [appNames, ints, intss] <;> first | kernel_rfl | (refine ⟨?_, ?_⟩ <;> kernel_rfl)))
          | ((with_reducible refine la_id ?_); refine la_end rfl ?_; (repeat (first | refine pl_nil ?_ | refine pl_cons ?_)))
          | ((with_reducible refine la_id ?_); refine la_pick ?_; (conv => arg 1; whnf); (repeat ((fail_if_success (first | ((refine la_q0 rfl ?_); (try (conv => arg 1; simp [Instr.cells, PV.cells, pvs, hxb, hnil])); with_reducible refine evp ?_) | ((refine la_n rfl rfl ?_); (try (conv => arg 1; simp [Instr.cells, PV.cells, pvs, hxb, hnil])); with_reducible refine evp ?_) | ((refine la_q2 rfl (by decide +kernel) ?_); (repeat (first | refine bk_nil ?_ | refine bk_t (by decide +kernel) ?_ | refine bk_f (by decide +kernel) ?_)); (try (conv => arg 1; simp [Instr.cells, PV.cells, pvs, hxb, hnil])); with_reducible refine evp ?_) | ((refine la_q1 rfl (by decide +kernel) ?_); (try (conv => arg 1; simp [Instr.cells, PV.cells, pvs, hxb, hnil])); with_reducible refine evp ?_) | ((refine la_g0 rfl ?_); (try (conv => arg 1; simp [Instr.cells, PV.cells, pvs, hxb, hnil])); with_reducible refine evp ?_; (with_reducible refine evp ?_); try ((try (conv => arg 1; simp [Instr.cells, PV.cells, pvs, hxb, hnil])); with_reducible refine evp ?_)))); (refine la_there ?_); (conv => arg 1; whnf))); first | ((refine la_q0 rfl ?_); (try (conv => arg 1; simp [Instr.cells, PV.cells, pvs, hxb, hnil])); with_reducible refine evp ?_) | ((refine la_n rfl rfl ?_); (try (conv => arg 1; simp [Instr.cells, PV.cells, pvs, hxb, hnil])); with_reducible refine evp ?_) | ((refine la_q2 rfl (by decide +kernel) ?_); (repeat (first | refine bk_nil ?_ | refine bk_t (by decide +kernel) ?_ | refine bk_f (by decide +kernel) ?_)); (try (conv => arg 1; simp [Instr.cells, PV.cells, pvs, hxb, hnil])); with_reducible refine evp ?_) | ((refine la_q1 rfl (by decide +kernel) ?_); (try (conv => arg 1; simp [Instr.cells, PV.cells, pvs, hxb, hnil])); with_reducible refine evp ?_) | ((refine la_g0 rfl ?_); (try (conv => arg 1; simp [Instr.cells, PV.cells, pvs, hxb, hnil])); with_reducible refine evp ?_; (with_reducible refine evp ?_); try ((try (conv => arg 1; simp [Instr.cells, PV.cells, pvs, hxb, hnil])); with_reducible refine evp ?_)))
          | ((with_reducible refine la_id ?_); refine la_all rfl ?_)
          | ((with_reducible refine all_id ?_); (conv => arg 1; whnf); first | exact all_nil | refine all_cons ?_ ?_)
          | (refine la_op rfl (by first | exact frm_s (by decide +kernel) | exact frm_a (by repeat' (first | exact fa_nil | refine fa_cons (by decide +kernel) ?_))) (by intro hq; first | exact trivial | (cases hq; done) | simp [appT, Instr.cells, PV.cells, pvs, hxb, hnil]) ?_; (repeat (first | refine bk_nil ?_ | refine bk_t (by decide +kernel) ?_ | refine bk_f (by decide +kernel) ?_)))
         | fail)
        all_goals
          refine ⟨rfl, by simp [pvs], by simp, by simp, by simp, by simp, ?_⟩
          have y0 := (((Cx.mt (T := T)).next.box_one (T := T) (i := 0) (r := ⟨0, 7, [[.int .i64 3, .int .i64 D, .int .i64 A, .int .i64 b, .int .i64 C, .int .i64 N, .str Text]]⟩) Cx.mt.off (by simp)).box_add (n := (T, 1, 0)) (r := ⟨0, 4, [[.int .i64 0, .int .i64 0, .int .i64 0, .int .i64 0]]⟩) (by simp [nms]) (by simp)).next.next
          have y1 := (y0.box_one (T := T + 1 + 1) (i := 6) (r := ⟨0, 2, [[.int .i64 0, .int .i64 0]]⟩) (fun n hn e => by simp [nms] at hn; rcases hn with rfl | rfl <;> simp at e) (by simp)).box_add (n := (T + 1 + 1, 7, 0)) (r := ⟨0, 2, [[.int .i64 0, .int .i64 0]]⟩) (by simp [nms]) (by simp)
          exact Cx.to y1
      case ck =>
        rintro σ h' ⟨s1, s2, s4, s5, s6, x⟩
        have bx := x.bxs
        simp only [Bxs] at bx
        rcases hA with rfl | ⟨a, rfl, ha⟩
        · rw [show plOf ⟨3, D, -1, (b : Int), C, N, Text⟩ st = ⟨N, min (-1) bb, max (-1) bb, w64 bo⟩ by simp [plOf, egb]]
          by_cases hlt : bb < -1
          · rw [Int.min_eq_right (by omega), Int.max_eq_left (by omega)]
            repeat' (first
             | with_reducible refine stp ?_
             | with_reducible refine k_blk_o rfl ?_
             | with_reducible refine k_seq_n ?_
             | ((try (conv => arg 1; simp [s1, s2, s4, s5, s6, bx, PV.cells, hlt, ltS, nm_ne, tk_ne])); with_reducible refine evp ?_)
             | ((with_reducible refine apn ?na ?_); (case na => simp [appNames, ints, intss] <;> first | kernel_rfl | (refine ⟨?_, ?_⟩ <;> kernel_rfl)))
             | fail)
            exact dr_agg (drs_plc ⟨_, _, _, _⟩)
          · rw [Int.min_eq_left (by omega), Int.max_eq_right (by omega)]
            repeat' (first
             | with_reducible refine stp ?_
             | with_reducible refine k_blk_o rfl ?_
             | with_reducible refine k_seq_n ?_
             | ((try (conv => arg 1; simp [s1, s2, s4, s5, s6, bx, PV.cells, hlt, ltS, nm_ne, tk_ne])); with_reducible refine evp ?_)
             | ((with_reducible refine apn ?na ?_); (case na => simp [appNames, ints, intss] <;> first | kernel_rfl | (refine ⟨?_, ?_⟩ <;> kernel_rfl)))
             | fail)
            exact dr_agg (drs_plc ⟨_, _, _, _⟩)
        · have hxa : st[a]? = some st[a] := by simp
          have ega := getS_at ha
          generalize st[a] = va at hxa ega
          obtain ⟨ab, ao⟩ := va
          rw [show plOf ⟨3, D, (a : Int), (b : Int), C, N, Text⟩ st = ⟨N, min ab bb, max ab bb, w64 (ao + bo)⟩ by simp only [plOf, if_pos (show (3 : Int) = 3 ∨ (3 : Int) = 4 by omega), egb, ega]; rfl]
          by_cases hlt : bb < ab
          · rw [Int.min_eq_right (by omega), Int.max_eq_left (by omega), Int.add_comm]
            repeat' (first
             | with_reducible refine stp ?_
             | with_reducible refine k_blk_o rfl ?_
             | with_reducible refine k_seq_n ?_
             | ((try (conv => arg 1; simp [s1, s2, s4, s5, s6, bx, pvs, hxa, PV.cells, hlt, ltS, nm_ne, tk_ne])); with_reducible refine evp ?_)
             | ((with_reducible refine apn ?na ?_); (case na => simp [appNames, ints, intss] <;> first | kernel_rfl | (refine ⟨?_, ?_⟩ <;> kernel_rfl)))
             | fail)
            exact dr_agg (drs_plc ⟨_, _, _, _⟩)
          · rw [Int.min_eq_left (by omega), Int.max_eq_right (by omega)]
            repeat' (first
             | with_reducible refine stp ?_
             | with_reducible refine k_blk_o rfl ?_
             | with_reducible refine k_seq_n ?_
             | ((try (conv => arg 1; simp [s1, s2, s4, s5, s6, bx, pvs, hxa, PV.cells, hlt, ltS, nm_ne, tk_ne])); with_reducible refine evp ?_)
             | ((with_reducible refine apn ?na ?_); (case na => simp [appNames, ints, intss] <;> first | kernel_rfl | (refine ⟨?_, ?_⟩ <;> kernel_rfl)))
             | fail)
            exact dr_agg (drs_plc ⟨_, _, _, _⟩)
    · skip
      repeat' (first
       | with_reducible refine stp ?_
       | with_reducible refine k_blk_o rfl ?_
       | with_reducible refine k_seq_n ?_
       | ((try (conv => arg 1; simp [Instr.cells, PV.cells, h3])); with_reducible refine evp ?_)
       | ((with_reducible refine apn ?na ?_); (case na => simp [appNames, ints, intss] <;> first | kernel_rfl | (refine ⟨?_, ?_⟩ <;> kernel_rfl)))
       | fail)
      repeat (with_reducible first | refine stp ?_ | refine k_seq_n ?_)
      refine st_cut (fun σ h' => σ 1 = pvs true st ∧ σ 2 = .ptr (T, 0, 0) 0 0 0 ∧ σ 4 = .ptr (T, 1, 0) 0 0 0 ∧ σ 5 = .ptr (T + 1 + 1, 6, 0) 0 0 0 ∧ σ 6 = .ptr (T + 1 + 1, 7, 0) 0 0 0 ∧
          Cx h' [((T + 1 + 1, 7, 0), ⟨0, 2, [[.int .i64 bb, .int .i64 bo]]⟩), ((T + 1 + 1, 6, 0), ⟨0, 2, [[.int .i64 (-1), .int .i64 0]]⟩), ((T, 1, 0), ⟨0, 4, [[.int .i64 0, .int .i64 0, .int .i64 0, .int .i64 0]]⟩), ((T, 0, 0), ⟨0, 7, [[.int .i64 4, .int .i64 D, .int .i64 A, .int .i64 b, .int .i64 C, .int .i64 N, .str Text]]⟩)] []) ?cw ?ck
      case cw =>
        repeat (with_reducible first | refine stp ?_ | refine k_seq_n ?_)
        refine st_lz (by kernel_rfl) ?_
        repeat' (first
         | with_reducible refine stp ?_
         | with_reducible refine k_blk_o rfl ?_
         | ((try (conv => arg 1; simp [Instr.cells, PV.cells, pvs, hxb, hnil])); with_reducible refine evp ?_)
         | ((with_reducible refine apn ?na ?_); (case na => simp [appNames, ints, intss] <;> first | kernel_rfl | (refine ⟨?_, ?_⟩ <;> kernel_rfl)))
          | ((with_reducible refine la_id ?_); refine la_end rfl ?_; (repeat (first | refine pl_nil ?_ | refine pl_cons ?_)))
          | ((with_reducible refine la_id ?_); refine la_pick ?_; (conv => arg 1; whnf); (repeat ((fail_if_success (first | ((refine la_q0 rfl ?_); (try (conv => arg 1; simp [Instr.cells, PV.cells, pvs, hxb, hnil])); with_reducible refine evp ?_) | ((refine la_n rfl rfl ?_); (try (conv => arg 1; simp [Instr.cells, PV.cells, pvs, hxb, hnil])); with_reducible refine evp ?_) | ((refine la_q2 rfl (by decide +kernel) ?_); (repeat (first | refine bk_nil ?_ | refine bk_t (by decide +kernel) ?_ | refine bk_f (by decide +kernel) ?_)); (try (conv => arg 1; simp [Instr.cells, PV.cells, pvs, hxb, hnil])); with_reducible refine evp ?_) | ((refine la_q1 rfl (by decide +kernel) ?_); (try (conv => arg 1; simp [Instr.cells, PV.cells, pvs, hxb, hnil])); with_reducible refine evp ?_) | ((refine la_g0 rfl ?_); (try (conv => arg 1; simp [Instr.cells, PV.cells, pvs, hxb, hnil])); with_reducible refine evp ?_; (with_reducible refine evp ?_); try ((try (conv => arg 1; simp [Instr.cells, PV.cells, pvs, hxb, hnil])); with_reducible refine evp ?_)))); (refine la_there ?_); (conv => arg 1; whnf))); first | ((refine la_q0 rfl ?_); (try (conv => arg 1; simp [Instr.cells, PV.cells, pvs, hxb, hnil])); with_reducible refine evp ?_) | ((refine la_n rfl rfl ?_); (try (conv => arg 1; simp [Instr.cells, PV.cells, pvs, hxb, hnil])); with_reducible refine evp ?_) | ((refine la_q2 rfl (by decide +kernel) ?_); (repeat (first | refine bk_nil ?_ | refine bk_t (by decide +kernel) ?_ | refine bk_f (by decide +kernel) ?_)); (try (conv => arg 1; simp [Instr.cells, PV.cells, pvs, hxb, hnil])); with_reducible refine evp ?_) | ((refine la_q1 rfl (by decide +kernel) ?_); (try (conv => arg 1; simp [Instr.cells, PV.cells, pvs, hxb, hnil])); with_reducible refine evp ?_) | ((refine la_g0 rfl ?_); (try (conv => arg 1; simp [Instr.cells, PV.cells, pvs, hxb, hnil])); with_reducible refine evp ?_; (with_reducible refine evp ?_); try ((try (conv => arg 1; simp [Instr.cells, PV.cells, pvs, hxb, hnil])); with_reducible refine evp ?_)))
          | ((with_reducible refine la_id ?_); refine la_all rfl ?_)
          | ((with_reducible refine all_id ?_); (conv => arg 1; whnf); first | exact all_nil | refine all_cons ?_ ?_)
          | (refine la_op rfl (by first | exact frm_s (by decide +kernel) | exact frm_a (by repeat' (first | exact fa_nil | refine fa_cons (by decide +kernel) ?_))) (by intro hq; first | exact trivial | (cases hq; done) | simp [appT, Instr.cells, PV.cells, pvs, hxb, hnil]) ?_; (repeat (first | refine bk_nil ?_ | refine bk_t (by decide +kernel) ?_ | refine bk_f (by decide +kernel) ?_)))
         | fail)
        all_goals
          refine ⟨rfl, by simp [pvs], by simp, by simp, by simp, by simp, ?_⟩
          have y0 := (((Cx.mt (T := T)).next.box_one (T := T) (i := 0) (r := ⟨0, 7, [[.int .i64 4, .int .i64 D, .int .i64 A, .int .i64 b, .int .i64 C, .int .i64 N, .str Text]]⟩) Cx.mt.off (by simp)).box_add (n := (T, 1, 0)) (r := ⟨0, 4, [[.int .i64 0, .int .i64 0, .int .i64 0, .int .i64 0]]⟩) (by simp [nms]) (by simp)).next.next
          have y1 := (y0.box_one (T := T + 1 + 1) (i := 6) (r := ⟨0, 2, [[.int .i64 0, .int .i64 0]]⟩) (fun n hn e => by simp [nms] at hn; rcases hn with rfl | rfl <;> simp at e) (by simp)).box_add (n := (T + 1 + 1, 7, 0)) (r := ⟨0, 2, [[.int .i64 0, .int .i64 0]]⟩) (by simp [nms]) (by simp)
          exact Cx.to y1
      case ck =>
        rintro σ h' ⟨s1, s2, s4, s5, s6, x⟩
        have bx := x.bxs
        simp only [Bxs] at bx
        rcases hA with rfl | ⟨a, rfl, ha⟩
        · rw [show plOf ⟨4, D, -1, (b : Int), C, N, Text⟩ st = ⟨N, min (-1) bb, max (-1) bb, w64 bo⟩ by simp [plOf, egb]]
          by_cases hlt : bb < -1
          · rw [Int.min_eq_right (by omega), Int.max_eq_left (by omega)]
            repeat' (first
             | with_reducible refine stp ?_
             | with_reducible refine k_blk_o rfl ?_
             | with_reducible refine k_seq_n ?_
             | ((try (conv => arg 1; simp [s1, s2, s4, s5, s6, bx, PV.cells, hlt, ltS, nm_ne, tk_ne])); with_reducible refine evp ?_)
             | ((with_reducible refine apn ?na ?_); (case na => simp [appNames, ints, intss] <;> first | kernel_rfl | (refine ⟨?_, ?_⟩ <;> kernel_rfl)))
             | fail)
            exact dr_agg (drs_plc ⟨_, _, _, _⟩)
          · rw [Int.min_eq_left (by omega), Int.max_eq_right (by omega)]
            repeat' (first
             | with_reducible refine stp ?_
             | with_reducible refine k_blk_o rfl ?_
             | with_reducible refine k_seq_n ?_
             | ((try (conv => arg 1; simp [s1, s2, s4, s5, s6, bx, PV.cells, hlt, ltS, nm_ne, tk_ne])); with_reducible refine evp ?_)
             | ((with_reducible refine apn ?na ?_); (case na => simp [appNames, ints, intss] <;> first | kernel_rfl | (refine ⟨?_, ?_⟩ <;> kernel_rfl)))
             | fail)
            exact dr_agg (drs_plc ⟨_, _, _, _⟩)
        · have hxa : st[a]? = some st[a] := by simp
          have ega := getS_at ha
          generalize st[a] = va at hxa ega
          obtain ⟨ab, ao⟩ := va
          rw [show plOf ⟨4, D, (a : Int), (b : Int), C, N, Text⟩ st = ⟨N, min ab bb, max ab bb, w64 (ao + bo)⟩ by simp only [plOf, if_pos (show (4 : Int) = 3 ∨ (4 : Int) = 4 by omega), egb, ega]; rfl]
          by_cases hlt : bb < ab
          · rw [Int.min_eq_right (by omega), Int.max_eq_left (by omega), Int.add_comm]
            repeat' (first
             | with_reducible refine stp ?_
             | with_reducible refine k_blk_o rfl ?_
             | with_reducible refine k_seq_n ?_
             | ((try (conv => arg 1; simp [s1, s2, s4, s5, s6, bx, pvs, hxa, PV.cells, hlt, ltS, nm_ne, tk_ne])); with_reducible refine evp ?_)
             | ((with_reducible refine apn ?na ?_); (case na => simp [appNames, ints, intss] <;> first | kernel_rfl | (refine ⟨?_, ?_⟩ <;> kernel_rfl)))
             | fail)
            exact dr_agg (drs_plc ⟨_, _, _, _⟩)
          · rw [Int.min_eq_left (by omega), Int.max_eq_right (by omega)]
            repeat' (first
             | with_reducible refine stp ?_
             | with_reducible refine k_blk_o rfl ?_
             | with_reducible refine k_seq_n ?_
             | ((try (conv => arg 1; simp [s1, s2, s4, s5, s6, bx, pvs, hxa, PV.cells, hlt, ltS, nm_ne, tk_ne])); with_reducible refine evp ?_)
             | ((with_reducible refine apn ?na ?_); (case na => simp [appNames, ints, intss] <;> first | kernel_rfl | (refine ⟨?_, ?_⟩ <;> kernel_rfl)))
             | fail)
            exact dr_agg (drs_plc ⟨_, _, _, _⟩)
  · have h3 : ¬ Op = 3 := fun e => h34 (.inl e)
    have h4 : ¬ Op = 4 := fun e => h34 (.inr e)
    rw [show plOf ⟨Op, D, A, B, C, N, Text⟩ st = ⟨-1, 0, 0, 0⟩ by simp [plOf, h3, h4]]
    repeat' (first
     | with_reducible refine stp ?_
     | with_reducible refine k_blk_o rfl ?_
     | with_reducible refine k_seq_n ?_
     | ((try (conv => arg 1; simp [Instr.cells, h3, h4])); with_reducible refine evp ?_)
     | ((with_reducible refine apn ?na ?_); (case na => simp [appNames, ints, intss] <;> first | kernel_rfl | (refine ⟨?_, ?_⟩ <;> kernel_rfl)))
     | fail)
    exact dr_agg (drs_plc ⟨_, _, _, _⟩)
end Go.Proofs.Ytlmlkkkgcbpaoaa.AM

/-
  Places: the reference's step.
-/
set_option linter.unusedVariables false
set_option linter.unusedSimpArgs false
set_option maxRecDepth 4000
namespace Go.Proofs.Ytlmlkkkgcbpaoaa.AM
open Go.RowKit

private def MG37 : FuncId → Mode := fun f => .tree

def stpR (st : List PV) (nx : Int) (d : Nat) : Option PV → List PV × Int
  | some v => (st.set d v, nx)
  | none => (st.set d ⟨nx, 0⟩, nx + 1)
set_option maxHeartbeats 4000000 in
theorem l06Step (x : Instr) (st : List PV) (nx : Int) (hx : InOk st.length x) (hn : 0 ≤ nx ∧ nx ≤ 2 ^ 40) {h : Hp} {bs : Bx} {os : Ox} {w : AV} {ns : List Nm} (X : Cx h bs ((w, (fun b => pvs b st), ns) :: os)) :
    Sound Try.prog 91 [.agg x.cells, w, .int .i64 nx] h fun v h' => v = .int .i64 (stpP x (st, nx)).2 ∧ Cx h' bs ((w, (fun b => pvs b (stpP x (st, nx)).1), ns) :: os) := by
  obtain ⟨Op, D, A, B, C, N, Text⟩ := x
  have hnil : True := trivial
  have hw : IntKind.i64.wrap (nx + 1) = nx + 1 := wrap_id (by omega) (by omega)
  by_cases h46 : Op = 4 ∨ Op = 6
  · have e : stpP ⟨Op, D, A, B, C, N, Text⟩ (st, nx) = (st, nx) := by simp [stpP, h46]
    rw [e]
    refine enter mixed MG37 Try.func91 rfl (by kernel_rfl) rfl ?_
    rcases h46 with h4 | h6
    · skip
      repeat' (first
       | with_reducible refine stp ?_
       | with_reducible refine k_blk_o rfl ?_
       | with_reducible refine k_seq_n ?_
       | ((try (conv => arg 1; simp [Instr.cells, h4])); with_reducible refine evp ?_)
       | ((with_reducible refine apn ?na ?_); (case na => simp [appNames, ints, intss] <;> first | kernel_rfl | (refine ⟨?_, ?_⟩ <;> kernel_rfl)))
       | fail)
      exact ⟨rfl, Cx.to X⟩
    · skip
      repeat' (first
       | with_reducible refine stp ?_
       | with_reducible refine k_blk_o rfl ?_
       | with_reducible refine k_seq_n ?_
       | ((try (conv => arg 1; simp [Instr.cells, h6])); with_reducible refine evp ?_)
       | ((with_reducible refine apn ?na ?_); (case na => simp [appNames, ints, intss] <;> first | kernel_rfl | (refine ⟨?_, ?_⟩ <;> kernel_rfl)))
       | fail)
      exact ⟨rfl, Cx.to X⟩
  · have h4 : ¬ Op = 4 := fun e => h46 (.inl e)
    have h6 : ¬ Op = 6 := fun e => h46 (.inr e)
    obtain ⟨d, hD, hd⟩ := hx.d h4 h6
    have hop := hx.op
    have hA := hx.a
    have hB := hx.b
    simp only at hD hop hA hB
    subst hD
    obtain ⟨k, ver, sp, rfl, rfl, c1, c2, y⟩ := X.open_pvs (by omega)
    have fin : ∀ (v : PV) (h' : Hp), Cx h' ((k, ⟨ver, 2, (st.map PV.cells ++ sp).set d v.cells⟩) :: bs) os → Cx h' bs ((.sl k ver 0 st.length, (fun b => pvs b (st.set d v)), [k]) :: os) := fun v h' z => by
      refine Cx.close_pvs (sp := sp) ?_ c1 c2 (by simp)
      rw [List.map_set, ← List.set_append_left _ _ (by simpa using hd)]
      exact z
    have hat : ∀ i, i < st.length → (st.map PV.cells ++ sp)[i]? = some (getS st i).cells := fun i hi => by
      rw [List.getElem?_append_left (by simpa using hi), pv_at hi]
    have hEl : d < (st.map PV.cells ++ sp).length := by simp; omega
    generalize st.map PV.cells ++ sp = E at *
    have b := y.bxs
    simp only [Bxs] at b
    have hd0 := hat d hd
    have apk : k.1 < h.tick := b.2.1
    have hk6 : ¬ k.1 = h.tick + 1 + 1 + 1 + 1 + 1 + 1 := by omega
    refine enter mixed MG37 Try.func91 rfl (by kernel_rfl) rfl ?_
    rcases hop with h0 | h0 | h0 | h0 | h0 | h0 | h0
    · have e : stpP ⟨Op, d, A, B, C, N, Text⟩ (st, nx) = (st.set d ⟨-1, N⟩, nx) := by simp [stpP, stVal, h0]
      rw [e]
      repeat' (first
       | with_reducible refine stp ?_
       | with_reducible refine k_blk_o rfl ?_
       | with_reducible refine k_seq_n ?_
       | ((try (conv => arg 1; simp [Instr.cells, PV.cells, h0, b, hd0, hd, ltS, nm_ne, tk_ne])); with_reducible refine evp ?_)
       | ((with_reducible refine apn ?na ?_); (case na => simp [appNames, ints, intss] <;> first | kernel_rfl | (refine ⟨?_, ?_⟩ <;> kernel_rfl)))
       | fail)
      exact ⟨rfl, fin ⟨-1, N⟩ _ (Cx.to y)⟩
    · obtain ⟨a, rfl, ha⟩ := hA (.inl h0)
      have ha0 := hat a ha
      have e : stpP ⟨Op, d, a, B, C, N, Text⟩ (st, nx) = (st.set d (getS st a), nx) := by simp [stpP, stVal, h0]
      rw [e]
      generalize getS st a = va at *
      repeat' (first
       | with_reducible refine stp ?_
       | with_reducible refine k_blk_o rfl ?_
       | with_reducible refine k_seq_n ?_
       | ((try (conv => arg 1; simp [Instr.cells, PV.cells, h0, b, ha0, ha, hd0, hd, ltS, nm_ne, tk_ne])); with_reducible refine evp ?_)
       | ((with_reducible refine apn ?na ?_); (case na => simp [appNames, ints, intss] <;> first | kernel_rfl | (refine ⟨?_, ?_⟩ <;> kernel_rfl)))
       | fail)
      exact ⟨rfl, fin va _ (Cx.to y)⟩
    · obtain ⟨a, rfl, ha⟩ := hA (.inr h0)
      obtain ⟨bb, rfl, hb⟩ := hB (.inl h0)
      have ha0 := hat a ha
      have hb0 := hat bb hb
      have L := l06Bin Text (getS st a) (getS st bb)
      have y0 := y.next.box_one (T := h.tick) (i := 0) (r := ⟨0, 7, [[.int .i64 2, .int .i64 d, .int .i64 a, .int .i64 bb, .int .i64 C, .int .i64 N, .str Text]]⟩) y.off (by simp)
      have y1 := y0.next.box_one (T := h.tick + 1) (i := 1) (r := ⟨0, 2, [[.int .i64 0, .int .i64 0]]⟩) y0.off (by simp)
      generalize hr : bin2 Text (getS st a) (getS st bb) = r at L
      have e : stpP ⟨Op, d, a, bb, C, N, Text⟩ (st, nx) = stpR st nx d r := by cases r <;> simp [stpP, stVal, h0, hr, stpR]
      rw [e]
      clear e hr
      generalize getS st a = va at *
      generalize getS st bb = vb at *
      repeat' (first
       | with_reducible refine stp ?_
       | with_reducible refine k_blk_o rfl ?_
       | with_reducible refine k_seq_n ?_
       | ((try (conv => arg 1; simp [Instr.cells, h0, b, ha0, ha, hb0, hb, hd0, hd, ltS, nm_ne, tk_ne])); with_reducible refine evp ?_)
       | ((with_reducible refine apn ?na ?_); (case na => simp [appNames, ints, intss] <;> first | kernel_rfl | (refine ⟨?_, ?_⟩ <;> kernel_rfl)))
       | fail)
      repeat (with_reducible first | refine stp ?_ | refine k_seq_n ?_)
      refine st_cut (fun σ h' => σ 1 = .sl k ver 0 st.length ∧ σ 2 = .int .i64 nx ∧ σ 3 = .ptr (h.tick, 0, 0) 0 0 0 ∧ σ 7 = .ptr (h.tick + 1, 1, 0) 0 0 0 ∧ σ 8 = .bool r.isSome ∧
        Cx h' (((h.tick + 1, 1, 0), ⟨0, 2, [(r.getD ⟨0, 0⟩).cells]⟩) :: ((h.tick, 0, 0), ⟨0, 7, [[.int .i64 2, .int .i64 d, .int .i64 a, .int .i64 bb, .int .i64 C, .int .i64 N, .str Text]]⟩) :: (k, ⟨ver, 2, E⟩) :: bs) os) ?cw ?ck
      case cw =>
        repeat (with_reducible first | refine stp ?_ | refine k_seq_n ?_)
        refine st_lz (by kernel_rfl) ?_
        have hF := And.intro h0 (And.intro b (And.intro ha0 (And.intro ha (And.intro hb0 (And.intro hb (And.intro hd0 (And.intro hd hk6)))))))
        repeat' (first
         | with_reducible refine stp ?_
         | with_reducible refine k_blk_o rfl ?_
         | ((try (conv => arg 1; simp [Instr.cells, PV.cells, ltS, nm_ne, tk_ne, hF])); with_reducible refine evp ?_)
         | ((with_reducible refine apn ?na ?_); (case na => simp [appNames, ints, intss] <;> first | kernel_rfl | (refine ⟨?_, ?_⟩ <;> kernel_rfl)))
         | ((with_reducible refine tcl ?_); first | ((apply tg (L)); (case e => rfl); (case d => (refine dq ?_); (repeat' (first | ((refine Da.mk ?_); first | assumption) | constructor)))))
          | ((with_reducible refine la_id ?_); refine la_end rfl ?_; (repeat (first | refine pl_nil ?_ | refine pl_cons ?_)))
          | ((with_reducible refine la_id ?_); refine la_pick ?_; (conv => arg 1; whnf); (repeat ((fail_if_success (first | ((refine la_q0 rfl ?_); (try (conv => arg 1; simp [Instr.cells, PV.cells, ltS, nm_ne, tk_ne, hF])); with_reducible refine evp ?_) | ((refine la_n rfl rfl ?_); (try (conv => arg 1; simp [Instr.cells, PV.cells, ltS, nm_ne, tk_ne, hF])); with_reducible refine evp ?_) | ((refine la_q2 rfl (by decide +kernel) ?_); (repeat (first | refine bk_nil ?_ | refine bk_t (by decide +kernel) ?_ | refine bk_f (by decide +kernel) ?_)); (try (conv => arg 1; simp [Instr.cells, PV.cells, ltS, nm_ne, tk_ne, hF])); with_reducible refine evp ?_) | ((refine la_q1 rfl (by decide +kernel) ?_); (try (conv => arg 1; simp [Instr.cells, PV.cells, ltS, nm_ne, tk_ne, hF])); with_reducible refine evp ?_) | ((refine la_g0 rfl ?_); (try (conv => arg 1; simp [Instr.cells, PV.cells, ltS, nm_ne, tk_ne, hF])); with_reducible refine evp ?_; (with_reducible refine evp ?_); try ((try (conv => arg 1; simp [Instr.cells, PV.cells, ltS, nm_ne, tk_ne, hF])); with_reducible refine evp ?_)))); (refine la_there ?_); (conv => arg 1; whnf))); first | ((refine la_q0 rfl ?_); (try (conv => arg 1; simp [Instr.cells, PV.cells, ltS, nm_ne, tk_ne, hF])); with_reducible refine evp ?_) | ((refine la_n rfl rfl ?_); (try (conv => arg 1; simp [Instr.cells, PV.cells, ltS, nm_ne, tk_ne, hF])); with_reducible refine evp ?_) | ((refine la_q2 rfl (by decide +kernel) ?_); (repeat (first | refine bk_nil ?_ | refine bk_t (by decide +kernel) ?_ | refine bk_f (by decide +kernel) ?_)); (try (conv => arg 1; simp [Instr.cells, PV.cells, ltS, nm_ne, tk_ne, hF])); with_reducible refine evp ?_) | ((refine la_q1 rfl (by decide +kernel) ?_); (try (conv => arg 1; simp [Instr.cells, PV.cells, ltS, nm_ne, tk_ne, hF])); with_reducible refine evp ?_) | ((refine la_g0 rfl ?_); (try (conv => arg 1; simp [Instr.cells, PV.cells, ltS, nm_ne, tk_ne, hF])); with_reducible refine evp ?_; (with_reducible refine evp ?_); try ((try (conv => arg 1; simp [Instr.cells, PV.cells, ltS, nm_ne, tk_ne, hF])); with_reducible refine evp ?_)))
          | ((with_reducible refine la_id ?_); refine la_all rfl ?_)
          | ((with_reducible refine all_id ?_); (conv => arg 1; whnf); first | exact all_nil | refine all_cons ?_ ?_)
          | (refine la_op rfl (by first | exact frm_s (by decide +kernel) | exact frm_a (by repeat' (first | exact fa_nil | refine fa_cons (by decide +kernel) ?_))) (by intro hq; first | exact trivial | (cases hq; done) | simp [appT, Instr.cells, PV.cells, ltS, nm_ne, tk_ne, hF]) ?_; (repeat (first | refine bk_nil ?_ | refine bk_t (by decide +kernel) ?_ | refine bk_f (by decide +kernel) ?_)))
         | fail)
        all_goals exact ⟨rfl, by simp, by simp, by simp, by simp, by simp, Cx.to y1⟩
      case ck =>
        rintro σ h' ⟨s1, s2, s3, s7, s8, z⟩
        have zb := z.bxs
        simp only [Bxs] at zb
        cases r with
        | some v =>
          repeat' (first
           | with_reducible refine stp ?_
           | with_reducible refine k_blk_o rfl ?_
           | with_reducible refine k_seq_n ?_
           | ((try (conv => arg 1; simp [s1, s2, s3, s7, s8, PV.cells, zb, apk, hd0, hd, ltS, nm_ne, tk_ne])); with_reducible refine evp ?_)
           | ((with_reducible refine apn ?na ?_); (case na => simp [appNames, ints, intss] <;> first | kernel_rfl | (refine ⟨?_, ?_⟩ <;> kernel_rfl)))
           | fail)
          exact ⟨rfl, fin v _ (Cx.to z).box_drop.box_drop⟩
        | none =>
          repeat' (first
           | with_reducible refine stp ?_
           | with_reducible refine k_blk_o rfl ?_
           | with_reducible refine k_seq_n ?_
           | ((try (conv => arg 1; simp [s1, s2, s3, s7, s8, PV.cells, zb, apk, hd0, hd, hw, ltS, nm_ne, tk_ne])); with_reducible refine evp ?_)
           | ((with_reducible refine apn ?na ?_); (case na => simp [appNames, ints, intss] <;> first | kernel_rfl | (refine ⟨?_, ?_⟩ <;> kernel_rfl)))
           | fail)
          exact ⟨rfl, fin ⟨nx, 0⟩ _ (Cx.to z).box_drop.box_drop⟩
    · have e : stpP ⟨Op, d, A, B, C, N, Text⟩ (st, nx) = (st.set d ⟨nx, 0⟩, nx + 1) := by simp [stpP, stVal, h0]
      rw [e]
      repeat' (first
       | with_reducible refine stp ?_
       | with_reducible refine k_blk_o rfl ?_
       | with_reducible refine k_seq_n ?_
       | ((try (conv => arg 1; simp [Instr.cells, PV.cells, h0, b, hd0, hd, hw, ltS, nm_ne, tk_ne])); with_reducible refine evp ?_)
       | ((with_reducible refine apn ?na ?_); (case na => simp [appNames, ints, intss] <;> first | kernel_rfl | (refine ⟨?_, ?_⟩ <;> kernel_rfl)))
       | fail)
      exact ⟨rfl, fin ⟨nx, 0⟩ _ (Cx.to y)⟩
    · exact absurd h0 h4
    · have e : stpP ⟨Op, d, A, B, C, N, Text⟩ (st, nx) = (st.set d ⟨nx, 0⟩, nx + 1) := by simp [stpP, stVal, h0]
      rw [e]
      repeat' (first
       | with_reducible refine stp ?_
       | with_reducible refine k_blk_o rfl ?_
       | with_reducible refine k_seq_n ?_
       | ((try (conv => arg 1; simp [Instr.cells, PV.cells, h0, b, hd0, hd, hw, ltS, nm_ne, tk_ne])); with_reducible refine evp ?_)
       | ((with_reducible refine apn ?na ?_); (case na => simp [appNames, ints, intss] <;> first | kernel_rfl | (refine ⟨?_, ?_⟩ <;> kernel_rfl)))
       | fail)
      exact ⟨rfl, fin ⟨nx, 0⟩ _ (Cx.to y)⟩
    · exact absurd h0 h6
end Go.Proofs.Ytlmlkkkgcbpaoaa.AM

/-
  Places: the reference's.
-/
set_option linter.unusedVariables false
set_option linter.unusedSimpArgs false
set_option maxRecDepth 4000
namespace Go.Proofs.Ytlmlkkkgcbpaoaa.AM
open Go.RowKit

private def MG38 : FuncId → Mode := fun f => if f = 89 then .fresh else if f = 91 then .heap else .tree

set_option maxHeartbeats 4000000 in
theorem specPlaces (g : Graph) (d : g.Small) (hg : graphOk g = true) {i : Nat} (hi : i < g.Blocks.length) : Pure Try.prog 58 [.agg (g.cells true), .int .i64 i] (plcs false (plcsOf g.Slots.toNat g.Blocks[i].Code)) := by
  intro T
  have hln := d.len
  have hcl : g.Blocks[i].Code.length ≤ 2 ^ 20 := by have := d.code _ (List.getElem_mem hi); omega
  obtain ⟨ns, hns, hns1, hco⟩ := code_in hg hi
  have G := graphOkSpec g d.fit
  rw [hg] at G
  have hwl : IntKind.i64.wrap ((g.Blocks.length : Int) - 1) = (g.Blocks.length : Int) - 1 := wrap_id (by omega) (by omega)
  have hin : inB i 0 ((g.Blocks.length : Int) - 1) = true := by simp [inB]; omega
  have I := l01In i 0 ((g.Blocks.length : Int) - 1)
  rw [hin] at I
  have hst : g.Slots.toNat = ns := by omega
  rw [hst]
  have hblk : g.Blocks[i]? = some g.Blocks[i] := by simp
  have hblen := block_len true g.Blocks[i]
  refine enter mixed MG38 Try.func58 rfl (by kernel_rfl) rfl ?_
  repeat' (first
   | with_reducible refine stp ?_
   | with_reducible refine k_blk_o rfl ?_
   | ((try (conv => arg 1; simp [Graph.cells])); with_reducible refine evp ?_)
   | ((with_reducible refine apn ?na ?_); (case na => simp [appNames, ints, intss] <;> first | kernel_rfl | (refine ⟨?_, ?_⟩ <;> kernel_rfl)))
   | fail)
  refine cx_k (Cx.mt.next.box_one (T := T) (i := 0) Cx.mt.off (by simp)) ?_
  intro h1 x1
  have b1 := x1.bxs
  simp only [Bxs] at b1
  repeat' (first
   | with_reducible refine stp ?_
   | with_reducible refine k_blk_o rfl ?_
   | ((try (conv => arg 1; simp [b1, ltS, nm_ne, tk_ne])); with_reducible refine evp ?_)
   | ((with_reducible refine apn ?na ?_); (case na => simp [appNames, ints, intss] <;> first | kernel_rfl | (refine ⟨?_, ?_⟩ <;> kernel_rfl)))
   | fail)
  refine cx_k (x1.next.box_one (T := h1.tick) (i := 0) (r := ⟨0, 4, []⟩) x1.off (by simp)) ?_
  intro h2 x2
  have b2 := x2.bxs
  simp only [Bxs] at b2
  repeat' (first
   | with_reducible refine stp ?_
   | with_reducible refine k_blk_o rfl ?_
   | with_reducible refine k_seq_n ?_
   | ((try (conv => arg 1; simp [b2, hwl, hin, ltS, nm_ne, tk_ne])); with_reducible refine evp ?_)
   | ((with_reducible refine apn ?na ?_); (case na => simp [appNames, ints, intss] <;> first | kernel_rfl | (refine ⟨?_, ?_⟩ <;> kernel_rfl)))
   | ((with_reducible refine tcl ?_); first | ((apply tg (G)); (case e => rfl); (case d => (refine dq ?_); (repeat' (first | ((refine Da.mk ?_); first | exact dr_blocks (by simp) _ | assumption) | constructor)))) | ((apply tg (I)); (case e => rfl); (case d => (refine dq ?_); (repeat' (first | ((refine Da.mk ?_); first | exact dr_blocks (by simp) _ | assumption) | constructor)))))
   | fail)
  refine st_freshw rfl (l06Start ns hns1) (by rw [hns]; exact .cons (.int _ _) .nil) ?_
  intro v h3 n o e f p t
  have x3 := x2.next.next.fresh o e f p t
  have z3 : h2.tick < h3.tick := by simp only [hp_next_tick] at t; omega
  have q3 := own_pvs (o true)
  have b3 := x3.bxs
  simp only [Bxs, graphRow] at b3
  repeat' (first
   | with_reducible refine stp ?_
   | with_reducible refine k_blk_o rfl ?_
   | with_reducible refine k_seq_n ?_
   | ((try (conv => arg 1; simp [b3, blocks, hblk, hblen, Block.cells, z3, q3.1, q3.2.1, q3.2.2, ltS, nm_ne, tk_ne])); with_reducible refine evp ?_)
   | ((with_reducible refine apn ?na ?_); (case na => simp [appNames, ints, intss] <;> first | kernel_rfl | (refine ⟨?_, ?_⟩ <;> kernel_rfl)))
   | fail)
  generalize hC : g.Blocks[i].Code = code at *
  refine st_loop (fun (j : Nat) σ h => j ≤ code.length ∧ σ 5 = .sl (h1.tick, 0, 0) j 0 j ∧ σ 6 = v ∧ σ 7 = .int .i64 (stN (start ns, (ns : Int)) (code.take j)).2 ∧ σ 8 = instrs true code ∧ σ 9 = .int .i64 j ∧
    Cx h [((h1.tick, 0, 0), ⟨j, 4, (plsFrom (code.take j) (start ns, (ns : Int))).map Plc.cells⟩), ((T, 0, 0), graphRow g)] [(v, (fun b => pvs b (stN (start ns, (ns : Int)) (code.take j)).1), n)]) (fun j => code.length - j) 0 ?init ?step
  case init =>
    exact ⟨Nat.zero_le _, by simp, by simp, by simp [stN, hns], by simp, by simp, Cx.to x3⟩
  case step =>
    rintro j σ h ⟨hj, s5, s6, s7, s8, s9, x⟩
    have b := x.bxs
    simp only [Bxs, graphRow] at b
    have hpl : (plsFrom (code.take j) (start ns, (ns : Int))).length = j := by rw [plsFrom_len]; simp; omega
    by_cases hlt : j < code.length
    · have hlt2 : (j : Int) < code.length := by omega
      have hw : IntKind.i64.wrap (j + 1) = j + 1 := wrap_id (by omega) (by omega)
      have hx : code[j]? = some code[j] := by simp
      have hlen : code[j].cells.length = 7 := rfl
      have hsl : (stN (start ns, (ns : Int)) (code.take j)).1.length = ns := by rw [stN_len, start_len]
      have hsn := stN_nx (code.take j) (start ns, (ns : Int))
      have e1 := plsFrom_take hlt (start ns, (ns : Int))
      have e2 := stN_take hlt (start ns, (ns : Int))
      have hok : InOk (stN (start ns, (ns : Int)) (code.take j)).1.length code[j] := by rw [hsl]; exact hco _ (List.getElem_mem hlt)
      generalize hS : stN (start ns, (ns : Int)) (code.take j) = S at *
      obtain ⟨st, nx⟩ := S
      simp only at hsl hsn hok s7 x
      have hnx : 0 ≤ nx ∧ nx ≤ 2 ^ 40 := by simp only [List.length_take] at hsn; omega
      have P := l06Place code[j] st hok
      have hp1 : ones (plOf code[j] st).cells = true := rfl
      have hp2 : (plOf code[j] st).cells.length = 4 := rfl
      generalize hpp : plsFrom (code.take j) (start ns, (ns : Int)) = pp at *
      repeat' (first
       | with_reducible refine stp ?_
       | with_reducible refine k_blk_o rfl ?_
       | with_reducible refine k_seq_n ?_
       | ((try (conv => arg 1; simp [s5, s6, s7, s8, s9, b, instrs, hlt2, hx, hlen, hp1, hp2, ltS, nm_ne, tk_ne])); with_reducible refine evp ?_)
       | ((with_reducible refine apn ?na ?_); (case na => simp [appNames, ints, intss] <;> first | kernel_rfl | (refine ⟨?_, ?_⟩ <;> kernel_rfl)))
       | ((with_reducible refine tcl ?_); first | ((apply tg (P)); (case e => rfl); (case d => (refine dq ?_); (repeat' (first | ((refine Da.mk ?_); first | exact ((Cx.to x).o0 true).dr | assumption) | constructor)))))
       | fail)
      conv => arg 1; simp
      rw [appendA_snoc (s := 4) (l := pp.map Plc.cells) (e := (plOf code[j] st).cells) (by kernel_rfl) ?hr (by simp [hpl]) ?hk rfl (by omega) ?hm]
      case hr => simp [b, nm_ne]
      case hk => simp
      case hm => simp [b, ltS]
      refine ev2_some ?_
      repeat' (first
       | with_reducible refine stp ?_
       | with_reducible refine k_blk_o rfl ?_
       | with_reducible refine k_seq_n ?_
       | ((try (conv => arg 1; simp [s5, s6, s7, s8, s9, b, instrs, hx, hlen, ltS, nm_ne, tk_ne])); with_reducible refine evp ?_)
       | ((with_reducible refine apn ?na ?_); (case na => simp [appNames, ints, intss] <;> first | kernel_rfl | (refine ⟨?_, ?_⟩ <;> kernel_rfl)))
       | fail)
      have x' := x
      refine st_heap rfl (l06Step code[j] st nx hok hnx (Cx.to x)) ?_
      rintro v h' ⟨rfl, x4⟩
      have b4 := x4.bxs
      simp only [Bxs, graphRow] at b4
      repeat' (first
       | with_reducible refine stp ?_
       | with_reducible refine k_blk_o rfl ?_
       | with_reducible refine k_seq_n ?_
       | ((try (conv => arg 1; simp [s5, s6, s7, s8, s9, b4, hw, ltS, nm_ne, tk_ne])); with_reducible refine evp ?_)
       | ((with_reducible refine apn ?na ?_); (case na => simp [appNames, ints, intss] <;> first | kernel_rfl | (refine ⟨?_, ?_⟩ <;> kernel_rfl)))
       | fail)
      refine k_lp_n (j + 1) (by omega) ⟨by omega, by simp, by simp [s6], by simp [e2], by simp [s8], by simp, ?_⟩
      rw [e1, e2, List.map_append]
      exact Cx.to x4
    · have hge : j = code.length := by omega
      have hlt2 : ¬ (j : Int) < code.length := by omega
      repeat' (first
       | with_reducible refine stp ?_
       | with_reducible refine k_blk_o rfl ?_
       | with_reducible refine k_seq_n ?_
       | ((try (conv => arg 1; simp [s5, s6, s7, s8, s9, b, instrs, hlt2, ltS, nm_ne, tk_ne])); with_reducible refine evp ?_)
       | ((with_reducible refine apn ?na ?_); (case na => simp [appNames, ints, intss] <;> first | kernel_rfl | (refine ⟨?_, ?_⟩ <;> kernel_rfl)))
       | fail)
      rw [hge, List.take_length] at b hpl
      rw [hge]
      exact dr_plcs_sl (l := plsFrom code (start ns, (ns : Int))) (sp := []) hpl (by simpa using b.1)
end Go.Proofs.Ytlmlkkkgcbpaoaa.AM

/-
  Loads of what a slot has: the reference's parts.
-/
set_option linter.unusedVariables false
set_option linter.unusedSimpArgs false
set_option maxRecDepth 4000
namespace Go.Proofs.Ytlmlkkkgcbpaoaa.AM
open Go.RowKit

private def MG52 : FuncId → Mode := fun f => .tree

theorem l07Def (x : Instr) : Pure Try.prog 100 [.agg x.cells] (.bool (!(decide (x.Op = 4)) && !(decide (x.Op = 6)))) := by
  intro T
  obtain ⟨Op, D, A, B, C, N, Text⟩ := x
  refine enter mixed MG52 Try.func100 rfl (by kernel_rfl) rfl ?_
  by_cases h4 : Op = 4
  · skip
    repeat' (first
     | with_reducible refine stp ?_
     | with_reducible refine k_blk_o rfl ?_
     | with_reducible refine k_seq_n ?_
     | ((try (conv => arg 1; simp [Instr.cells, h4])); with_reducible refine evp ?_)
     | ((with_reducible refine apn ?na ?_); (case na => simp [appNames, ints, intss] <;> first | kernel_rfl | (refine ⟨?_, ?_⟩ <;> kernel_rfl)))
     | fail)
    exact dr_bool (by simp [h4])
  · by_cases h6 : Op = 6
    · skip
      repeat' (first
       | with_reducible refine stp ?_
       | with_reducible refine k_blk_o rfl ?_
       | with_reducible refine k_seq_n ?_
       | ((try (conv => arg 1; simp [Instr.cells, h4, h6])); with_reducible refine evp ?_)
       | ((with_reducible refine apn ?na ?_); (case na => simp [appNames, ints, intss] <;> first | kernel_rfl | (refine ⟨?_, ?_⟩ <;> kernel_rfl)))
       | fail)
      exact dr_bool (by simp [h4, h6])
    · skip
      repeat' (first
       | with_reducible refine stp ?_
       | with_reducible refine k_blk_o rfl ?_
       | with_reducible refine k_seq_n ?_
       | ((try (conv => arg 1; simp [Instr.cells, h4, h6])); with_reducible refine evp ?_)
       | ((with_reducible refine apn ?na ?_); (case na => simp [appNames, ints, intss] <;> first | kernel_rfl | (refine ⟨?_, ?_⟩ <;> kernel_rfl)))
       | fail)
      exact dr_bool (by simp [h4, h6])
theorem knowH_cons (p : Plc) (x : Hd) (l : List Hd) : knowH p (x :: l) = if isH p x = true then x.slot else knowH p l := by
  unfold knowH
  rw [List.find?_cons]
  cases isH p x <;> simp

set_option maxHeartbeats 1000000 in
theorem l07Know (l : List Hd) (p : Plc) (hl : l.length ≤ 2 ^ 40) : Pure Try.prog 98 [hds true l, .agg p.cells] (.int .i64 (knowH p l)) := by
  intro T
  have hnil : True := trivial
  have hp : p.cells.length = 4 := rfl
  have hp1 : ones p.cells = true := rfl
  have hp2 : List.take 4 p.cells = p.cells := rfl
  refine enter mixed MG52 Try.func98 rfl (by kernel_rfl) rfl ?_
  repeat' (first
   | with_reducible refine stp ?_
   | with_reducible refine k_blk_o rfl ?_
   | ((try (conv => arg 1; simp [hp, hp1])); with_reducible refine evp ?_)
   | ((with_reducible refine apn ?na ?_); (case na => simp [appNames, ints, intss] <;> first | kernel_rfl | (refine ⟨?_, ?_⟩ <;> kernel_rfl)))
   | fail)
  refine cx_k (Cx.mt.next.box_one (T := T) (i := 0) (r := ⟨0, 4, [p.cells]⟩) Cx.mt.off (by simp)) ?_
  intro h1 x1
  repeat' (first
   | with_reducible refine stp ?_
   | with_reducible refine k_blk_o rfl ?_
   | with_reducible refine k_seq_n ?_
   | ((try (conv => arg 1; simp [hnil])); with_reducible refine evp ?_)
   | ((with_reducible refine apn ?na ?_); (case na => simp [appNames, ints, intss] <;> first | kernel_rfl | (refine ⟨?_, ?_⟩ <;> kernel_rfl)))
   | fail)
  refine st_loop (fun (i : Nat) σ h => i ≤ l.length ∧ σ 0 = hds true l ∧ σ 3 = .ptr (T, 0, 0) 0 0 0 ∧ σ 5 = .int .i64 i ∧ knowH p l = knowH p (l.drop i) ∧ Cx h [((T, 0, 0), ⟨0, 4, [p.cells]⟩)] []) (fun i => l.length - i) 0 ?init ?step
  case init => exact ⟨Nat.zero_le _, by simp, by simp, by simp, rfl, Cx.to x1⟩
  case step =>
    rintro i σ h ⟨hi, s0, s3, s5, hm, x⟩
    have b := x.bxs
    simp only [Bxs] at b
    by_cases hlt : i < l.length
    · have hlt2 : (i : Int) < l.length := by omega
      have hw : IntKind.i64.wrap (i + 1) = i + 1 := wrap_id (by omega) (by omega)
      have hx : l[i]? = some l[i] := by simp
      have hlen : l[i].cells.length = 5 := rfl
      have hT : ¬ T = h.tick + 1 := by omega
      have A := specAlias l[i].pl p
      rw [List.drop_eq_getElem_cons hlt, knowH_cons] at hm
      generalize hli : l[i] = li at *
      have htk : List.take 4 li.cells = li.pl.cells := rfl
      have hgs : li.cells[4]? = some (.int .i64 li.slot) := rfl
      have hop : ∀ hh, l[i]'hh = li := fun _ => hli
      cases ha : isH p li with
      | true =>
        have ha2 : aliasV li.pl p = 2 := by simpa [isH] using ha
        rw [ha2] at A
        rw [if_pos ha] at hm
        repeat' (first
         | with_reducible refine stp ?_
         | with_reducible refine k_blk_o rfl ?_
         | with_reducible refine k_seq_n ?_
         | ((try (conv => arg 1; simp [s0, s3, s5, hds, hlt2])); with_reducible refine evp ?_)
         | ((with_reducible refine apn ?na ?_); (case na => simp [appNames, ints, intss] <;> first | kernel_rfl | (refine ⟨?_, ?_⟩ <;> kernel_rfl)))
         | fail)
        repeat (with_reducible first | refine stp ?_ | refine k_seq_n ?_)
        refine st_draw 8 (fun _ => false) (by kernel_rfl) ?_
        simp only [List.take_succ_cons, List.take_zero, List.drop_succ_cons, List.drop_zero, List.take_nil, List.drop_nil]
        repeat' (first
         | with_reducible refine stp ?_
         | with_reducible refine k_blk_o rfl ?_
         | with_reducible refine k_seq_n ?_
         | ((try (conv => arg 1; simp [s0, s3, s5, hds, b, hp, hp1, hp2, hx, hlt, hop, hlen, htk, hgs, Hd.cells, maskR, hT])); with_reducible refine evp ?_)
         | ((with_reducible refine apn ?na ?_); (case na => simp [appNames, ints, intss] <;> first | kernel_rfl | (refine ⟨?_, ?_⟩ <;> kernel_rfl)))
         | ((with_reducible refine tcl ?_); first | ((apply tg (A)); (case e => rfl); (case d => (refine dq ?_); (repeat' (first | ((refine Da.mk ?_); first | exact drs_plc _ | assumption) | constructor)))))
         | fail)
        rw [hm]
        exact .int _ _
      | false =>
        have ha2 : ¬ aliasV li.pl p = 2 := by simpa [isH] using ha
        rw [if_neg (by simp [ha])] at hm
        repeat' (first
         | with_reducible refine stp ?_
         | with_reducible refine k_blk_o rfl ?_
         | with_reducible refine k_seq_n ?_
         | ((try (conv => arg 1; simp [s0, s3, s5, hds, hlt2])); with_reducible refine evp ?_)
         | ((with_reducible refine apn ?na ?_); (case na => simp [appNames, ints, intss] <;> first | kernel_rfl | (refine ⟨?_, ?_⟩ <;> kernel_rfl)))
         | fail)
        repeat (with_reducible first | refine stp ?_ | refine k_seq_n ?_)
        refine st_draw 8 (fun _ => false) (by kernel_rfl) ?_
        simp only [List.take_succ_cons, List.take_zero, List.drop_succ_cons, List.drop_zero, List.take_nil, List.drop_nil]
        repeat' (first
         | with_reducible refine stp ?_
         | with_reducible refine k_blk_o rfl ?_
         | with_reducible refine k_seq_n ?_
         | ((try (conv => arg 1; simp [s0, s3, s5, hds, b, hp, hp1, hp2, hx, hlt, hop, hlen, htk, hgs, ha2, hw, Hd.cells, maskR, hT])); with_reducible refine evp ?_)
         | ((with_reducible refine apn ?na ?_); (case na => simp [appNames, ints, intss] <;> first | kernel_rfl | (refine ⟨?_, ?_⟩ <;> kernel_rfl)))
         | ((with_reducible refine tcl ?_); first | ((apply tg (A)); (case e => rfl); (case d => (refine dq ?_); (repeat' (first | ((refine Da.mk ?_); first | exact drs_plc _ | assumption) | constructor)))))
         | fail)
        refine k_lp_n (i + 1) (by omega) ⟨by omega, by simp [s0, hds], by simp [s3], by simp, hm, Cx.to x⟩
    · have hge : i = l.length := by omega
      have hlt2 : ¬ (i : Int) < l.length := by omega
      repeat' (first
       | with_reducible refine stp ?_
       | with_reducible refine k_blk_o rfl ?_
       | with_reducible refine k_seq_n ?_
       | ((try (conv => arg 1; simp [s0, s3, s5, hds, hlt2])); with_reducible refine evp ?_)
       | ((with_reducible refine apn ?na ?_); (case na => simp [appNames, ints, intss] <;> first | kernel_rfl | (refine ⟨?_, ?_⟩ <;> kernel_rfl)))
       | fail)
      rw [hm, hge, List.drop_length]
      exact .int _ _

set_option maxHeartbeats 1000000 in
theorem l07Drop (l : List Hd) (d : Int) (hl : l.length ≤ 2 ^ 31) {h : Hp} {bs : Bx} {os : Ox} {k : Nm} {ver : Nat} (x : Cx h ((k, ⟨ver, 5, l.map Hd.cells⟩) :: bs) os) :
    Sound Try.prog 99 [.sl k ver 0 l.length, .int .i64 d] h fun v h' => ∃ k', v = .sl k' (dropH d l).length 0 (dropH d l).length ∧ Cx h' ((k', ⟨(dropH d l).length, 5, (dropH d l).map Hd.cells⟩) :: bs) os := by
  have hnil : True := trivial
  refine enter mixed MG52 Try.func99 rfl (by kernel_rfl) rfl ?_
  repeat' (first
   | with_reducible refine stp ?_
   | with_reducible refine k_blk_o rfl ?_
   | ((try (conv => arg 1; simp [hnil])); with_reducible refine evp ?_)
   | ((with_reducible refine apn ?na ?_); (case na => simp [appNames, ints, intss] <;> first | kernel_rfl | (refine ⟨?_, ?_⟩ <;> kernel_rfl)))
   | fail)
  refine cx_k x.next ?_
  intro h1 x1
  repeat' (first
   | with_reducible refine stp ?_
   | with_reducible refine k_blk_o rfl ?_
   | ((try (conv => arg 1; simp [hnil])); with_reducible refine evp ?_)
   | ((with_reducible refine apn ?na ?_); (case na => simp [appNames, ints, intss] <;> first | kernel_rfl | (refine ⟨?_, ?_⟩ <;> kernel_rfl)))
   | fail)
  refine cx_k (x1.next.box_one (T := h1.tick) (i := 0) (r := ⟨0, 5, []⟩) x1.off (by simp)) ?_
  intro h2 x2
  repeat' (first
   | with_reducible refine stp ?_
   | with_reducible refine k_blk_o rfl ?_
   | with_reducible refine k_seq_n ?_
   | ((try (conv => arg 1; simp [hnil])); with_reducible refine evp ?_)
   | ((with_reducible refine apn ?na ?_); (case na => simp [appNames, ints, intss] <;> first | kernel_rfl | (refine ⟨?_, ?_⟩ <;> kernel_rfl)))
   | fail)
  refine st_loop (fun (i : Nat) σ h' => i ≤ l.length ∧ σ 0 = .sl k ver 0 l.length ∧ σ 1 = .int .i64 d ∧ σ 5 = .sl (h1.tick, 0, 0) (dropH d (l.take i)).length 0 (dropH d (l.take i)).length ∧ σ 6 = .int .i64 i ∧
    Cx h' (((h1.tick, 0, 0), ⟨(dropH d (l.take i)).length, 5, (dropH d (l.take i)).map Hd.cells⟩) :: (k, ⟨ver, 5, l.map Hd.cells⟩) :: bs) os) (fun i => l.length - i) 0 ?init ?step
  case init => exact ⟨Nat.zero_le _, by simp, by simp, by simp [dropH], by simp, Cx.to x2⟩
  case step =>
    rintro i σ h' ⟨hi, s0, s1, s5, s6, y⟩
    have b := y.bxs
    simp only [Bxs] at b
    by_cases hlt : i < l.length
    · have hlt2 : (i : Int) < l.length := by omega
      have hw : IntKind.i64.wrap (i + 1) = i + 1 := wrap_id (by omega) (by omega)
      have hx : l[i]? = some l[i] := by simp
      have hfl : (dropH d (l.take i)).length ≤ i := by
        have h1 := List.length_filter_le (fun h : Hd => !decide (h.slot = d)) (l.take i)
        have h2 : (l.take i).length ≤ i := by simp; omega
        exact Nat.le_trans h1 h2
      have em : dropH d (l.take (i + 1)) = dropH d (l.take i) ++ (if l[i].slot = d then [] else [l[i]]) := by
        rw [take_snoc hlt]; unfold dropH; rw [List.filter_append]; by_cases e : l[i].slot = d <;> simp [e]
      generalize hli : l[i] = li at *
      have hlen : li.cells.length = 5 := rfl
      have hlen1 : ones li.cells = true := rfl
      have htk : List.take 5 li.cells = li.cells := rfl
      have hgs : List.take 1 (List.drop 4 li.cells) = [.int .i64 li.slot] := rfl
      have hop : ∀ hh, l[i]'hh = li := fun _ => hli
      by_cases ha : li.slot = d
      · rw [if_pos ha, List.append_nil] at em
        repeat' (first
         | with_reducible refine stp ?_
         | with_reducible refine k_blk_o rfl ?_
         | with_reducible refine k_seq_n ?_
         | ((try (conv => arg 1; simp [s0, s1, s5, s6, hlt2, b, hx, hlt, hop, hlen, hgs, ha, hw, ltS, nm_ne])); with_reducible refine evp ?_)
         | ((with_reducible refine apn ?na ?_); (case na => simp [appNames, ints, intss] <;> first | kernel_rfl | (refine ⟨?_, ?_⟩ <;> kernel_rfl)))
         | fail)
        refine k_lp_n (i + 1) (by omega) ⟨by omega, by simp [s0], by simp [s1], by simp [em, s5], by simp, ?_⟩
        rw [em]
        exact Cx.to y
      · rw [if_neg ha] at em
        generalize dropH d (l.take i) = fv at *
        repeat' (first
         | with_reducible refine stp ?_
         | with_reducible refine k_blk_o rfl ?_
         | with_reducible refine k_seq_n ?_
         | ((try (conv => arg 1; simp [s0, s1, s5, s6, hlt2, b, hx, hlt, hop, hlen, hlen1, htk, hgs, ha, ltS, nm_ne])); with_reducible refine evp ?_)
         | ((with_reducible refine apn ?na ?_); (case na => simp [appNames, ints, intss] <;> first | kernel_rfl | (refine ⟨?_, ?_⟩ <;> kernel_rfl)))
         | fail)
        conv => arg 1; simp
        rw [appendA_snoc (s := 5) (l := fv.map Hd.cells) (e := li.cells) (by kernel_rfl) ?hr (by simp) ?hk rfl (by omega) ?hm]
        case hr => simp [b, nm_ne, ltS]
        case hk => simp [htk]
        case hm => simp [b, ltS]
        refine ev2_some ?_
        repeat' (first
         | with_reducible refine stp ?_
         | with_reducible refine k_blk_o rfl ?_
         | with_reducible refine k_seq_n ?_
         | ((try (conv => arg 1; simp [s0, s1, s5, s6, hw])); with_reducible refine evp ?_)
         | ((with_reducible refine apn ?na ?_); (case na => simp [appNames, ints, intss] <;> first | kernel_rfl | (refine ⟨?_, ?_⟩ <;> kernel_rfl)))
         | fail)
        refine k_lp_n (i + 1) (by omega) ⟨by omega, by simp [s0], by simp [s1], by simp [em], by simp, ?_⟩
        rw [em, List.map_append, List.length_append]
        exact Cx.to y
    · have hge : i = l.length := by omega
      have hlt2 : ¬ (i : Int) < l.length := by omega
      repeat' (first
       | with_reducible refine stp ?_
       | with_reducible refine k_blk_o rfl ?_
       | with_reducible refine k_seq_n ?_
       | ((try (conv => arg 1; simp [s0, s1, s5, s6, hlt2])); with_reducible refine evp ?_)
       | ((with_reducible refine apn ?na ?_); (case na => simp [appNames, ints, intss] <;> first | kernel_rfl | (refine ⟨?_, ?_⟩ <;> kernel_rfl)))
       | fail)
      rw [hge, List.take_length] at y
      rw [hge, List.take_length]
      have z := (y.bperm (List.Perm.swap _ _ _)).box_drop
      exact ⟨_, rfl, Cx.to z⟩

end Go.Proofs.Ytlmlkkkgcbpaoaa.AM

/-
  One block of an open row, with its code; as far as a loop over blocks has come.
-/
set_option linter.unusedVariables false
set_option linter.unusedSimpArgs false
set_option maxRecDepth 4000
namespace Go.Proofs.Ytlmlkkkgcbpaoaa.AM
open Go.RowKit

/-- One block of a row that is open, with its code. -/
theorem Cx.blk_code {h : Hp} {bs : Bx} {os : Ox} {es : List (List AV)} {ys : List Block} {ns : List Nm} (x : Cx h bs ((.agg es.flatten, (fun b => .agg (ys.map (Block.cells b)).flatten), ns) :: os)) (he5 : ∀ e ∈ es, e.length = 5) (hle : es.length = ys.length) {i : Nat} (hi : i < ys.length) :
    ∃ w m1 m2 m3, es[i]? = some [w, .int .i64 ys[i].Jump, .int .i64 ys[i].A, .int .i64 ys[i].To, .int .i64 ys[i].Else] ∧ (w.one = true ∧ w.stored = true ∧ w.cells = [w]) ∧
      Cx h bs ((w, (fun b => instrs b ys[i].Code), m1) :: (.agg (es.take i).flatten, (fun b => .agg ((ys.take i).map (Block.cells b)).flatten), m2) :: (.agg (es.drop (i + 1)).flatten, (fun b => .agg ((ys.drop (i + 1)).map (Block.cells b)).flatten), m3) :: os) ∧
      ∀ (h' : Hp) (bs' : Bx) (w' : AV) (c : List Instr) (m1' : List Nm), Cx h' bs' ((w', (fun b => instrs b c), m1') :: (.agg (es.take i).flatten, (fun b => .agg ((ys.take i).map (Block.cells b)).flatten), m2) :: (.agg (es.drop (i + 1)).flatten, (fun b => .agg ((ys.drop (i + 1)).map (Block.cells b)).flatten), m3) :: os) →
        ∃ ns', Cx h' bs' ((.agg (es.set i [w', .int .i64 ys[i].Jump, .int .i64 ys[i].A, .int .i64 ys[i].To, .int .i64 ys[i].Else]).flatten, (fun b => .agg ((ys.set i { ys[i] with Code := c }).map (Block.cells b)).flatten), ns') :: os) := by
  have hie : i < es.length := by omega
  have ees : es = es.take i ++ (es[i] :: es.drop (i + 1)) := by rw [← List.drop_eq_getElem_cons hie, List.take_append_drop]
  have exs : ys = ys.take i ++ (ys[i] :: ys.drop (i + 1)) := by rw [← List.drop_eq_getElem_cons hi, List.take_append_drop]
  have f1 : es.flatten = (es.take i).flatten ++ (es[i] ++ (es.drop (i + 1)).flatten) := by
    have := congrArg List.flatten ees
    rw [List.flatten_append, List.flatten_cons] at this
    exact this
  have f2 : ∀ b, (ys.map (Block.cells b)).flatten = ((ys.take i).map (Block.cells b)).flatten ++ (ys[i].cells b ++ ((ys.drop (i + 1)).map (Block.cells b)).flatten) := fun b => by
    have := congrArg (fun l => (List.map (Block.cells b) l).flatten) exs
    simp only [List.map_append, List.flatten_append, List.map_cons, List.flatten_cons] at this
    exact this
  have y0 := x
  rw [f1] at y0
  simp only [f2] at y0
  have ht5 : (es.take i).flatten.length = i * 5 := by rw [flatten_len (s := 5) _ (fun e he => he5 e (List.mem_of_mem_take he))]; simp; omega
  obtain ⟨m1, m2, en1, y1⟩ := Cx.agg_split (t1 := fun b => ((ys.take i).map (Block.cells b)).flatten) (t2 := fun b => ys[i].cells b ++ ((ys.drop (i + 1)).map (Block.cells b)).flatten) (fun b => by rw [five_flat, ht5]; simp; omega) y0
  obtain ⟨m3, m4, en2, y2⟩ := Cx.agg_split (t1 := fun b => ys[i].cells b) (t2 := fun b => ((ys.drop (i + 1)).map (Block.cells b)).flatten) (fun b => by rw [block_len, he5 _ (List.getElem_mem _)]) y1
  obtain ⟨w, ew, y3⟩ := Cx.block_split y2.rot1
  have qw := own_one' (own_of (y3.o0 true) rfl)
  refine ⟨w, m3, m1, m4, by rw [List.getElem?_eq_getElem hie, ew], qw, y3.perm (.cons _ (.swap _ _ _)), fun h' bs' w' c m1' z => ?_⟩
  have y4 := z.perm (.cons _ (.swap _ _ _))
  have y5 := (y4.block_join (c := { ys[i] with Code := c })).perm (List.Perm.swap _ _ _)
  have y6 := (Cx.agg_app y5).agg_app
  have f3 : (es.set i [w', .int .i64 ys[i].Jump, .int .i64 ys[i].A, .int .i64 ys[i].To, .int .i64 ys[i].Else]).flatten = (es.take i).flatten ++ ([w', .int .i64 ys[i].Jump, .int .i64 ys[i].A, .int .i64 ys[i].To, .int .i64 ys[i].Else] ++ (es.drop (i + 1)).flatten) := by
    rw [List.set_eq_take_append_cons_drop, if_pos hie]
    simp
  have f4 : ∀ b, ((ys.set i { ys[i] with Code := c }).map (Block.cells b)).flatten = ((ys.take i).map (Block.cells b)).flatten ++ (Block.cells b { ys[i] with Code := c } ++ ((ys.drop (i + 1)).map (Block.cells b)).flatten) := fun b => by
    rw [List.set_eq_take_append_cons_drop, if_pos hi]
    simp
  rw [f3]
  simp only [f4]
  exact ⟨_, y6⟩
/-- As far as the loop has come. -/
def mixB (f : Block → Block) (g : Graph) (i : Nat) : List Block := (g.Blocks.take i).map f ++ g.Blocks.drop i
theorem mixB_len (f : Block → Block) (g : Graph) {i : Nat} (hi : i ≤ g.Blocks.length) : (mixB f g i).length = g.Blocks.length := by simp [mixB]; omega
theorem mixB_at (f : Block → Block) (g : Graph) {i : Nat} (hi : i < g.Blocks.length) : (mixB f g i)[i]'(by rw [mixB_len f g (by omega)]; exact hi) = g.Blocks[i] := by
  simp only [mixB]
  rw [List.getElem_append_right (by simp; omega)]
  simp [Nat.min_eq_left (Nat.le_of_lt hi)]
theorem mixB_succ (f : Block → Block) (g : Graph) {i : Nat} (hi : i < g.Blocks.length) : mixB f g (i + 1) = (mixB f g i).set i (f g.Blocks[i]) := by
  unfold mixB
  rw [List.set_append_right _ _ (by simp; omega), List.length_map, List.length_take, Nat.min_eq_left (Nat.le_of_lt hi), Nat.sub_self, List.drop_eq_getElem_cons hi, List.set_cons_zero, List.take_add_one, List.getElem?_eq_getElem hi, Option.toList_some, List.map_append, List.append_assoc]
  rfl

end Go.Proofs.Ytlmlkkkgcbpaoaa.AM

/-
  Loads of what a slot has: the reference's.
-/
set_option linter.unusedVariables false
set_option linter.unusedSimpArgs false
set_option maxRecDepth 4000
namespace Go.Proofs.Ytlmlkkkgcbpaoaa.AM
open Go.RowKit

private def MG53 : FuncId → Mode := fun f => if f = 99 ∨ f = 97 then .heap else if f = 45 ∨ f = 65 then .fresh else .tree

set_option maxHeartbeats 1000000 in
theorem l07Stored (l : List Hd) (p : Plc) (sl : Int) (hl : l.length ≤ 2 ^ 31) {h : Hp} {bs : Bx} {os : Ox} {k : Nm} {ver : Nat} (x : Cx h ((k, ⟨ver, 5, l.map Hd.cells⟩) :: bs) os) :
    Sound Try.prog 97 [.sl k ver 0 l.length, .agg p.cells, .int .i64 sl] h fun v h' => ∃ k', v = .sl k' ((farH p l).length + 1) 0 ((farH p l).length + 1) ∧ Cx h' ((k', ⟨(farH p l).length + 1, 5, (farH p l ++ [(⟨p, sl⟩ : Hd)]).map Hd.cells⟩) :: bs) os := by
  have hnil : True := trivial
  obtain ⟨R, Lo, Hi, Off⟩ := p
  refine enter mixed MG53 Try.func97 rfl (by kernel_rfl) rfl ?_
  repeat' (first
   | with_reducible refine stp ?_
   | with_reducible refine k_blk_o rfl ?_
   | ((try (conv => arg 1; simp [Plc.cells])); with_reducible refine evp ?_)
   | ((with_reducible refine apn ?na ?_); (case na => simp [appNames, ints, intss] <;> first | kernel_rfl | (refine ⟨?_, ?_⟩ <;> kernel_rfl)))
   | fail)
  refine cx_k (x.next.box_one (T := h.tick) (i := 0) (r := ⟨0, 4, [[.int .i64 R, .int .i64 Lo, .int .i64 Hi, .int .i64 Off]]⟩) x.off (by simp)) ?_
  intro h1 x1
  repeat' (first
   | with_reducible refine stp ?_
   | with_reducible refine k_blk_o rfl ?_
   | ((try (conv => arg 1; simp [hnil])); with_reducible refine evp ?_)
   | ((with_reducible refine apn ?na ?_); (case na => simp [appNames, ints, intss] <;> first | kernel_rfl | (refine ⟨?_, ?_⟩ <;> kernel_rfl)))
   | fail)
  refine cx_k (x1.next.box_one (T := h1.tick) (i := 0) (r := ⟨0, 5, []⟩) x1.off (by simp)) ?_
  intro h2 x2
  repeat' (first
   | with_reducible refine stp ?_
   | with_reducible refine k_blk_o rfl ?_
   | with_reducible refine k_seq_n ?_
   | ((try (conv => arg 1; simp [hnil])); with_reducible refine evp ?_)
   | ((with_reducible refine apn ?na ?_); (case na => simp [appNames, ints, intss] <;> first | kernel_rfl | (refine ⟨?_, ?_⟩ <;> kernel_rfl)))
   | fail)
  generalize hp : (⟨R, Lo, Hi, Off⟩ : Plc) = p
  refine st_loop (fun (i : Nat) σ h' => i ≤ l.length ∧ σ 0 = .sl k ver 0 l.length ∧ σ 2 = .int .i64 sl ∧ σ 4 = .ptr (h.tick, 0, 0) 0 0 0 ∧ σ 7 = .sl (h1.tick, 0, 0) (farH p (l.take i)).length 0 (farH p (l.take i)).length ∧ σ 8 = .int .i64 i ∧
    Cx h' (((h1.tick, 0, 0), ⟨(farH p (l.take i)).length, 5, (farH p (l.take i)).map Hd.cells⟩) :: ((h.tick, 0, 0), ⟨0, 4, [[.int .i64 R, .int .i64 Lo, .int .i64 Hi, .int .i64 Off]]⟩) :: (k, ⟨ver, 5, l.map Hd.cells⟩) :: bs) os) (fun i => l.length - i) 0 ?init ?step
  case init => exact ⟨Nat.zero_le _, by simp, by simp, by simp, by simp [farH], by simp, Cx.to x2⟩
  case step =>
    rintro i σ h' ⟨hi, s0, s2, s4, s7, s8, y⟩
    have b := y.bxs
    simp only [Bxs] at b
    have hfl : (farH p (l.take i)).length ≤ i := by
      have h1 := List.length_filter_le (fun h : Hd => aliasV h.pl p == 0) (l.take i)
      have h2 : (l.take i).length ≤ i := by simp; omega
      exact Nat.le_trans h1 h2
    by_cases hlt : i < l.length
    · have hlt2 : (i : Int) < l.length := by omega
      have hw : IntKind.i64.wrap (i + 1) = i + 1 := wrap_id (by omega) (by omega)
      have hx : l[i]? = some l[i] := by simp
      have hT : ¬ h.tick = h'.tick + 1 := by omega
      have hk1 : ¬ k.1 = h'.tick + 1 := by omega
      have A := specAlias l[i].pl p
      have em : farH p (l.take (i + 1)) = farH p (l.take i) ++ (if aliasV l[i].pl p == 0 then [l[i]] else []) := by
        rw [take_snoc hlt]; unfold farH; rw [List.filter_append]; simp [List.filter_cons]
      generalize hli : l[i] = li at *
      have hop : ∀ hh, l[i]'hh = li := fun _ => hli
      obtain ⟨⟨R', Lo', Hi', Off'⟩, sl'⟩ := li
      simp only at A em
      subst hp
      cases ha : aliasV ⟨R', Lo', Hi', Off'⟩ ⟨R, Lo, Hi, Off⟩ == 0 with
      | true =>
        have ha2 : aliasV ⟨R', Lo', Hi', Off'⟩ ⟨R, Lo, Hi, Off⟩ = 0 := by simpa using ha
        rw [ha2] at A
        rw [ha, if_pos rfl] at em
        generalize farH ⟨R, Lo, Hi, Off⟩ (l.take i) = fv at *
        repeat' (first
         | with_reducible refine stp ?_
         | with_reducible refine k_blk_o rfl ?_
         | with_reducible refine k_seq_n ?_
         | ((try (conv => arg 1; simp [s0, s2, s4, s7, s8, hlt2])); with_reducible refine evp ?_)
         | ((with_reducible refine apn ?na ?_); (case na => simp [appNames, ints, intss] <;> first | kernel_rfl | (refine ⟨?_, ?_⟩ <;> kernel_rfl)))
         | fail)
        repeat (with_reducible first | refine stp ?_ | refine k_seq_n ?_)
        refine st_draw 8 (fun _ => false) (by kernel_rfl) ?_
        simp only [List.take_succ_cons, List.take_zero, List.drop_succ_cons, List.drop_zero, List.take_nil, List.drop_nil]
        repeat' (first
         | with_reducible refine stp ?_
         | with_reducible refine k_blk_o rfl ?_
         | with_reducible refine k_seq_n ?_
         | ((try (conv => arg 1; simp [s0, s2, s4, s7, s8, b, hx, hlt, hop, Hd.cells, maskR, hT, hk1, ltS, nm_ne])); with_reducible refine evp ?_)
         | ((with_reducible refine apn ?na ?_); (case na => simp [appNames, ints, intss] <;> first | kernel_rfl | (refine ⟨?_, ?_⟩ <;> kernel_rfl)))
         | ((with_reducible refine tcl ?_); first | ((apply tg (A)); (case e => rfl); (case d => (refine dq ?_); (repeat' (first | ((refine Da.mk ?_); first | exact drs_plc _ | assumption) | constructor)))))
         | fail)
        conv => arg 1; simp
        rw [appendA_snoc (s := 5) (l := fv.map Hd.cells) (e := Hd.cells ⟨⟨R', Lo', Hi', Off'⟩, sl'⟩) (by kernel_rfl) ?hr (by simp) ?hk rfl (by omega) ?hm]
        case hr => simp [b, nm_ne, ltS]
        case hk => simp [Hd.cells]
        case hm => simp [b, ltS]
        refine ev2_some ?_
        repeat' (first
         | with_reducible refine stp ?_
         | with_reducible refine k_blk_o rfl ?_
         | with_reducible refine k_seq_n ?_
         | ((try (conv => arg 1; simp [s0, s2, s4, s7, s8, hw])); with_reducible refine evp ?_)
         | ((with_reducible refine apn ?na ?_); (case na => simp [appNames, ints, intss] <;> first | kernel_rfl | (refine ⟨?_, ?_⟩ <;> kernel_rfl)))
         | fail)
        refine k_lp_n (i + 1) (by omega) ⟨by omega, by simp [s0], by simp [s2], by simp [s4], by simp [em], by simp, ?_⟩
        rw [em, List.map_append, List.length_append]
        exact Cx.to y
      | false =>
        have ha2 : ¬ aliasV ⟨R', Lo', Hi', Off'⟩ ⟨R, Lo, Hi, Off⟩ = 0 := by simpa using ha
        rw [ha, if_neg (by simp), List.append_nil] at em
        repeat' (first
         | with_reducible refine stp ?_
         | with_reducible refine k_blk_o rfl ?_
         | with_reducible refine k_seq_n ?_
         | ((try (conv => arg 1; simp [s0, s2, s4, s7, s8, hlt2])); with_reducible refine evp ?_)
         | ((with_reducible refine apn ?na ?_); (case na => simp [appNames, ints, intss] <;> first | kernel_rfl | (refine ⟨?_, ?_⟩ <;> kernel_rfl)))
         | fail)
        repeat (with_reducible first | refine stp ?_ | refine k_seq_n ?_)
        refine st_draw 8 (fun _ => false) (by kernel_rfl) ?_
        simp only [List.take_succ_cons, List.take_zero, List.drop_succ_cons, List.drop_zero, List.take_nil, List.drop_nil]
        repeat' (first
         | with_reducible refine stp ?_
         | with_reducible refine k_blk_o rfl ?_
         | with_reducible refine k_seq_n ?_
         | ((try (conv => arg 1; simp [s0, s2, s4, s7, s8, b, hx, hlt, hop, Hd.cells, ha2, hw, maskR, hT, hk1, ltS, nm_ne])); with_reducible refine evp ?_)
         | ((with_reducible refine apn ?na ?_); (case na => simp [appNames, ints, intss] <;> first | kernel_rfl | (refine ⟨?_, ?_⟩ <;> kernel_rfl)))
         | ((with_reducible refine tcl ?_); first | ((apply tg (A)); (case e => rfl); (case d => (refine dq ?_); (repeat' (first | ((refine Da.mk ?_); first | exact drs_plc _ | assumption) | constructor)))))
         | fail)
        refine k_lp_n (i + 1) (by omega) ⟨by omega, by simp [s0], by simp [s2], by simp [s4], by simp [em, s7], by simp, ?_⟩
        rw [em]
        exact Cx.to y
    · have hge : i = l.length := by omega
      have hlt2 : ¬ (i : Int) < l.length := by omega
      rw [hge, List.take_length] at y s7 hfl b
      generalize farH p l = fv at *
      subst hp
      repeat' (first
       | with_reducible refine stp ?_
       | with_reducible refine k_blk_o rfl ?_
       | with_reducible refine k_seq_n ?_
       | ((try (conv => arg 1; simp [s0, s2, s4, s7, s8, hlt2, b, ltS, nm_ne])); with_reducible refine evp ?_)
       | ((with_reducible refine apn ?na ?_); (case na => simp [appNames, ints, intss] <;> first | kernel_rfl | (refine ⟨?_, ?_⟩ <;> kernel_rfl)))
       | fail)
      conv => arg 1; simp
      rw [appendA_snoc (s := 5) (l := fv.map Hd.cells) (e := Hd.cells ⟨⟨R, Lo, Hi, Off⟩, sl⟩) (by kernel_rfl) ?hr (by simp) ?hk rfl (by omega) ?hm]
      case hr => simp [b, nm_ne, ltS]
      case hk => simp [Hd.cells]
      case hm => simp [b, ltS]
      refine ev2_some ?_
      repeat' (first
       | with_reducible refine stp ?_
       | with_reducible refine k_blk_o rfl ?_
       | with_reducible refine k_seq_n ?_
       | ((try (conv => arg 1; simp [s0, s2, s4, s7, s8])); with_reducible refine evp ?_)
       | ((with_reducible refine apn ?na ?_); (case na => simp [appNames, ints, intss] <;> first | kernel_rfl | (refine ⟨?_, ?_⟩ <;> kernel_rfl)))
       | fail)
      refine ⟨(h1.tick, 0, 0), rfl, ?_⟩
      have z := (y.bperm ((List.Perm.swap _ _ _).trans (.cons _ (.swap _ _ _)))).box_drop.box_drop
      rw [List.map_append]
      exact Cx.to z

set_option maxHeartbeats 4000000 in
theorem l07Block (code : List Instr) (pls : List Plc) (hl : code.length ≤ 2 ^ 20) (hp : pls.length = code.length) (hD : ∀ x ∈ code, x.Op = 3 → 0 ≤ x.D) (hC : ∀ x ∈ code, x.Op = 4 → 0 ≤ x.C) : FreshW Try.prog 65 [instrs true code, plcs true pls] (fun b => instrs b (fwd code pls)) := by
  intro T
  have hnil : True := trivial
  have hzl : (code.zip pls).length = code.length := by simp [hp]
  refine enter mixed MG53 Try.func65 rfl (by kernel_rfl) rfl ?_
  repeat' (first
   | with_reducible refine stp ?_
   | with_reducible refine k_blk_o rfl ?_
   | with_reducible refine k_seq_n ?_
   | ((try (conv => arg 1; simp [hnil])); with_reducible refine evp ?_)
   | ((with_reducible refine apn ?na ?_); (case na => simp [appNames, ints, intss] <;> first | kernel_rfl | (refine ⟨?_, ?_⟩ <;> kernel_rfl)))
   | fail)
  refine st_loop (fun (i : Nat) σ h => i ≤ code.length ∧ σ 0 = instrs true code ∧ σ 1 = plcs true pls ∧ σ 7 = .int .i64 i ∧ ∃ kl, σ 5 = .sl (T + 1, 0, 0) i 0 i ∧ σ 6 = .sl kl (fwN ((code.zip pls).take i)).2.length 0 (fwN ((code.zip pls).take i)).2.length ∧
    Cx h [(kl, ⟨(fwN ((code.zip pls).take i)).2.length, 5, (fwN ((code.zip pls).take i)).2.map Hd.cells⟩), ((T + 1, 0, 0), ⟨i, 7, (fwN ((code.zip pls).take i)).1.map Instr.cells⟩)] []) (fun i => code.length - i) 0 ?init ?step
  case init =>
    have x0 := Cx.mt (T := T).next.next.box_one (T := T + 1) (i := 0) (r := ⟨0, 7, []⟩) (fun n hn => by simp [nms] at hn) (by simp)
    have x1 := x0.next.box_one (T := T + 1 + 1) (i := 0) (r := ⟨0, 5, []⟩) x0.off (by simp)
    exact ⟨Nat.zero_le _, by simp, by simp, by simp, (T + 1 + 1, 0, 0), by simp, by simp [fwN], Cx.to x1⟩
  case step =>
    rintro i σ h ⟨hi, s0, s1, s7, kl, s5, s6, x⟩
    have b := x.bxs
    simp only [Bxs] at b
    by_cases hlt : i < code.length
    · have hlt2 : (i : Int) < code.length := by omega
      have hlt3 : i < pls.length := by omega
      have hw : IntKind.i64.wrap (i + 1) = i + 1 := wrap_id (by omega) (by omega)
      have hx : code[i]? = some code[i] := by simp
      have hx2 : pls[i]? = some pls[i] := by simp
      have hz : i < (code.zip pls).length := by omega
      have et := fwN_take hz
      rw [List.getElem_zip] at et
      have hol := fwN_len ((code.zip pls).take i)
      have hll := fwN_llen ((code.zip pls).take i)
      have hsl := fwN_slot ((code.zip pls).take i) (fun y hy => hD _ (List.of_mem_zip (List.mem_of_mem_take hy)).1) (fun y hy => hC _ (List.of_mem_zip (List.mem_of_mem_take hy)).1)
      have htl : ((code.zip pls).take i).length = i := by simp; omega
      rw [htl] at hol hll
      have Df := l07Def code[i]
      have cD := hD code[i] (List.getElem_mem hlt)
      generalize hfn : fwN ((code.zip pls).take i) = fn at *
      obtain ⟨out, list⟩ := fn
      simp only at et hol hll hsl s6 x b
      have Kn := l07Know list pls[i] (by omega)
      generalize hci : code[i] = ci at *
      generalize hpi : pls[i] = p at *
      have hop : ∀ hh, code[i]'hh = ci := fun _ => hci
      have hop2 : ∀ hh, pls[i]'hh = p := fun _ => hpi
      have klx : kl.1 < h.tick := b.2.1
      obtain ⟨Op, D, A, B, C, N, Text⟩ := ci
      have y1 := x.next.next.box_one (T := h.tick + 1) (i := 4) (r := ⟨0, 7, [[.int .i64 Op, .int .i64 D, .int .i64 A, .int .i64 B, .int .i64 C, .int .i64 N, .str Text]]⟩) (fun m hm e => by have := x.lt m hm; omega) (by simp)
      have y0 := x.next.next.box_one (T := h.tick + 1) (i := 4) (r := ⟨0, 7, [[.int .i64 0, .int .i64 0, .int .i64 0, .int .i64 0, .int .i64 0, .int .i64 0, .str ByteArray.empty]]⟩) (fun m hm e => by have := x.lt m hm; omega) (by simp)
      repeat' (first
       | with_reducible refine stp ?_
       | with_reducible refine k_blk_o rfl ?_
       | with_reducible refine k_seq_n ?_
       | ((try (conv => arg 1; simp [s0, s1, s7, s5, s6, instrs, hlt2])); with_reducible refine evp ?_)
       | ((with_reducible refine apn ?na ?_); (case na => simp [appNames, ints, intss] <;> first | kernel_rfl | (refine ⟨?_, ?_⟩ <;> kernel_rfl)))
       | fail)
      repeat' (first
       | with_reducible refine stp ?_
       | with_reducible refine k_blk_o rfl ?_
       | ((try (conv => arg 1; simp [s0, s1, s7, s5, s6, instrs, hlt2, hx, hlt, hop, Instr.cells])); with_reducible refine evp ?_)
       | ((with_reducible refine apn ?na ?_); (case na => simp [appNames, ints, intss] <;> first | kernel_rfl | (refine ⟨?_, ?_⟩ <;> kernel_rfl)))
       | fail)
      refine k_seq_n ?_
      try refine st_seq ?_
      refine st_cut (fun σ' h' => σ' 0 = instrs true code ∧ σ' 1 = plcs true pls ∧ σ' 5 = .sl (T + 1, 0, 0) i 0 i ∧ σ' 7 = .int .i64 i ∧ σ' 8 = .ptr (h.tick + 1, 4, 0) 0 0 0 ∧ ∃ kl', σ' 6 = .sl kl' (fwOne ⟨Op, D, A, B, C, N, Text⟩ p list).2.length 0 (fwOne ⟨Op, D, A, B, C, N, Text⟩ p list).2.length ∧
        Cx h' [((h.tick + 1, 4, 0), ⟨0, 7, [(fwOne ⟨Op, D, A, B, C, N, Text⟩ p list).1.cells]⟩), (kl', ⟨(fwOne ⟨Op, D, A, B, C, N, Text⟩ p list).2.length, 5, (fwOne ⟨Op, D, A, B, C, N, Text⟩ p list).2.map Hd.cells⟩), ((T + 1, 0, 0), ⟨i, 7, out.map Instr.cells⟩)] []) ?cw ?ck
      case cw =>
        have yk := y0.bperm (List.Perm.swap _ _ _)
        have hlen2 : p.cells.length = 4 := rfl
        have on2 : ones p.cells = true := rfl
        have htk2 : List.take 4 p.cells = p.cells := rfl
        by_cases h4 : Op = 4
        · subst h4
          have ef : fwOne ⟨4, D, A, B, C, N, Text⟩ p list = (⟨4, D, A, B, C, N, Text⟩, farH p list ++ [⟨p, C⟩]) := by simp [fwOne]
          rw [ef]
          repeat' (first
           | with_reducible refine stp ?_
           | with_reducible refine k_blk_o rfl ?_
           | with_reducible refine k_seq_n ?_
           | ((try (conv => arg 1; simp [s0, s1, s7, s5, s6])); with_reducible refine evp ?_)
           | ((with_reducible refine apn ?na ?_); (case na => simp [appNames, ints, intss] <;> first | kernel_rfl | (refine ⟨?_, ?_⟩ <;> kernel_rfl)))
           | fail)
          repeat (with_reducible first | refine stp ?_ | refine k_seq_n ?_)
          refine st_draw 7 (fun _ => false) (by kernel_rfl) ?_
          simp only [List.take_succ_cons, List.take_zero, List.drop_succ_cons, List.drop_zero, List.take_nil, List.drop_nil]
          repeat' (first
           | with_reducible refine stp ?_
           | with_reducible refine k_blk_o rfl ?_
           | with_reducible refine k_seq_n ?_
           | ((try (conv => arg 1; simp [s0, s1, s7, s5, s6, plcs, hx2, hlt3, hop2, hlen2, on2, htk2, maskR])); with_reducible refine evp ?_)
           | ((with_reducible refine apn ?na ?_); (case na => simp [appNames, ints, intss] <;> first | kernel_rfl | (refine ⟨?_, ?_⟩ <;> kernel_rfl)))
           | fail)
          refine st_heap rfl (l07Stored list p C (by omega) (Cx.to yk)) ?_
          rintro v h' ⟨k', rfl, z⟩
          repeat' (first
           | with_reducible refine stp ?_
           | with_reducible refine k_blk_o rfl ?_
           | with_reducible refine k_seq_n ?_
           | ((try (conv => arg 1; simp [hnil])); with_reducible refine evp ?_)
           | ((with_reducible refine apn ?na ?_); (case na => simp [appNames, ints, intss] <;> first | kernel_rfl | (refine ⟨?_, ?_⟩ <;> kernel_rfl)))
           | fail)
          exact ⟨rfl, by simp [s0], by simp [s1], by simp [s5], by simp [s7], by simp, k', by simp, by rw [List.length_append]; exact Cx.to (z.bperm (List.Perm.swap _ _ _))⟩
        · by_cases h3 : Op = 3
          · subst h3
            by_cases hk : 0 ≤ knowH p list
            · have ef : fwOne ⟨3, D, A, B, C, N, Text⟩ p list = (⟨1, D, knowH p list, 0, 0, 0, ⟨#[]⟩⟩, dropH D list) := by simp [fwOne, hk]
              rw [ef]
              repeat' (first
               | with_reducible refine stp ?_
               | with_reducible refine k_blk_o rfl ?_
               | with_reducible refine k_seq_n ?_
               | ((try (conv => arg 1; simp [s0, s1, s7, s5, s6, b, klx, plcs, hx2, hlt3, hop2, hlen2, on2, htk2, ltS, nm_ne])); with_reducible refine evp ?_)
               | ((with_reducible refine apn ?na ?_); (case na => simp [appNames, ints, intss] <;> first | kernel_rfl | (refine ⟨?_, ?_⟩ <;> kernel_rfl)))
               | ((with_reducible refine tcl ?_); first | ((apply tg (Kn)); (case e => rfl); (case d => (refine dq ?_); (repeat' (first | ((refine Da.mk ?_); first | exact dr_hds_sl (l := list) (sp := []) rfl (by simp [b, klx, nm_ne, ltS]) | exact dr_agg (drs_plc _) | exact drs_plc _ | assumption) | constructor)))))
               | fail)
              refine st_heap rfl (l07Drop list D (by omega) (Cx.to yk)) ?_
              rintro v h' ⟨k', rfl, z⟩
              have z' := z.bperm (List.Perm.swap _ _ _)
              have bz := z'.bxs
              simp only [Bxs] at bz
              repeat' (first
               | with_reducible refine stp ?_
               | with_reducible refine k_blk_o rfl ?_
               | with_reducible refine k_seq_n ?_
               | ((try (conv => arg 1; simp [s0, s1, s7, s5, s6, bz, hk, ltS, nm_ne])); with_reducible refine evp ?_)
               | ((with_reducible refine apn ?na ?_); (case na => simp [appNames, ints, intss] <;> first | kernel_rfl | (refine ⟨?_, ?_⟩ <;> kernel_rfl)))
               | fail)
              exact ⟨rfl, by simp [s0], by simp [s1], by simp [s5], by simp [s7], by simp, k', by simp, Cx.to z'⟩
            · have ef : fwOne ⟨3, D, A, B, C, N, Text⟩ p list = (⟨3, D, A, B, C, N, Text⟩, dropH D list ++ [⟨p, D⟩]) := by simp [fwOne, hk]
              rw [ef]
              repeat' (first
               | with_reducible refine stp ?_
               | with_reducible refine k_blk_o rfl ?_
               | with_reducible refine k_seq_n ?_
               | ((try (conv => arg 1; simp [s0, s1, s7, s5, s6, b, klx, plcs, hx2, hlt3, hop2, hlen2, on2, htk2, ltS, nm_ne])); with_reducible refine evp ?_)
               | ((with_reducible refine apn ?na ?_); (case na => simp [appNames, ints, intss] <;> first | kernel_rfl | (refine ⟨?_, ?_⟩ <;> kernel_rfl)))
               | ((with_reducible refine tcl ?_); first | ((apply tg (Kn)); (case e => rfl); (case d => (refine dq ?_); (repeat' (first | ((refine Da.mk ?_); first | exact dr_hds_sl (l := list) (sp := []) rfl (by simp [b, klx, nm_ne, ltS]) | exact dr_agg (drs_plc _) | exact drs_plc _ | assumption) | constructor)))))
               | fail)
              refine st_heap rfl (l07Drop list D (by omega) (Cx.to yk)) ?_
              rintro v h' ⟨k', rfl, z⟩
              have z' := z.bperm (List.Perm.swap _ _ _)
              have bz := z'.bxs
              simp only [Bxs] at bz
              have hdl : (dropH D list).length ≤ list.length := List.length_filter_le _ _
              have hmT : ¬ h.tick + 1 = h'.tick + 1 := by have := bz.2.1; omega
              generalize dropH D list = dl at *
              obtain ⟨R, Lo, Hi, Off⟩ := p
              repeat' (first
               | with_reducible refine stp ?_
               | with_reducible refine k_blk_o rfl ?_
               | with_reducible refine k_seq_n ?_
               | ((try (conv => arg 1; simp [s0, s1, s7, s5, s6, bz, hk, ltS, nm_ne])); with_reducible refine evp ?_)
               | ((with_reducible refine apn ?na ?_); (case na => simp [appNames, ints, intss] <;> first | kernel_rfl | (refine ⟨?_, ?_⟩ <;> kernel_rfl)))
               | fail)
              have hmT2 : ¬ h.tick = h'.tick := by have := bz.2.1; omega
              repeat (with_reducible first | refine stp ?_ | refine k_seq_n ?_)
              refine st_draw 9 (fun _ => false) (by kernel_rfl) ?_
              simp only [List.take_succ_cons, List.take_zero, List.drop_succ_cons, List.drop_zero, List.take_nil, List.drop_nil]
              repeat' (first
               | with_reducible refine stp ?_
               | with_reducible refine k_blk_o rfl ?_
               | with_reducible refine k_seq_n ?_
               | ((try (conv => arg 1; simp [s0, s1, s7, s5, s6, bz, plcs, hx2, hlt3, hop2, Plc.cells, maskR, hmT, hmT2, ltS, nm_ne])); with_reducible refine evp ?_)
               | ((with_reducible refine apn ?na ?_); (case na => simp [appNames, ints, intss] <;> first | kernel_rfl | (refine ⟨?_, ?_⟩ <;> kernel_rfl)))
               | fail)
              conv => arg 1; simp
              rw [appendA_snoc (s := 5) (l := dl.map Hd.cells) (e := Hd.cells ⟨⟨R, Lo, Hi, Off⟩, D⟩) (by kernel_rfl) ?hr (by simp) ?hk rfl (by omega) ?hm]
              case hr => simp [bz, nm_ne, ltS]
              case hk => simp [Hd.cells]
              case hm => simp [bz, ltS]
              refine ev2_some ?_
              repeat' (first
               | with_reducible refine stp ?_
               | with_reducible refine k_blk_o rfl ?_
               | with_reducible refine k_seq_n ?_
               | ((try (conv => arg 1; simp [hnil])); with_reducible refine evp ?_)
               | ((with_reducible refine apn ?na ?_); (case na => simp [appNames, ints, intss] <;> first | kernel_rfl | (refine ⟨?_, ?_⟩ <;> kernel_rfl)))
               | fail)
              exact ⟨rfl, by simp [s0], by simp [s1], by simp [s5], by simp [s7], by simp, k', by simp, by rw [List.length_append, List.map_append]; exact Cx.to z'⟩
          · by_cases h6 : Op = 6
            · subst h6
              have ef : fwOne ⟨6, D, A, B, C, N, Text⟩ p list = (⟨6, D, A, B, C, N, Text⟩, list) := by simp [fwOne]
              rw [ef]
              repeat' (first
               | with_reducible refine stp ?_
               | with_reducible refine k_blk_o rfl ?_
               | with_reducible refine k_seq_n ?_
               | ((try (conv => arg 1; simp [s0, s1, s7, s5, s6, Instr.cells])); with_reducible refine evp ?_)
               | ((with_reducible refine apn ?na ?_); (case na => simp [appNames, ints, intss] <;> first | kernel_rfl | (refine ⟨?_, ?_⟩ <;> kernel_rfl)))
               | ((with_reducible refine tcl ?_); first | ((apply tg (Df)); (case e => rfl); (case d => (refine dq ?_); (repeat' (first | ((refine Da.mk ?_); first | exact drs_instr _ | assumption) | constructor)))))
               | fail)
              exact ⟨rfl, by simp [s0], by simp [s1], by simp [s5], by simp [s7], by simp, kl, by simp [s6], Cx.to y0⟩
            · have ef : fwOne ⟨Op, D, A, B, C, N, Text⟩ p list = (⟨Op, D, A, B, C, N, Text⟩, dropH D list) := by simp [fwOne, h4, h3, h6]
              rw [ef]
              rw [show (!(decide ((⟨Op, D, A, B, C, N, Text⟩ : Instr).Op = 4)) && !(decide ((⟨Op, D, A, B, C, N, Text⟩ : Instr).Op = 6))) = true by simp [h4, h6]] at Df
              repeat' (first
               | with_reducible refine stp ?_
               | with_reducible refine k_blk_o rfl ?_
               | with_reducible refine k_seq_n ?_
               | ((try (conv => arg 1; simp [s0, s1, s7, s5, s6, Instr.cells, h4, h3, h6])); with_reducible refine evp ?_)
               | ((with_reducible refine apn ?na ?_); (case na => simp [appNames, ints, intss] <;> first | kernel_rfl | (refine ⟨?_, ?_⟩ <;> kernel_rfl)))
               | ((with_reducible refine tcl ?_); first | ((apply tg (Df)); (case e => rfl); (case d => (refine dq ?_); (repeat' (first | ((refine Da.mk ?_); first | exact drs_instr _ | assumption) | constructor)))))
               | fail)
              refine st_heap rfl (l07Drop list D (by omega) (Cx.to yk)) ?_
              rintro v h' ⟨k', rfl, z⟩
              repeat' (first
               | with_reducible refine stp ?_
               | with_reducible refine k_blk_o rfl ?_
               | with_reducible refine k_seq_n ?_
               | ((try (conv => arg 1; simp [s0, s1, s7, s5, s6])); with_reducible refine evp ?_)
               | ((with_reducible refine apn ?na ?_); (case na => simp [appNames, ints, intss] <;> first | kernel_rfl | (refine ⟨?_, ?_⟩ <;> kernel_rfl)))
               | fail)
              exact ⟨rfl, by simp [s0], by simp [s1], by simp [s5], by simp [s7], by simp, k', by simp, Cx.to (z.bperm (List.Perm.swap _ _ _))⟩
      case ck =>
        rintro σ' h' ⟨s0, s1, s5, s7, s8, kl', s6, y⟩
        generalize fwOne ⟨Op, D, A, B, C, N, Text⟩ p list = fo at *
        obtain ⟨x', list'⟩ := fo
        simp only at et s6 y
        have b := y.bxs
        simp only [Bxs] at b
        have hlen1 : x'.cells.length = 7 := rfl
        have hon1 : ones x'.cells = true := rfl
        have htk1 : List.take 7 x'.cells = x'.cells := rfl
        repeat' (first
         | with_reducible refine stp ?_
         | with_reducible refine k_blk_o rfl ?_
         | with_reducible refine k_seq_n ?_
         | ((try (conv => arg 1; simp [s0, s1, s7, s8, s5, s6, b, hlen1, hon1, htk1, ltS, nm_ne])); with_reducible refine evp ?_)
         | ((with_reducible refine apn ?na ?_); (case na => simp [appNames, ints, intss] <;> first | kernel_rfl | (refine ⟨?_, ?_⟩ <;> kernel_rfl)))
         | fail)
        conv => arg 1; simp
        rw [appendA_snoc (s := 7) (l := out.map Instr.cells) (e := x'.cells) (by kernel_rfl) ?hr (by simp [hol]) ?hk rfl (by omega) ?hm]
        case hr => simp [b, nm_ne, ltS]
        case hk => simp [htk1]
        case hm => simp [b, ltS]
        refine ev2_some ?_
        repeat' (first
         | with_reducible refine stp ?_
         | with_reducible refine k_blk_o rfl ?_
         | with_reducible refine k_seq_n ?_
         | ((try (conv => arg 1; simp [s0, s1, s7, s8, s5, s6, hw])); with_reducible refine evp ?_)
         | ((with_reducible refine apn ?na ?_); (case na => simp [appNames, ints, intss] <;> first | kernel_rfl | (refine ⟨?_, ?_⟩ <;> kernel_rfl)))
         | fail)
        refine k_lp_n (i + 1) (by omega) ⟨by omega, by simp [s0], by simp [s1], by simp, kl', by simp, by simp [et, s6], ?_⟩
        rw [et, List.map_append]
        exact Cx.to y.box_drop
    · have hge : i = code.length := by omega
      have hlt2 : ¬ (i : Int) < code.length := by omega
      repeat' (first
       | with_reducible refine stp ?_
       | with_reducible refine k_blk_o rfl ?_
       | with_reducible refine k_seq_n ?_
       | ((try (conv => arg 1; simp [s0, s1, s7, s5, s6, instrs, hlt2])); with_reducible refine evp ?_)
       | ((with_reducible refine apn ?na ?_); (case na => simp [appNames, ints, intss] <;> first | kernel_rfl | (refine ⟨?_, ?_⟩ <;> kernel_rfl)))
       | fail)
      have htl : (code.zip pls).take i = code.zip pls := List.take_of_length_le (by omega)
      rw [htl] at x
      have z := Cx.close_instrs (bs := []) x.box_drop
      rw [show (fwN (code.zip pls)).1.length = code.length by rw [fwN_len, hzl], ← hge] at z
      refine fin_own (os := []) (ns := [(T + 1, 0, 0)]) (bs := ?bs1) ?y1
      case y1 => exact Cx.to z
set_option maxHeartbeats 4000000 in
theorem specForw (g : Graph) (d : g.Small) : FreshW Try.prog 32 [.agg (g.cells true)] (fun b => .agg ((forwR g).cells b)) := by
  intro T
  have hln := d.len
  have hnil : True := trivial
  have G := graphOkSpec g d.fit
  refine enter mixed MG53 Try.func32 rfl (by kernel_rfl) rfl ?_
  repeat' (first
   | with_reducible refine stp ?_
   | with_reducible refine k_blk_o rfl ?_
   | ((try (conv => arg 1; simp [Graph.cells])); with_reducible refine evp ?_)
   | ((with_reducible refine apn ?na ?_); (case na => simp [appNames, ints, intss] <;> first | kernel_rfl | (refine ⟨?_, ?_⟩ <;> kernel_rfl)))
   | fail)
  refine cx_k ((Cx.mt.next.box_one (T := T) (i := 0) Cx.mt.off (by simp)).box_add (n := (T, 1, 0)) (by simp [nms]) (by simp)) ?_
  intro h1 x1
  have b1 := x1.bxs
  simp only [Bxs] at b1
  repeat' (first
   | with_reducible refine stp ?_
   | with_reducible refine k_blk_o rfl ?_
   | with_reducible refine k_seq_n ?_
   | ((try (conv => arg 1; simp [b1, ltS, nm_ne, tk_ne])); with_reducible refine evp ?_)
   | ((with_reducible refine apn ?na ?_); (case na => simp [appNames, ints, intss] <;> first | kernel_rfl | (refine ⟨?_, ?_⟩ <;> kernel_rfl)))
   | fail)
  refine st_freshw rfl (l04Copy g d) (.cons (dr_agg (drs_graphL g fun h => h)) .nil) ?_
  intro v h2 n o e f p t
  have x2 := x1.next.fresh o e f p t
  have z2 : h1.tick < h2.tick := by simp only [hp_next_tick] at t; omega
  obtain ⟨w1, w2, _, _, rfl, _, q1, q2⟩ := ownV_graph (o true)
  have q1 := own_one q1
  have q2 := own_one' q2
  have b2 := x2.bxs
  simp only [Bxs] at b2
  repeat' (first
   | with_reducible refine stp ?_
   | with_reducible refine k_blk_o rfl ?_
   | ((try (conv => arg 1; simp [b2, z2, q1.1, q1.2.1, q1.2.2, q2.1, q2.2.1, q2.2.2, ltS, nm_ne, tk_ne])); with_reducible refine evp ?_)
   | ((with_reducible refine apn ?na ?_); (case na => simp [appNames, ints, intss] <;> first | kernel_rfl | (refine ⟨?_, ?_⟩ <;> kernel_rfl)))
   | fail)
  refine cx_k (x2.box_new (x1.off.fresh f (by simp [hp_next_tick])) z2) ?_
  intro h3 x3
  have b3 := x3.bxs
  simp only [Bxs] at b3
  cases hk : graphOk g with
  | false =>
    rw [hk] at G
    have hr : forwR g = g := by simp [forwR, hk]
    rw [hr]
    repeat' (first
     | with_reducible refine stp ?_
     | with_reducible refine k_blk_o rfl ?_
     | with_reducible refine k_seq_n ?_
     | ((try (conv => arg 1; simp [b3, q1.1, q1.2.1, q1.2.2, q2.1, q2.2.1, q2.2.2, ltS, nm_ne, tk_ne])); with_reducible refine evp ?_)
     | ((with_reducible refine apn ?na ?_); (case na => simp [appNames, ints, intss] <;> first | kernel_rfl | (refine ⟨?_, ?_⟩ <;> kernel_rfl)))
     | ((with_reducible refine tcl ?_); first | ((apply tg (G)); (case e => rfl); (case d => (refine dq ?_); (repeat' (first | ((refine Da.mk ?_); first | exact dr_blocks (by simp) _ | assumption) | constructor)))))
     | fail)
    refine fin_own (os := []) (ns := n) (bs := ?bs2) ?y2
    case y2 => exact Cx.to x3
  | true =>
    rw [hk] at G
    have hr : forwR g = { g with Blocks := g.Blocks.map (forwB g.Slots.toNat) } := by simp [forwR, hk]
    rw [hr]
    have hnb : 1 ≤ g.Blocks.length := (headOk_head (by simp only [graphOk, Bool.and_eq_true] at hk; exact hk.1.1)).blocks.1
    have hbne : (g.Blocks.map (Block.cells true)) ≠ [] := fun e => by have := List.map_eq_nil_iff.1 e; rw [this] at hnb; simp at hnb
    obtain ⟨u1, u2, n1, n2, eu, rfl, x4⟩ := x3.graph_split
    simp only [List.cons.injEq, true_and, and_true] at eu
    obtain ⟨rfl, rfl⟩ := eu
    obtain ⟨kk, ver, es, sp, n3, rfl, rfl, hel, he5, c1, c2, y⟩ := x4.rot1.open_row (s := 5) (ts := fun b => g.Blocks.map (Block.cells b)) (by omega) (fun b t ht => by simp at ht; obtain ⟨a, _, rfl⟩ := ht; rfl) hbne
    have hel2 : es.length = g.Blocks.length := by simpa using hel
    rw [hel2] at q2 b3 y
    repeat' (first
     | with_reducible refine stp ?_
     | with_reducible refine k_blk_o rfl ?_
     | with_reducible refine k_seq_n ?_
     | ((try (conv => arg 1; simp [b3, q1.1, q1.2.1, q1.2.2, q2.1, q2.2.1, q2.2.2, ltS, nm_ne, tk_ne])); with_reducible refine evp ?_)
     | ((with_reducible refine apn ?na ?_); (case na => simp [appNames, ints, intss] <;> first | kernel_rfl | (refine ⟨?_, ?_⟩ <;> kernel_rfl)))
     | ((with_reducible refine tcl ?_); first | ((apply tg (G)); (case e => rfl); (case d => (refine dq ?_); (repeat' (first | ((refine Da.mk ?_); first | exact dr_blocks (by simp) _ | assumption) | constructor)))))
     | fail)
    refine st_loop (fun (i : Nat) σ h => i ≤ g.Blocks.length ∧ σ 1 = .ptr (T, 0, 0) 0 0 0 ∧ σ 2 = .ptr (T, 1, 0) 0 0 0 ∧ σ 3 = .ptr (h1.tick, 2, 0) 0 0 0 ∧ σ 4 = .int .i64 i ∧ ∃ es n3, es.length = g.Blocks.length ∧ (∀ e ∈ es, e.length = 5) ∧
      Cx h [(kk, ⟨ver, 5, es ++ sp⟩), ((h1.tick, 2, 0), ⟨0, 5, [[w1, .int .i64 g.Params, .int .i64 g.Vars, .int .i64 g.Slots, .sl kk ver 0 g.Blocks.length]]⟩), ((T, 1, 0), ⟨0, 5, [[.nilsl, .int .i64 0, .int .i64 0, .int .i64 0, .nilsl]]⟩), ((T, 0, 0), graphRow g)]
        [(.agg es.flatten, (fun b => .agg ((mixB (forwB g.Slots.toNat) g i).map (Block.cells b)).flatten), n3), (w1, (fun b => ints b g.Sizes), n1)]) (fun i => g.Blocks.length - i) 0 ?init ?step
    case init => exact ⟨Nat.zero_le _, by simp, by simp, by simp, by simp, es, n3, hel2, he5, Cx.to y⟩
    case step =>
      rintro i σ h ⟨hi, s1, s2, s3, s4, es, n3, hle, he5, x⟩
      have b := x.bxs
      simp only [Bxs, graphRow] at b
      by_cases hlt : i < g.Blocks.length
      · have hlt2 : (i : Int) < g.Blocks.length := by omega
        have hw : IntKind.i64.wrap (i + 1) = i + 1 := wrap_id (by omega) (by omega)
        have hml := mixB_len (forwB g.Slots.toNat) g hi
        obtain ⟨w, m1, m2, m3, hw1, qw, xs, hx⟩ := x.blk_code he5 (by omega) (i := i) (by omega)
        have hma := mixB_at (forwB g.Slots.toNat) g hlt
        simp only [hma] at hw1 hx xs
        have hie : i < es.length := by omega
        have hat : (es ++ sp)[i]? = some [w, .int .i64 g.Blocks[i].Jump, .int .i64 g.Blocks[i].A, .int .i64 g.Blocks[i].To, .int .i64 g.Blocks[i].Else] := by
          rw [List.getElem?_append_left hie, hw1]
        have hset : ∀ e : List AV, (es ++ sp).set i e = es.set i e ++ sp := fun e => List.set_append_left _ _ hie
        have hms := mixB_succ (forwB g.Slots.toNat) g hlt
        have apk : ¬ (h1.tick, 2, 0) = kk ∧ ¬ (T, 0, 0) = kk := by have ap := x.aps; simp only [List.map_cons, List.map_nil, Aps] at ap; exact ⟨(ap.1 (h1.tick, 2, 0) (by simp)).2, (ap.1 (T, 0, 0) (by simp)).2⟩
        have P := specPlaces g d hk hlt
        have hcl : g.Blocks[i].Code.length ≤ 2 ^ 20 := by have := d.code _ (List.getElem_mem hlt); omega
        obtain ⟨nsl, _, _, hco⟩ := code_in hk hlt
        have L := l07Block g.Blocks[i].Code (plcsOf g.Slots.toNat g.Blocks[i].Code) hcl (plsFrom_len _ _) (fun x hx e => by obtain ⟨dd, h1, _⟩ := (hco x hx).d (by omega) (by omega); omega) (fun x hx e => (hco x hx).c e)
        have hblk : g.Blocks[i]? = some g.Blocks[i] := by simp
        have hblen := block_len true g.Blocks[i]
        generalize hE : es ++ sp = E at *
        repeat' (first
         | with_reducible refine stp ?_
         | with_reducible refine k_blk_o rfl ?_
         | with_reducible refine k_seq_n ?_
         | ((try (conv => arg 1; simp [s1, s2, s3, s4, b, hlt2, blocks, ltS, nm_ne, tk_ne])); with_reducible refine evp ?_)
         | ((with_reducible refine apn ?na ?_); (case na => simp [appNames, ints, intss] <;> first | kernel_rfl | (refine ⟨?_, ?_⟩ <;> kernel_rfl)))
         | fail)
        repeat (with_reducible first | refine stp ?_ | refine k_seq_n ?_)
        refine st_lz (by kernel_rfl) ?_
        have hF := And.intro s1 (And.intro s2 (And.intro s3 (And.intro s4 (And.intro b (And.intro hlt (And.intro hlt2 (And.intro hblk hblen)))))))
        repeat' (first
         | with_reducible refine stp ?_
         | with_reducible refine k_blk_o rfl ?_
         | ((try (conv => arg 1; simp [blocks, Block.cells, ltS, nm_ne, tk_ne, hF])); with_reducible refine evp ?_)
         | ((with_reducible refine apn ?na ?_); (case na => simp [appNames, ints, intss] <;> first | kernel_rfl | (refine ⟨?_, ?_⟩ <;> kernel_rfl)))
         | ((with_reducible refine tcl ?_); first | ((apply tg (P)); (case e => rfl); (case d => (refine dq ?_); (repeat' (first | ((refine Da.mk ?_); first | exact dr_blocks (by simp) _ | assumption) | constructor)))))
          | ((with_reducible refine la_id ?_); refine la_end rfl ?_; (repeat (first | refine pl_nil ?_ | refine pl_cons ?_)))
          | ((with_reducible refine la_id ?_); refine la_pick ?_; (conv => arg 1; whnf); (repeat ((fail_if_success (first | ((refine la_q0 rfl ?_); (try (conv => arg 1; simp [blocks, Block.cells, ltS, nm_ne, tk_ne, hF])); with_reducible refine evp ?_) | ((refine la_n rfl rfl ?_); (try (conv => arg 1; simp [blocks, Block.cells, ltS, nm_ne, tk_ne, hF])); with_reducible refine evp ?_) | ((refine la_q2 rfl (by decide +kernel) ?_); (repeat (first | refine bk_nil ?_ | refine bk_t (by decide +kernel) ?_ | refine bk_f (by decide +kernel) ?_)); (try (conv => arg 1; simp [blocks, Block.cells, ltS, nm_ne, tk_ne, hF])); with_reducible refine evp ?_) | ((refine la_q1 rfl (by decide +kernel) ?_); (try (conv => arg 1; simp [blocks, Block.cells, ltS, nm_ne, tk_ne, hF])); with_reducible refine evp ?_) | ((refine la_g0 rfl ?_); (try (conv => arg 1; simp [blocks, Block.cells, ltS, nm_ne, tk_ne, hF])); with_reducible refine evp ?_; (with_reducible refine evp ?_); try ((try (conv => arg 1; simp [blocks, Block.cells, ltS, nm_ne, tk_ne, hF])); with_reducible refine evp ?_)))); (refine la_there ?_); (conv => arg 1; whnf))); first | ((refine la_q0 rfl ?_); (try (conv => arg 1; simp [blocks, Block.cells, ltS, nm_ne, tk_ne, hF])); with_reducible refine evp ?_) | ((refine la_n rfl rfl ?_); (try (conv => arg 1; simp [blocks, Block.cells, ltS, nm_ne, tk_ne, hF])); with_reducible refine evp ?_) | ((refine la_q2 rfl (by decide +kernel) ?_); (repeat (first | refine bk_nil ?_ | refine bk_t (by decide +kernel) ?_ | refine bk_f (by decide +kernel) ?_)); (try (conv => arg 1; simp [blocks, Block.cells, ltS, nm_ne, tk_ne, hF])); with_reducible refine evp ?_) | ((refine la_q1 rfl (by decide +kernel) ?_); (try (conv => arg 1; simp [blocks, Block.cells, ltS, nm_ne, tk_ne, hF])); with_reducible refine evp ?_) | ((refine la_g0 rfl ?_); (try (conv => arg 1; simp [blocks, Block.cells, ltS, nm_ne, tk_ne, hF])); with_reducible refine evp ?_; (with_reducible refine evp ?_); try ((try (conv => arg 1; simp [blocks, Block.cells, ltS, nm_ne, tk_ne, hF])); with_reducible refine evp ?_)))
          | ((with_reducible refine la_id ?_); refine la_all rfl ?_)
          | ((with_reducible refine all_id ?_); (conv => arg 1; whnf); first | exact all_nil | refine all_cons ?_ ?_)
          | (refine la_op rfl (by first | exact frm_s (by decide +kernel) | exact frm_a (by repeat' (first | exact fa_nil | refine fa_cons (by decide +kernel) ?_))) (by intro hq; first | exact trivial | (cases hq; done) | simp [appT, blocks, Block.cells, ltS, nm_ne, tk_ne, hF]) ?_; (repeat (first | refine bk_nil ?_ | refine bk_t (by decide +kernel) ?_ | refine bk_f (by decide +kernel) ?_)))
         | fail)
        refine st_freshw rfl L (.cons (dr_instrs (by simp) _) (.cons (dr_plcs (by simp) _) .nil)) ?_
        intro v h2 n o e f p t
        have x5 := (Cx.to xs).fresh o e f p t
        have q5 := own_one (own_of (o true) rfl)
        have b5 := x5.bxs
        simp only [Bxs, graphRow] at b5
        obtain ⟨ns', x6⟩ := hx _ _ _ _ _ ((x5.perm (List.Perm.swap _ _ _)).drop)
        have hF := And.intro s1 (And.intro s2 (And.intro s3 (And.intro s4 (And.intro b5 (And.intro hlt (And.intro hlt2 (And.intro hat (And.intro q5.1 (And.intro q5.2.1 q5.2.2)))))))))
        repeat' (first
         | with_reducible refine stp ?_
         | with_reducible refine k_blk_o rfl ?_
         | ((try (conv => arg 1; simp [ltS, nm_ne, tk_ne, hF])); with_reducible refine evp ?_)
         | ((with_reducible refine apn ?na ?_); (case na => simp [appNames, ints, intss] <;> first | kernel_rfl | (refine ⟨?_, ?_⟩ <;> kernel_rfl)))
          | ((with_reducible refine la_id ?_); refine la_end rfl ?_; (repeat (first | refine pl_nil ?_ | refine pl_cons ?_)))
          | ((with_reducible refine la_id ?_); refine la_pick ?_; (conv => arg 1; whnf); (repeat ((fail_if_success (first | ((refine la_q0 rfl ?_); (try (conv => arg 1; simp [ltS, nm_ne, tk_ne, hF])); with_reducible refine evp ?_) | ((refine la_n rfl rfl ?_); (try (conv => arg 1; simp [ltS, nm_ne, tk_ne, hF])); with_reducible refine evp ?_) | ((refine la_q2 rfl (by decide +kernel) ?_); (repeat (first | refine bk_nil ?_ | refine bk_t (by decide +kernel) ?_ | refine bk_f (by decide +kernel) ?_)); (try (conv => arg 1; simp [ltS, nm_ne, tk_ne, hF])); with_reducible refine evp ?_) | ((refine la_q1 rfl (by decide +kernel) ?_); (try (conv => arg 1; simp [ltS, nm_ne, tk_ne, hF])); with_reducible refine evp ?_) | ((refine la_g0 rfl ?_); (try (conv => arg 1; simp [ltS, nm_ne, tk_ne, hF])); with_reducible refine evp ?_; (with_reducible refine evp ?_); try ((try (conv => arg 1; simp [ltS, nm_ne, tk_ne, hF])); with_reducible refine evp ?_)))); (refine la_there ?_); (conv => arg 1; whnf))); first | ((refine la_q0 rfl ?_); (try (conv => arg 1; simp [ltS, nm_ne, tk_ne, hF])); with_reducible refine evp ?_) | ((refine la_n rfl rfl ?_); (try (conv => arg 1; simp [ltS, nm_ne, tk_ne, hF])); with_reducible refine evp ?_) | ((refine la_q2 rfl (by decide +kernel) ?_); (repeat (first | refine bk_nil ?_ | refine bk_t (by decide +kernel) ?_ | refine bk_f (by decide +kernel) ?_)); (try (conv => arg 1; simp [ltS, nm_ne, tk_ne, hF])); with_reducible refine evp ?_) | ((refine la_q1 rfl (by decide +kernel) ?_); (try (conv => arg 1; simp [ltS, nm_ne, tk_ne, hF])); with_reducible refine evp ?_) | ((refine la_g0 rfl ?_); (try (conv => arg 1; simp [ltS, nm_ne, tk_ne, hF])); with_reducible refine evp ?_; (with_reducible refine evp ?_); try ((try (conv => arg 1; simp [ltS, nm_ne, tk_ne, hF])); with_reducible refine evp ?_)))
          | ((with_reducible refine la_id ?_); refine la_all rfl ?_)
          | ((with_reducible refine all_id ?_); (conv => arg 1; whnf); first | exact all_nil | refine all_cons ?_ ?_)
          | (refine la_op rfl (by first | exact frm_s (by decide +kernel) | exact frm_a (by repeat' (first | exact fa_nil | refine fa_cons (by decide +kernel) ?_))) (by intro hq; first | exact trivial | (cases hq; done) | simp [appT, ltS, nm_ne, tk_ne, hF]) ?_; (repeat (first | refine bk_nil ?_ | refine bk_t (by decide +kernel) ?_ | refine bk_f (by decide +kernel) ?_)))
         | fail)
        repeat' (first
         | with_reducible refine stp ?_
         | with_reducible refine k_blk_o rfl ?_
         | with_reducible refine k_seq_n ?_
         | ((try (conv => arg 1; simp [s1, s2, s3, s4, hw])); with_reducible refine evp ?_)
         | ((with_reducible refine apn ?na ?_); (case na => simp [appNames, ints, intss] <;> first | kernel_rfl | (refine ⟨?_, ?_⟩ <;> kernel_rfl)))
         | fail)
        refine k_lp_n (i + 1) (by omega) ⟨by omega, by simp [s1], by simp [s2], by simp [s3], by simp, es.set i [v, .int .i64 g.Blocks[i].Jump, .int .i64 g.Blocks[i].A, .int .i64 g.Blocks[i].To, .int .i64 g.Blocks[i].Else], ns', by simp [hle], fun e he => ?_, ?_⟩
        · rcases List.mem_or_eq_of_mem_set he with he | rfl
          · exact he5 e he
          · rfl
        · rw [hms, ← hset]
          exact Cx.to x6
      · have hge : i = g.Blocks.length := by omega
        have hlt2 : ¬ (i : Int) < g.Blocks.length := by omega
        repeat' (first
         | with_reducible refine stp ?_
         | with_reducible refine k_blk_o rfl ?_
         | with_reducible refine k_seq_n ?_
         | ((try (conv => arg 1; simp [s1, s2, s3, s4, b, hlt, hlt2, q1.1, q1.2.1, q1.2.2, ltS, nm_ne, tk_ne])); with_reducible refine evp ?_)
         | ((with_reducible refine apn ?na ?_); (case na => simp [appNames, ints, intss] <;> first | kernel_rfl | (refine ⟨?_, ?_⟩ <;> kernel_rfl)))
         | fail)
        have e1 : mixB (forwB g.Slots.toNat) g i = g.Blocks.map (forwB g.Slots.toNat) := by unfold mixB; rw [hge, List.take_length, List.drop_length, List.append_nil]
        rw [e1] at x
        have z := Cx.close_row (ts := fun b => (g.Blocks.map (forwB g.Slots.toNat)).map (Block.cells b)) x he5 (fun b => by simp [hle]) (fun b t ht => by simp at ht; obtain ⟨a, _, rfl⟩ := ht; rfl) c1 c2
        rw [hle] at z
        refine fin_own (os := []) (ns := n1 ++ (kk :: (n3 ++ []))) (bs := ?bs3) ?y3
        case y3 => exact Cx.to (Cx.graph_join (g := { g with Blocks := g.Blocks.map (forwB g.Slots.toNat) }) (Cx.rot1 z))
end Go.Proofs.Ytlmlkkkgcbpaoaa.AM

/-
  Places: the program's, step by step.
-/
set_option linter.unusedVariables false
set_option linter.unusedSimpArgs false
set_option maxRecDepth 4000
namespace Go.Proofs.Ytlmlkkkgcbpaoaa.AM
open Go.RowKit

private def MG39 : FuncId → Mode := fun f => .tree

set_option maxHeartbeats 4000000 in
theorem newKnowing (g : Graph) {n : Nat} (hs : g.Slots = n) (hn : n ≤ 1000) {h : Hp} {bs : Bx} {os : Ox} (x : Cx h bs os) :
    Sound Try.prog 92 [.agg (g.cells true)] h fun v h' => ∃ k w ns, v = .ptr k 0 0 0 ∧ Cx h' ((k, ⟨0, 2, [[w, .int .i64 n]]⟩) :: bs) ((w, (fun b => pvs b (start n)), ns) :: os) := by
  have hnil : True := trivial
  refine enter mixed MG39 Try.func92 rfl (by kernel_rfl) rfl ?_
  repeat' (first
   | with_reducible refine stp ?_
   | with_reducible refine k_blk_o rfl ?_
   | with_reducible refine k_seq_n ?_
   | ((try (conv => arg 1; simp [Graph.cells, hs])); with_reducible refine evp ?_)
   | ((with_reducible refine apn ?na ?_); (case na => simp [appNames, ints, intss] <;> first | kernel_rfl | (refine ⟨?_, ?_⟩ <;> kernel_rfl)))
   | fail)
  refine st_loop (fun (i : Nat) σ h' => i ≤ n ∧ σ 3 = .ptr (h.tick + 1, 3, 0) 0 0 0 ∧ σ 10 = .int .i64 n ∧ σ 11 = .int .i64 i ∧ ∃ w b, FL 2 ((start i).map PV.cells) w b ∧ Cx h' ([((h.tick + 1, 3, 0), ⟨0, 2, [[w, .int .i64 n]]⟩)] ++ (b ++ bs)) os) (fun i => n - i) 0 ?init ?step
  case init =>
    have x1 : Cx (h.next.put (h.tick, 0, 0) ⟨0, 5, [[ints true g.Sizes, .int .i64 g.Params, .int .i64 g.Vars, .int .i64 n, blocks true g.Blocks]]⟩).next bs os := Cx.to x
    have x2 := x1.box_one (T := h.tick + 1) (i := 3) (r := ⟨0, 2, [[.nilsl, .int .i64 n]]⟩) (fun m hm e => by have := x.lt m hm; omega) (by simp)
    exact ⟨Nat.zero_le _, by simp, by simp, by simp, .nilsl, [], FL.nil, show Cx _ (_ :: ([] ++ bs)) os from Cx.to x2⟩
  case step =>
    rintro i σ h' ⟨hi, s3, s10, s11, w, b, fl, y⟩
    have bb := y.bxs
    simp only [List.cons_append, List.nil_append, Bxs] at bb
    have q := fl.one
    by_cases hlt : i < n
    · have hlt2 : (i : Int) < n := by omega
      have hw : IntKind.i64.wrap (i + 1) = i + 1 := wrap_id (by omega) (by omega)
      repeat' (first
       | with_reducible refine stp ?_
       | with_reducible refine k_blk_o rfl ?_
       | with_reducible refine k_seq_n ?_
       | ((try (conv => arg 1; simp [s3, s10, s11, bb, q.1, q.2.1, q.2.2, hlt2, ltS, nm_ne, tk_ne])); with_reducible refine evp ?_)
       | ((with_reducible refine apn ?na ?_); (case na => simp [appNames, ints, intss] <;> first | kernel_rfl | (refine ⟨?_, ?_⟩ <;> kernel_rfl)))
       | fail)
      conv => arg 1; simp
      refine ev2_app (s := 2) (fs := [((h.tick + 1, 3, 0), ⟨0, 2, [[w, .int .i64 n]]⟩)]) (e := PV.cells ⟨i, 0⟩) (by kernel_rfl) fl (Cx.to y) ?hk rfl ?hl ?hn ?ht ?kk
      case hk => simp [PV.cells]
      case hn => exact Cx.new_nin y (show h'.tick ≤ h'.tick + 1 + 1 by omega)
      case ht => simp
      case hl => simp [start_len]; omega
      intro w' b' h2 fl' y2 tk q'
      have bb2 := y2.bxs
      simp only [List.cons_append, List.nil_append, Bxs] at bb2
      repeat' (first
       | with_reducible refine stp ?_
       | with_reducible refine k_blk_o rfl ?_
       | with_reducible refine k_seq_n ?_
       | ((try (conv => arg 1; simp [s3, s10, s11, bb2, q'.1, q'.2.1, q'.2.2, hw, ltS, nm_ne, tk_ne])); with_reducible refine evp ?_)
       | ((with_reducible refine apn ?na ?_); (case na => simp [appNames, ints, intss] <;> first | kernel_rfl | (refine ⟨?_, ?_⟩ <;> kernel_rfl)))
       | fail)
      refine k_lp_n (i + 1) (by omega) ⟨by omega, by simp [s3], by simp [s10], by simp, w', b', ?_, ?_⟩
      · rw [start_succ, List.map_append]; exact fl'
      · exact (show Cx _ (_ :: (b' ++ bs)) os from Cx.to (show Cx h2 (_ :: (b' ++ bs)) os from y2))
    · have hge : i = n := by omega
      have hlt2 : ¬ (i : Int) < n := by omega
      subst hge
      repeat' (first
       | with_reducible refine stp ?_
       | with_reducible refine k_blk_o rfl ?_
       | with_reducible refine k_seq_n ?_
       | ((try (conv => arg 1; simp [s3, s10, s11, bb, hlt2, ltS, nm_ne, tk_ne])); with_reducible refine evp ?_)
       | ((with_reducible refine apn ?na ?_); (case na => simp [appNames, ints, intss] <;> first | kernel_rfl | (refine ⟨?_, ?_⟩ <;> kernel_rfl)))
       | fail)
      obtain ⟨ns, z⟩ := fl.own (pvs_flat _) y.to_front
      exact ⟨_, w, ns, rfl, Cx.to z⟩

theorem mm_min (x y : Int) : mmA .min [.int .i64 x, .int .i64 y] = some (.int .i64 (min x y)) := by
  simp only [mmA]
  by_cases h : y < x
  · rw [if_pos h, Int.min_eq_right (by omega)]
  · rw [if_neg h, Int.min_eq_left (by omega)]
theorem mm_max (x y : Int) : mmA .max [.int .i64 x, .int .i64 y] = some (.int .i64 (max x y)) := by
  simp only [mmA]
  by_cases h : y > x
  · rw [if_pos h, Int.max_eq_right (by omega)]
  · rw [if_neg h, Int.max_eq_left (by omega)]
def makesV (x : Instr) : Int := if x.Op = 4 ∨ x.Op = 6 then -1 else x.D
theorem makes (x : Instr) : Pure Try.prog 128 [.agg x.cells] (.int .i64 (makesV x)) := by
  intro T
  obtain ⟨Op, D, A, B, C, N, Text⟩ := x
  refine enter mixed MG39 Try.func128 rfl (by kernel_rfl) rfl ?_
  by_cases h4 : Op = 4
  · skip
    repeat' (first
     | with_reducible refine stp ?_
     | with_reducible refine k_blk_o rfl ?_
     | with_reducible refine k_seq_n ?_
     | ((try (conv => arg 1; simp [Instr.cells, h4])); with_reducible refine evp ?_)
     | ((with_reducible refine apn ?na ?_); (case na => simp [appNames, ints, intss] <;> first | kernel_rfl | (refine ⟨?_, ?_⟩ <;> kernel_rfl)))
     | fail)
    exact dr_int (by simp [makesV, *])
  · by_cases h6 : Op = 6
    · skip
      repeat' (first
       | with_reducible refine stp ?_
       | with_reducible refine k_blk_o rfl ?_
       | with_reducible refine k_seq_n ?_
       | ((try (conv => arg 1; simp [Instr.cells, h6])); with_reducible refine evp ?_)
       | ((with_reducible refine apn ?na ?_); (case na => simp [appNames, ints, intss] <;> first | kernel_rfl | (refine ⟨?_, ?_⟩ <;> kernel_rfl)))
       | fail)
      exact dr_int (by simp [makesV, *])
    · skip
      repeat' (first
       | with_reducible refine stp ?_
       | with_reducible refine k_blk_o rfl ?_
       | with_reducible refine k_seq_n ?_
       | ((try (conv => arg 1; simp [Instr.cells, h4, h6])); with_reducible refine evp ?_)
       | ((with_reducible refine apn ?na ?_); (case na => simp [appNames, ints, intss] <;> first | kernel_rfl | (refine ⟨?_, ?_⟩ <;> kernel_rfl)))
       | fail)
      exact dr_int (by simp [makesV, h4, h6])

set_option maxHeartbeats 4000000 in
theorem placeOf (x : Instr) (st : List PV) (nx : Int) (hx : InOk st.length x) : Pure Try.prog 93 [.tptr true [pvs true st, .int .i64 nx], .agg x.cells] (.agg (plOf x st).cells) := by
  intro T
  have hnil : True := trivial
  obtain ⟨Op, D, A, B, C, N, Text⟩ := x
  refine enter mixed MG39 Try.func93 rfl (by kernel_rfl) rfl ?_
  by_cases h34 : Op = 3 ∨ Op = 4
  · have hb0 := hx.b (show Op = 2 ∨ Op = 3 ∨ Op = 4 by omega)
    obtain ⟨b, hB, hb⟩ := hb0
    have hA := hx.a2 h34
    simp only at hB hA
    subst hB
    have hxb : st[b]? = some st[b] := by simp
    have egb := getS_at hb
    generalize st[b] = vb at hxb egb
    obtain ⟨bb, bo⟩ := vb
    have h3 : Op = 3 ∨ (¬ Op = 3 ∧ Op = 4) := by
      by_cases e : Op = 3
      · exact .inl e
      · exact .inr ⟨e, h34.resolve_left e⟩
    rcases h3 with rfl | ⟨h3, rfl⟩
    · skip
      repeat' (first
       | with_reducible refine stp ?_
       | with_reducible refine k_blk_o rfl ?_
       | with_reducible refine k_seq_n ?_
       | ((try (conv => arg 1; simp [Instr.cells, PV.cells, hnil])); with_reducible refine evp ?_)
       | ((with_reducible refine apn ?na ?_); (case na => simp [appNames, ints, intss] <;> first | kernel_rfl | (refine ⟨?_, ?_⟩ <;> kernel_rfl)))
       | fail)
      repeat (with_reducible first | refine stp ?_ | refine k_seq_n ?_)
      refine st_cut (fun σ h' => σ 0 = .tptr true [pvs true st, .int .i64 nx] ∧ σ 3 = .ptr (T, 0, 0) 0 0 0 ∧ σ 4 = .ptr (T, 1, 0) 0 0 0 ∧ σ 5 = .ptr (T + 1 + 1, 9, 0) 0 0 0 ∧ σ 6 = .ptr (T + 1 + 1, 10, 0) 0 0 0 ∧
          Cx h' [((T + 1 + 1, 10, 0), ⟨0, 2, [[.int .i64 bb, .int .i64 bo]]⟩), ((T + 1 + 1, 9, 0), ⟨0, 2, [[.int .i64 (-1), .int .i64 0]]⟩), ((T, 1, 0), ⟨0, 4, [[.int .i64 0, .int .i64 0, .int .i64 0, .int .i64 0]]⟩), ((T, 0, 0), ⟨0, 7, [[.int .i64 3, .int .i64 D, .int .i64 A, .int .i64 b, .int .i64 C, .int .i64 N, .str Text]]⟩)] []) ?cw ?ck
      case cw =>
        repeat (with_reducible first | refine stp ?_ | refine k_seq_n ?_)
        refine st_lz (by kernel_rfl) ?_
        repeat' (first
         | with_reducible refine stp ?_
         | with_reducible refine k_blk_o rfl ?_
         | ((try (conv => arg 1; simp [Instr.cells, PV.cells, pvs, hxb, hnil])); with_reducible refine evp ?_)
         | ((with_reducible refine apn ?na ?_); (case na => simp [appNames, ints, intss] <;> first | kernel_rfl | (refine ⟨?_, ?_⟩ <;> kernel_rfl)))
          | ((with_reducible refine la_id ?_); refine la_end rfl ?_; (repeat (first | refine pl_nil ?_ | refine pl_cons ?_)))
          | ((with_reducible refine la_id ?_); refine la_pick ?_; (conv => arg 1; whnf); (repeat ((fail_if_success (first | ((refine la_q0 rfl ?_); (try (conv => arg 1; simp [Instr.cells, PV.cells, pvs, hxb, hnil])); with_reducible refine evp ?_) | ((refine la_n rfl rfl ?_); (try (conv => arg 1; simp [Instr.cells, PV.cells, pvs, hxb, hnil])); with_reducible refine evp ?_) | ((refine la_q2 rfl (by decide +kernel) ?_); (repeat (first | refine bk_nil ?_ | refine bk_t (by decide +kernel) ?_ | refine bk_f (by decide +kernel) ?_)); (try (conv => arg 1; simp [Instr.cells, PV.cells, pvs, hxb, hnil])); with_reducible refine evp ?_) | ((refine la_q1 rfl (by decide +kernel) ?_); (try (conv => arg 1; simp [Instr.cells, PV.cells, pvs, hxb, hnil])); with_reducible refine evp ?_) | ((refine la_g0 rfl ?_); (try (conv => arg 1; simp [Instr.cells, PV.cells, pvs, hxb, hnil])); with_reducible refine evp ?_; (with_reducible refine evp ?_); try ((try (conv => arg 1; simp [Instr.cells, PV.cells, pvs, hxb, hnil])); with_reducible refine evp ?_)))); (refine la_there ?_); (conv => arg 1; whnf))); first | ((refine la_q0 rfl ?_); (try (conv => arg 1; simp [Instr.cells, PV.cells, pvs, hxb, hnil])); with_reducible refine evp ?_) | ((refine la_n rfl rfl ?_); (try (conv => arg 1; simp [Instr.cells, PV.cells, pvs, hxb, hnil])); with_reducible refine evp ?_) | ((refine la_q2 rfl (by decide +kernel) ?_); (repeat (first | refine bk_nil ?_ | refine bk_t (by decide +kernel) ?_ | refine bk_f (by decide +kernel) ?_)); (try (conv => arg 1; simp [Instr.cells, PV.cells, pvs, hxb, hnil])); with_reducible refine evp ?_) | ((refine la_q1 rfl (by decide +kernel) ?_); (try (conv => arg 1; simp [Instr.cells, PV.cells, pvs, hxb, hnil])); with_reducible refine evp ?_) | ((refine la_g0 rfl ?_); (try (conv => arg 1; simp [Instr.cells, PV.cells, pvs, hxb, hnil])); with_reducible refine evp ?_; (with_reducible refine evp ?_); try ((try (conv => arg 1; simp [Instr.cells, PV.cells, pvs, hxb, hnil])); with_reducible refine evp ?_)))
          | ((with_reducible refine la_id ?_); refine la_all rfl ?_)
          | ((with_reducible refine all_id ?_); (conv => arg 1; whnf); first | exact all_nil | refine all_cons ?_ ?_)
          | (refine la_op rfl (by first | exact frm_s (by decide +kernel) | exact frm_a (by repeat' (first | exact fa_nil | refine fa_cons (by decide +kernel) ?_))) (by intro hq; first | exact trivial | (cases hq; done) | simp [appT, Instr.cells, PV.cells, pvs, hxb, hnil]) ?_; (repeat (first | refine bk_nil ?_ | refine bk_t (by decide +kernel) ?_ | refine bk_f (by decide +kernel) ?_)))
         | fail)
        all_goals
          refine ⟨rfl, by simp [pvs], by simp, by simp, by simp, by simp, ?_⟩
          have y0 := (((Cx.mt (T := T)).next.box_one (T := T) (i := 0) (r := ⟨0, 7, [[.int .i64 3, .int .i64 D, .int .i64 A, .int .i64 b, .int .i64 C, .int .i64 N, .str Text]]⟩) Cx.mt.off (by simp)).box_add (n := (T, 1, 0)) (r := ⟨0, 4, [[.int .i64 0, .int .i64 0, .int .i64 0, .int .i64 0]]⟩) (by simp [nms]) (by simp)).next.next
          have y1 := (y0.box_one (T := T + 1 + 1) (i := 9) (r := ⟨0, 2, [[.int .i64 0, .int .i64 0]]⟩) (fun n hn e => by simp [nms] at hn; rcases hn with rfl | rfl <;> simp at e) (by simp)).box_add (n := (T + 1 + 1, 10, 0)) (r := ⟨0, 2, [[.int .i64 0, .int .i64 0]]⟩) (by simp [nms]) (by simp)
          exact Cx.to y1
      case ck =>
        rintro σ h' ⟨s0, s3, s4, s5, s6, x⟩
        have bx := x.bxs
        simp only [Bxs] at bx
        rcases hA with rfl | ⟨a, rfl, ha⟩
        · rw [show plOf ⟨3, D, -1, (b : Int), C, N, Text⟩ st = ⟨N, min (-1) bb, max (-1) bb, w64 bo⟩ by simp [plOf, egb]]
          repeat' (first
           | with_reducible refine stp ?_
           | with_reducible refine k_blk_o rfl ?_
           | with_reducible refine k_seq_n ?_
           | ((try (conv => arg 1; simp [s0, s3, s4, s5, s6, bx, PV.cells, mm_min, mm_max, ltS, nm_ne, tk_ne])); with_reducible refine evp ?_)
           | ((with_reducible refine apn ?na ?_); (case na => simp [appNames, ints, intss] <;> first | kernel_rfl | (refine ⟨?_, ?_⟩ <;> kernel_rfl)))
           | fail)
          exact dr_agg (drs_plc ⟨_, _, _, _⟩)
        · have hxa : st[a]? = some st[a] := by simp
          have ega := getS_at ha
          generalize st[a] = va at hxa ega
          obtain ⟨ab, ao⟩ := va
          rw [show plOf ⟨3, D, (a : Int), (b : Int), C, N, Text⟩ st = ⟨N, min ab bb, max ab bb, w64 (ao + bo)⟩ by simp only [plOf, if_pos (show (3 : Int) = 3 ∨ (3 : Int) = 4 by omega), egb, ega]; rfl]
          repeat' (first
           | with_reducible refine stp ?_
           | with_reducible refine k_blk_o rfl ?_
           | with_reducible refine k_seq_n ?_
           | ((try (conv => arg 1; simp [s0, s3, s4, s5, s6, bx, pvs, hxa, PV.cells, mm_min, mm_max, ltS, nm_ne, tk_ne])); with_reducible refine evp ?_)
           | ((with_reducible refine apn ?na ?_); (case na => simp [appNames, ints, intss] <;> first | kernel_rfl | (refine ⟨?_, ?_⟩ <;> kernel_rfl)))
           | fail)
          repeat (with_reducible first | refine stp ?_ | refine k_seq_n ?_)
          refine st_draw 8 (fun _ => false) (by kernel_rfl) ?_
          simp only [List.take_succ_cons, List.take_zero, List.drop_succ_cons, List.drop_zero, List.take_nil, List.drop_nil]
          repeat' (first
           | with_reducible refine stp ?_
           | with_reducible refine k_blk_o rfl ?_
           | with_reducible refine k_seq_n ?_
           | ((try (conv => arg 1; simp [s0, s3, s4, s5, s6, bx, maskR, pvs, hxa, PV.cells, mm_min, mm_max, ltS, nm_ne, tk_ne])); with_reducible refine evp ?_)
           | ((with_reducible refine apn ?na ?_); (case na => simp [appNames, ints, intss] <;> first | kernel_rfl | (refine ⟨?_, ?_⟩ <;> kernel_rfl)))
           | fail)
          exact dr_agg (drs_plc ⟨_, _, _, _⟩)
    · skip
      repeat' (first
       | with_reducible refine stp ?_
       | with_reducible refine k_blk_o rfl ?_
       | with_reducible refine k_seq_n ?_
       | ((try (conv => arg 1; simp [Instr.cells, PV.cells, h3])); with_reducible refine evp ?_)
       | ((with_reducible refine apn ?na ?_); (case na => simp [appNames, ints, intss] <;> first | kernel_rfl | (refine ⟨?_, ?_⟩ <;> kernel_rfl)))
       | fail)
      repeat (with_reducible first | refine stp ?_ | refine k_seq_n ?_)
      refine st_cut (fun σ h' => σ 0 = .tptr true [pvs true st, .int .i64 nx] ∧ σ 3 = .ptr (T, 0, 0) 0 0 0 ∧ σ 4 = .ptr (T, 1, 0) 0 0 0 ∧ σ 5 = .ptr (T + 1 + 1, 9, 0) 0 0 0 ∧ σ 6 = .ptr (T + 1 + 1, 10, 0) 0 0 0 ∧
          Cx h' [((T + 1 + 1, 10, 0), ⟨0, 2, [[.int .i64 bb, .int .i64 bo]]⟩), ((T + 1 + 1, 9, 0), ⟨0, 2, [[.int .i64 (-1), .int .i64 0]]⟩), ((T, 1, 0), ⟨0, 4, [[.int .i64 0, .int .i64 0, .int .i64 0, .int .i64 0]]⟩), ((T, 0, 0), ⟨0, 7, [[.int .i64 4, .int .i64 D, .int .i64 A, .int .i64 b, .int .i64 C, .int .i64 N, .str Text]]⟩)] []) ?cw ?ck
      case cw =>
        repeat (with_reducible first | refine stp ?_ | refine k_seq_n ?_)
        refine st_lz (by kernel_rfl) ?_
        repeat' (first
         | with_reducible refine stp ?_
         | with_reducible refine k_blk_o rfl ?_
         | ((try (conv => arg 1; simp [Instr.cells, PV.cells, pvs, hxb, hnil])); with_reducible refine evp ?_)
         | ((with_reducible refine apn ?na ?_); (case na => simp [appNames, ints, intss] <;> first | kernel_rfl | (refine ⟨?_, ?_⟩ <;> kernel_rfl)))
          | ((with_reducible refine la_id ?_); refine la_end rfl ?_; (repeat (first | refine pl_nil ?_ | refine pl_cons ?_)))
          | ((with_reducible refine la_id ?_); refine la_pick ?_; (conv => arg 1; whnf); (repeat ((fail_if_success (first | ((refine la_q0 rfl ?_); (try (conv => arg 1; simp [Instr.cells, PV.cells, pvs, hxb, hnil])); with_reducible refine evp ?_) | ((refine la_n rfl rfl ?_); (try (conv => arg 1; simp [Instr.cells, PV.cells, pvs, hxb, hnil])); with_reducible refine evp ?_) | ((refine la_q2 rfl (by decide +kernel) ?_); (repeat (first | refine bk_nil ?_ | refine bk_t (by decide +kernel) ?_ | refine bk_f (by decide +kernel) ?_)); (try (conv => arg 1; simp [Instr.cells, PV.cells, pvs, hxb, hnil])); with_reducible refine evp ?_) | ((refine la_q1 rfl (by decide +kernel) ?_); (try (conv => arg 1; simp [Instr.cells, PV.cells, pvs, hxb, hnil])); with_reducible refine evp ?_) | ((refine la_g0 rfl ?_); (try (conv => arg 1; simp [Instr.cells, PV.cells, pvs, hxb, hnil])); with_reducible refine evp ?_; (with_reducible refine evp ?_); try ((try (conv => arg 1; simp [Instr.cells, PV.cells, pvs, hxb, hnil])); with_reducible refine evp ?_)))); (refine la_there ?_); (conv => arg 1; whnf))); first | ((refine la_q0 rfl ?_); (try (conv => arg 1; simp [Instr.cells, PV.cells, pvs, hxb, hnil])); with_reducible refine evp ?_) | ((refine la_n rfl rfl ?_); (try (conv => arg 1; simp [Instr.cells, PV.cells, pvs, hxb, hnil])); with_reducible refine evp ?_) | ((refine la_q2 rfl (by decide +kernel) ?_); (repeat (first | refine bk_nil ?_ | refine bk_t (by decide +kernel) ?_ | refine bk_f (by decide +kernel) ?_)); (try (conv => arg 1; simp [Instr.cells, PV.cells, pvs, hxb, hnil])); with_reducible refine evp ?_) | ((refine la_q1 rfl (by decide +kernel) ?_); (try (conv => arg 1; simp [Instr.cells, PV.cells, pvs, hxb, hnil])); with_reducible refine evp ?_) | ((refine la_g0 rfl ?_); (try (conv => arg 1; simp [Instr.cells, PV.cells, pvs, hxb, hnil])); with_reducible refine evp ?_; (with_reducible refine evp ?_); try ((try (conv => arg 1; simp [Instr.cells, PV.cells, pvs, hxb, hnil])); with_reducible refine evp ?_)))
          | ((with_reducible refine la_id ?_); refine la_all rfl ?_)
          | ((with_reducible refine all_id ?_); (conv => arg 1; whnf); first | exact all_nil | refine all_cons ?_ ?_)
          | (refine la_op rfl (by first | exact frm_s (by decide +kernel) | exact frm_a (by repeat' (first | exact fa_nil | refine fa_cons (by decide +kernel) ?_))) (by intro hq; first | exact trivial | (cases hq; done) | simp [appT, Instr.cells, PV.cells, pvs, hxb, hnil]) ?_; (repeat (first | refine bk_nil ?_ | refine bk_t (by decide +kernel) ?_ | refine bk_f (by decide +kernel) ?_)))
         | fail)
        all_goals
          refine ⟨rfl, by simp [pvs], by simp, by simp, by simp, by simp, ?_⟩
          have y0 := (((Cx.mt (T := T)).next.box_one (T := T) (i := 0) (r := ⟨0, 7, [[.int .i64 4, .int .i64 D, .int .i64 A, .int .i64 b, .int .i64 C, .int .i64 N, .str Text]]⟩) Cx.mt.off (by simp)).box_add (n := (T, 1, 0)) (r := ⟨0, 4, [[.int .i64 0, .int .i64 0, .int .i64 0, .int .i64 0]]⟩) (by simp [nms]) (by simp)).next.next
          have y1 := (y0.box_one (T := T + 1 + 1) (i := 9) (r := ⟨0, 2, [[.int .i64 0, .int .i64 0]]⟩) (fun n hn e => by simp [nms] at hn; rcases hn with rfl | rfl <;> simp at e) (by simp)).box_add (n := (T + 1 + 1, 10, 0)) (r := ⟨0, 2, [[.int .i64 0, .int .i64 0]]⟩) (by simp [nms]) (by simp)
          exact Cx.to y1
      case ck =>
        rintro σ h' ⟨s0, s3, s4, s5, s6, x⟩
        have bx := x.bxs
        simp only [Bxs] at bx
        rcases hA with rfl | ⟨a, rfl, ha⟩
        · rw [show plOf ⟨4, D, -1, (b : Int), C, N, Text⟩ st = ⟨N, min (-1) bb, max (-1) bb, w64 bo⟩ by simp [plOf, egb]]
          repeat' (first
           | with_reducible refine stp ?_
           | with_reducible refine k_blk_o rfl ?_
           | with_reducible refine k_seq_n ?_
           | ((try (conv => arg 1; simp [s0, s3, s4, s5, s6, bx, PV.cells, mm_min, mm_max, ltS, nm_ne, tk_ne])); with_reducible refine evp ?_)
           | ((with_reducible refine apn ?na ?_); (case na => simp [appNames, ints, intss] <;> first | kernel_rfl | (refine ⟨?_, ?_⟩ <;> kernel_rfl)))
           | fail)
          exact dr_agg (drs_plc ⟨_, _, _, _⟩)
        · have hxa : st[a]? = some st[a] := by simp
          have ega := getS_at ha
          generalize st[a] = va at hxa ega
          obtain ⟨ab, ao⟩ := va
          rw [show plOf ⟨4, D, (a : Int), (b : Int), C, N, Text⟩ st = ⟨N, min ab bb, max ab bb, w64 (ao + bo)⟩ by simp only [plOf, if_pos (show (4 : Int) = 3 ∨ (4 : Int) = 4 by omega), egb, ega]; rfl]
          repeat' (first
           | with_reducible refine stp ?_
           | with_reducible refine k_blk_o rfl ?_
           | with_reducible refine k_seq_n ?_
           | ((try (conv => arg 1; simp [s0, s3, s4, s5, s6, bx, pvs, hxa, PV.cells, mm_min, mm_max, ltS, nm_ne, tk_ne])); with_reducible refine evp ?_)
           | ((with_reducible refine apn ?na ?_); (case na => simp [appNames, ints, intss] <;> first | kernel_rfl | (refine ⟨?_, ?_⟩ <;> kernel_rfl)))
           | fail)
          repeat (with_reducible first | refine stp ?_ | refine k_seq_n ?_)
          refine st_draw 8 (fun _ => false) (by kernel_rfl) ?_
          simp only [List.take_succ_cons, List.take_zero, List.drop_succ_cons, List.drop_zero, List.take_nil, List.drop_nil]
          repeat' (first
           | with_reducible refine stp ?_
           | with_reducible refine k_blk_o rfl ?_
           | with_reducible refine k_seq_n ?_
           | ((try (conv => arg 1; simp [s0, s3, s4, s5, s6, bx, maskR, pvs, hxa, PV.cells, mm_min, mm_max, ltS, nm_ne, tk_ne])); with_reducible refine evp ?_)
           | ((with_reducible refine apn ?na ?_); (case na => simp [appNames, ints, intss] <;> first | kernel_rfl | (refine ⟨?_, ?_⟩ <;> kernel_rfl)))
           | fail)
          exact dr_agg (drs_plc ⟨_, _, _, _⟩)
  · have h3 : ¬ Op = 3 := fun e => h34 (.inl e)
    have h4 : ¬ Op = 4 := fun e => h34 (.inr e)
    rw [show plOf ⟨Op, D, A, B, C, N, Text⟩ st = ⟨-1, 0, 0, 0⟩ by simp [plOf, h3, h4]]
    repeat' (first
     | with_reducible refine stp ?_
     | with_reducible refine k_blk_o rfl ?_
     | with_reducible refine k_seq_n ?_
     | ((try (conv => arg 1; simp [Instr.cells, h3, h4])); with_reducible refine evp ?_)
     | ((with_reducible refine apn ?na ?_); (case na => simp [appNames, ints, intss] <;> first | kernel_rfl | (refine ⟨?_, ?_⟩ <;> kernel_rfl)))
     | fail)
    exact dr_agg (drs_plc ⟨_, _, _, _⟩)
end Go.Proofs.Ytlmlkkkgcbpaoaa.AM

/-
  Places: the program's value and step.
-/
set_option linter.unusedVariables false
set_option linter.unusedSimpArgs false
set_option maxRecDepth 4000
namespace Go.Proofs.Ytlmlkkkgcbpaoaa.AM
open Go.RowKit

private def MG40 : FuncId → Mode := fun f => if f = 129 then .heap else .tree

def valR (nx : Int) : Option PV → PV × Int
  | some v => (v, nx)
  | none => (⟨nx, 0⟩, nx + 1)
set_option maxHeartbeats 8000000 in
theorem valueK (x : Instr) (st : List PV) (nx : Int) (hx : InOk st.length x) (h4 : ¬ x.Op = 4) (h6 : ¬ x.Op = 6) (hn : 0 ≤ nx ∧ nx ≤ 2 ^ 40) {h : Hp} {bs : Bx} {os : Ox} {kn k : Nm} {ver : Nat} {E : List (List AV)} (hat : ∀ i, i < st.length → E[i]? = some (getS st i).cells)
    (y : Cx h ((kn, ⟨0, 2, [[.sl k ver 0 st.length, .int .i64 nx]]⟩) :: (k, ⟨ver, 2, E⟩) :: bs) os) :
    Sound Try.prog 129 [.ptr kn 0 0 0, .agg x.cells] h fun v h' => v = .agg (valR nx (stVal x st)).1.cells ∧ Cx h' ((kn, ⟨0, 2, [[.sl k ver 0 st.length, .int .i64 (valR nx (stVal x st)).2]]⟩) :: (k, ⟨ver, 2, E⟩) :: bs) os := by
  obtain ⟨Op, D, A, B, C, N, Text⟩ := x
  have hnil : True := trivial
  have hw : IntKind.i64.wrap (nx + 1) = nx + 1 := wrap_id (by omega) (by omega)
  have hw1 : IntKind.i64.wrap (nx + 1 - 1) = nx := by rw [wrap_id (by omega) (by omega)]; omega
  have hw2 : IntKind.i64.wrap nx = nx := wrap_id (by omega) (by omega)
  have hop := hx.op
  have hA := hx.a
  have hB := hx.b
  simp only at hop hA hB h4 h6
  have b := y.bxs
  simp only [Bxs] at b
  have apk : k.1 < h.tick := b.2.2.2.1
  have apn : kn.1 < h.tick := b.2.1
  have apx : ¬ k = kn ∧ ¬ kn = k := by have ap := y.aps; simp only [List.map_cons, List.map_nil, Aps] at ap; exact ⟨(ap.1 k (by simp)).2, (ap.1 k (by simp)).1⟩
  have hk5 : ¬ k.1 = h.tick + 1 + 1 + 1 + 1 + 1 := by omega
  have hn5 : ¬ kn.1 = h.tick + 1 + 1 + 1 + 1 + 1 := by omega
  have hk4 : ¬ k.1 = h.tick + 1 + 1 + 1 + 1 := by omega
  have hn4 : ¬ kn.1 = h.tick + 1 + 1 + 1 + 1 := by omega
  have apk5 : k.1 < h.tick + 1 + 1 + 1 + 1 + 1 := by omega
  have apn5 : kn.1 < h.tick + 1 + 1 + 1 + 1 + 1 := by omega
  refine enter mixed MG40 Try.func129 rfl (by kernel_rfl) rfl ?_
  rcases hop with h0 | h0 | h0 | h0 | h0 | h0 | h0
  · have e : stVal ⟨Op, D, A, B, C, N, Text⟩ st = some ⟨-1, N⟩ := by simp [stVal, h0]
    rw [e]
    repeat' (first
     | with_reducible refine stp ?_
     | with_reducible refine k_blk_o rfl ?_
     | with_reducible refine k_seq_n ?_
     | ((try (conv => arg 1; simp [Instr.cells, PV.cells, h0, b, ltS, nm_ne, tk_ne])); with_reducible refine evp ?_)
     | ((with_reducible refine apn ?na ?_); (case na => simp [appNames, ints, intss] <;> first | kernel_rfl | (refine ⟨?_, ?_⟩ <;> kernel_rfl)))
     | fail)
    exact ⟨rfl, Cx.to y⟩
  · obtain ⟨a, rfl, ha⟩ := hA (.inl h0)
    have ha0 := hat a ha
    have e : stVal ⟨Op, D, a, B, C, N, Text⟩ st = some (getS st a) := by simp [stVal, h0]
    rw [e]
    generalize getS st a = va at *
    repeat' (first
     | with_reducible refine stp ?_
     | with_reducible refine k_blk_o rfl ?_
     | with_reducible refine k_seq_n ?_
     | ((try (conv => arg 1; simp [Instr.cells, PV.cells, h0, b, ha0, ha, ltS, nm_ne, tk_ne])); with_reducible refine evp ?_)
     | ((with_reducible refine apn ?na ?_); (case na => simp [appNames, ints, intss] <;> first | kernel_rfl | (refine ⟨?_, ?_⟩ <;> kernel_rfl)))
     | fail)
    repeat (with_reducible first | refine stp ?_ | refine k_seq_n ?_)
    refine st_draw 8 (fun _ => false) (by kernel_rfl) ?_
    simp only [List.take_succ_cons, List.take_zero, List.drop_succ_cons, List.drop_zero, List.take_nil, List.drop_nil]
    repeat' (first
     | with_reducible refine stp ?_
     | with_reducible refine k_blk_o rfl ?_
     | with_reducible refine k_seq_n ?_
     | ((try (conv => arg 1; simp [Instr.cells, PV.cells, h0, b, apk, apn, apx.1, apx.2, ha0, ha, ltS, nm_ne, tk_ne, maskR, hk4, hn4])); with_reducible refine evp ?_)
     | ((with_reducible refine apn ?na ?_); (case na => simp [appNames, ints, intss] <;> first | kernel_rfl | (refine ⟨?_, ?_⟩ <;> kernel_rfl)))
     | fail)
    exact ⟨rfl, Cx.to y⟩
  · subst h0
    obtain ⟨a, rfl, ha⟩ := hA (.inr rfl)
    obtain ⟨bb, rfl, hb⟩ := hB (.inl rfl)
    have ha0 := hat a ha
    have hb0 := hat bb hb
    have e : stVal ⟨2, D, a, bb, C, N, Text⟩ st = bin2 Text (getS st a) (getS st bb) := by simp [stVal]
    rw [e]
    clear e
    generalize getS st a = va at *
    generalize getS st bb = vb at *
    have y0 := y.next.box_one (T := h.tick) (i := 0) (r := ⟨0, 7, [[.int .i64 2, .int .i64 D, .int .i64 a, .int .i64 bb, .int .i64 C, .int .i64 N, .str Text]]⟩) y.off (by simp)
    have y1 := y0.box_add (n := (h.tick, 1, 0)) (r := ⟨0, 2, [[.int .i64 0, .int .i64 0]]⟩) (by rw [nms_box]; simp; exact fun e => y.off _ e rfl) (by simp)
    have y2 := (y1.next.next.next.next.next.box_one (T := h.tick + 1 + 1 + 1 + 1 + 1) (i := 16) (r := ⟨0, 2, [[.int .i64 0, .int .i64 0]]⟩) (fun m hm e => by have := y1.lt m hm; simp at this; omega) (by simp))
    have y3 := y2.box_add (n := (h.tick + 1 + 1 + 1 + 1 + 1, 17, 0)) (r := ⟨0, 2, [[.int .i64 0, .int .i64 0]]⟩) (by rw [nms_box]; simp; exact fun e => by have := y1.lt _ e; simp at this; omega) (by simp)
    repeat' (first
     | with_reducible refine stp ?_
     | with_reducible refine k_blk_o rfl ?_
     | with_reducible refine k_seq_n ?_
     | ((try (conv => arg 1; simp [Instr.cells, b, ha0, ha, hb0, hb, ltS, nm_ne, tk_ne])); with_reducible refine evp ?_)
     | ((with_reducible refine apn ?na ?_); (case na => simp [appNames, ints, intss] <;> first | kernel_rfl | (refine ⟨?_, ?_⟩ <;> kernel_rfl)))
     | fail)
    repeat (with_reducible first | refine stp ?_ | refine k_seq_n ?_)
    refine st_cut (fun σ h' => σ 0 = .ptr kn 0 0 0 ∧ σ 3 = .ptr (h.tick, 0, 0) 0 0 0 ∧ σ 4 = .ptr (h.tick, 1, 0) 0 0 0 ∧ σ 5 = .ptr (h.tick + 1 + 1 + 1 + 1 + 1, 16, 0) 0 0 0 ∧ σ 6 = .ptr (h.tick + 1 + 1 + 1 + 1 + 1, 17, 0) 0 0 0 ∧
      Cx h' (((h.tick + 1 + 1 + 1 + 1 + 1, 17, 0), ⟨0, 2, [vb.cells]⟩) :: ((h.tick + 1 + 1 + 1 + 1 + 1, 16, 0), ⟨0, 2, [va.cells]⟩) :: ((h.tick, 1, 0), ⟨0, 2, [[.int .i64 0, .int .i64 0]]⟩) :: ((h.tick, 0, 0), ⟨0, 7, [[.int .i64 2, .int .i64 D, .int .i64 a, .int .i64 bb, .int .i64 C, .int .i64 N, .str Text]]⟩) :: (kn, ⟨0, 2, [[.sl k ver 0 st.length, .int .i64 nx]]⟩) :: (k, ⟨ver, 2, E⟩) :: bs) os) ?cw ?ck
    case cw =>
      repeat (with_reducible first | refine stp ?_ | refine k_seq_n ?_)
      refine st_lz (by kernel_rfl) ?_
      have hF := And.intro b (And.intro ha0 (And.intro ha (And.intro hb0 (And.intro hb (And.intro hk5 (And.intro hn5 (And.intro apk5 apn5)))))))
      repeat' (first
       | with_reducible refine stp ?_
       | with_reducible refine k_blk_o rfl ?_
       | ((try (conv => arg 1; simp [Instr.cells, PV.cells, ltS, nm_ne, tk_ne, hF])); with_reducible refine evp ?_)
       | ((with_reducible refine apn ?na ?_); (case na => simp [appNames, ints, intss] <;> first | kernel_rfl | (refine ⟨?_, ?_⟩ <;> kernel_rfl)))
        | ((with_reducible refine la_id ?_); refine la_end rfl ?_; (repeat (first | refine pl_nil ?_ | refine pl_cons ?_)))
        | ((with_reducible refine la_id ?_); refine la_pick ?_; (conv => arg 1; whnf); (repeat ((fail_if_success (first | ((refine la_q0 rfl ?_); (try (conv => arg 1; simp [Instr.cells, PV.cells, ltS, nm_ne, tk_ne, hF])); with_reducible refine evp ?_) | ((refine la_n rfl rfl ?_); (try (conv => arg 1; simp [Instr.cells, PV.cells, ltS, nm_ne, tk_ne, hF])); with_reducible refine evp ?_) | ((refine la_q2 rfl (by decide +kernel) ?_); (repeat (first | refine bk_nil ?_ | refine bk_t (by decide +kernel) ?_ | refine bk_f (by decide +kernel) ?_)); (try (conv => arg 1; simp [Instr.cells, PV.cells, ltS, nm_ne, tk_ne, hF])); with_reducible refine evp ?_) | ((refine la_q1 rfl (by decide +kernel) ?_); (try (conv => arg 1; simp [Instr.cells, PV.cells, ltS, nm_ne, tk_ne, hF])); with_reducible refine evp ?_) | ((refine la_g0 rfl ?_); (try (conv => arg 1; simp [Instr.cells, PV.cells, ltS, nm_ne, tk_ne, hF])); with_reducible refine evp ?_; (with_reducible refine evp ?_); try ((try (conv => arg 1; simp [Instr.cells, PV.cells, ltS, nm_ne, tk_ne, hF])); with_reducible refine evp ?_)))); (refine la_there ?_); (conv => arg 1; whnf))); first | ((refine la_q0 rfl ?_); (try (conv => arg 1; simp [Instr.cells, PV.cells, ltS, nm_ne, tk_ne, hF])); with_reducible refine evp ?_) | ((refine la_n rfl rfl ?_); (try (conv => arg 1; simp [Instr.cells, PV.cells, ltS, nm_ne, tk_ne, hF])); with_reducible refine evp ?_) | ((refine la_q2 rfl (by decide +kernel) ?_); (repeat (first | refine bk_nil ?_ | refine bk_t (by decide +kernel) ?_ | refine bk_f (by decide +kernel) ?_)); (try (conv => arg 1; simp [Instr.cells, PV.cells, ltS, nm_ne, tk_ne, hF])); with_reducible refine evp ?_) | ((refine la_q1 rfl (by decide +kernel) ?_); (try (conv => arg 1; simp [Instr.cells, PV.cells, ltS, nm_ne, tk_ne, hF])); with_reducible refine evp ?_) | ((refine la_g0 rfl ?_); (try (conv => arg 1; simp [Instr.cells, PV.cells, ltS, nm_ne, tk_ne, hF])); with_reducible refine evp ?_; (with_reducible refine evp ?_); try ((try (conv => arg 1; simp [Instr.cells, PV.cells, ltS, nm_ne, tk_ne, hF])); with_reducible refine evp ?_)))
        | ((with_reducible refine la_id ?_); refine la_all rfl ?_)
        | ((with_reducible refine all_id ?_); (conv => arg 1; whnf); first | exact all_nil | refine all_cons ?_ ?_)
        | (refine la_op rfl (by first | exact frm_s (by decide +kernel) | exact frm_a (by repeat' (first | exact fa_nil | refine fa_cons (by decide +kernel) ?_))) (by intro hq; first | exact trivial | (cases hq; done) | simp [appT, Instr.cells, PV.cells, ltS, nm_ne, tk_ne, hF]) ?_; (repeat (first | refine bk_nil ?_ | refine bk_t (by decide +kernel) ?_ | refine bk_f (by decide +kernel) ?_)))
       | fail)
      all_goals exact ⟨rfl, by simp, by simp, by simp, by simp, by simp, Cx.to y3⟩
    case ck =>
      rintro σ h' ⟨s0, s3, s4, s5, s6, z⟩
      have zb := z.bxs
      simp only [Bxs] at zb
      have fin : ∀ {h' : Hp} {r1 r2 r3 r4 r5 : Row}, Cx h' (((h.tick + 1 + 1 + 1 + 1 + 1, 17, 0), r1) :: ((h.tick + 1 + 1 + 1 + 1 + 1, 16, 0), r2) :: ((h.tick, 1, 0), r3) :: ((h.tick, 0, 0), r4) :: (kn, r5) :: (k, ⟨ver, 2, E⟩) :: bs) os → Cx h' ((kn, r5) :: (k, ⟨ver, 2, E⟩) :: bs) os := fun w => w.box_drop.box_drop.box_drop.box_drop
      obtain ⟨ab, ao⟩ := va
      obtain ⟨bb, bo⟩ := vb
      have B := implBin Text ao bo
      by_cases ha : ab = -1
      · by_cases hb : bb = -1
        · skip
          repeat' (first
           | with_reducible refine stp ?_
           | with_reducible refine k_blk_o rfl ?_
           | with_reducible refine k_seq_n ?_
           | ((try (conv => arg 1; simp [s0, s3, s4, s5, s6, zb, PV.cells, ha, hb, ltS, nm_ne, tk_ne])); with_reducible refine evp ?_)
           | ((with_reducible refine apn ?na ?_); (case na => simp [appNames, ints, intss] <;> first | kernel_rfl | (refine ⟨?_, ?_⟩ <;> kernel_rfl)))
           | ((with_reducible refine tcl ?_); first | ((apply tg (B)); (case e => rfl); (case d => (refine dq ?_); (repeat' (first | ((refine Da.mk ?_); first | assumption) | constructor)))))
           | fail)
          rw [show bin2 Text ⟨ab, ao⟩ ⟨bb, bo⟩ = some ⟨-1, binV Text ao bo⟩ by simp [bin2, ha, hb]]
          exact ⟨rfl, fin (Cx.to z)⟩
        · by_cases h1 : isT Text [43] = true
          · have e1 := isT_t h1
            repeat' (first
             | with_reducible refine stp ?_
             | with_reducible refine k_blk_o rfl ?_
             | with_reducible refine k_seq_n ?_
             | ((try (conv => arg 1; simp [s0, s3, s4, s5, s6, zb, PV.cells, ha, hb, e1, ltS, nm_ne, tk_ne])); with_reducible refine evp ?_)
             | ((with_reducible refine apn ?na ?_); (case na => simp [appNames, ints, intss] <;> first | kernel_rfl | (refine ⟨?_, ?_⟩ <;> kernel_rfl)))
             | fail)
            rw [show bin2 Text ⟨ab, ao⟩ ⟨bb, bo⟩ = some ⟨bb, w64 (ao + bo)⟩ by simp [bin2, ha, hb, h1]]
            exact ⟨rfl, fin (Cx.to z)⟩
          · have e1 := isT_f h1
            have hab : ¬ ab = bb := fun e => hb (by rw [← e]; exact ha)
            have hab2 : ¬ -1 = bb := fun e => hb e.symm
            by_cases h2 : isT Text [45] = true
            · have e2 := isT_t h2
              rw [show bin2 Text ⟨ab, ao⟩ ⟨bb, bo⟩ = none by simp [bin2, ha, hb, h1, h2, hab2]]
              repeat' (first
               | with_reducible refine stp ?_
               | with_reducible refine k_blk_o rfl ?_
               | with_reducible refine k_seq_n ?_
               | ((try (conv => arg 1; simp [s0, s3, s4, s5, s6, zb, apn, nm_ne', PV.cells, ha, hb, e1, e2, hab, hab2, hw, hw1, hw2, ltS, nm_ne, tk_ne])); with_reducible refine evp ?_)
               | ((with_reducible refine apn ?na ?_); (case na => simp [appNames, ints, intss] <;> first | kernel_rfl | (refine ⟨?_, ?_⟩ <;> kernel_rfl)))
               | fail)
              exact ⟨rfl, fin (Cx.to z)⟩
            · have e2 := isT_f h2
              rw [show bin2 Text ⟨ab, ao⟩ ⟨bb, bo⟩ = none by simp [bin2, ha, hb, h1, h2, hab2]]
              repeat' (first
               | with_reducible refine stp ?_
               | with_reducible refine k_blk_o rfl ?_
               | with_reducible refine k_seq_n ?_
               | ((try (conv => arg 1; simp [s0, s3, s4, s5, s6, zb, apn, nm_ne', PV.cells, ha, hb, e1, e2, hab, hab2, hw, hw1, hw2, ltS, nm_ne, tk_ne])); with_reducible refine evp ?_)
               | ((with_reducible refine apn ?na ?_); (case na => simp [appNames, ints, intss] <;> first | kernel_rfl | (refine ⟨?_, ?_⟩ <;> kernel_rfl)))
               | fail)
              exact ⟨rfl, fin (Cx.to z)⟩
      · by_cases hb : bb = -1
        · have hab : ¬ ab = bb := fun e => ha (by rw [e]; exact hb)
          by_cases h1 : isT Text [43] = true
          · have e1 := isT_t h1
            repeat' (first
             | with_reducible refine stp ?_
             | with_reducible refine k_blk_o rfl ?_
             | with_reducible refine k_seq_n ?_
             | ((try (conv => arg 1; simp [s0, s3, s4, s5, s6, zb, PV.cells, ha, hb, e1, ltS, nm_ne, tk_ne])); with_reducible refine evp ?_)
             | ((with_reducible refine apn ?na ?_); (case na => simp [appNames, ints, intss] <;> first | kernel_rfl | (refine ⟨?_, ?_⟩ <;> kernel_rfl)))
             | fail)
            rw [show bin2 Text ⟨ab, ao⟩ ⟨bb, bo⟩ = some ⟨ab, w64 (ao + bo)⟩ by simp [bin2, ha, hb, h1]]
            exact ⟨rfl, fin (Cx.to z)⟩
          · have e1 := isT_f h1
            by_cases h2 : isT Text [45] = true
            · have e2 := isT_t h2
              repeat' (first
               | with_reducible refine stp ?_
               | with_reducible refine k_blk_o rfl ?_
               | with_reducible refine k_seq_n ?_
               | ((try (conv => arg 1; simp [s0, s3, s4, s5, s6, zb, PV.cells, ha, hb, e1, e2, ltS, nm_ne, tk_ne])); with_reducible refine evp ?_)
               | ((with_reducible refine apn ?na ?_); (case na => simp [appNames, ints, intss] <;> first | kernel_rfl | (refine ⟨?_, ?_⟩ <;> kernel_rfl)))
               | fail)
              rw [show bin2 Text ⟨ab, ao⟩ ⟨bb, bo⟩ = some ⟨ab, w64 (ao - bo)⟩ by simp [bin2, ha, hb, h1, h2]]
              exact ⟨rfl, fin (Cx.to z)⟩
            · have e2 := isT_f h2
              rw [show bin2 Text ⟨ab, ao⟩ ⟨bb, bo⟩ = none by simp [bin2, ha, hb, h1, h2]]
              repeat' (first
               | with_reducible refine stp ?_
               | with_reducible refine k_blk_o rfl ?_
               | with_reducible refine k_seq_n ?_
               | ((try (conv => arg 1; simp [s0, s3, s4, s5, s6, zb, apn, nm_ne', PV.cells, ha, hb, e1, e2, hw, hw1, hw2, ltS, nm_ne, tk_ne])); with_reducible refine evp ?_)
               | ((with_reducible refine apn ?na ?_); (case na => simp [appNames, ints, intss] <;> first | kernel_rfl | (refine ⟨?_, ?_⟩ <;> kernel_rfl)))
               | fail)
              exact ⟨rfl, fin (Cx.to z)⟩
        · by_cases h1 : isT Text [43] = true
          · have e1 := isT_t h1
            have h2 : ¬ isT Text [45] = true := by simp [isT, e1]
            rw [show bin2 Text ⟨ab, ao⟩ ⟨bb, bo⟩ = none by simp [bin2, ha, hb, h1, h2]]
            repeat' (first
             | with_reducible refine stp ?_
             | with_reducible refine k_blk_o rfl ?_
             | with_reducible refine k_seq_n ?_
             | ((try (conv => arg 1; simp [s0, s3, s4, s5, s6, zb, apn, nm_ne', PV.cells, ha, hb, e1, hw, hw1, hw2, ltS, nm_ne, tk_ne])); with_reducible refine evp ?_)
             | ((with_reducible refine apn ?na ?_); (case na => simp [appNames, ints, intss] <;> first | kernel_rfl | (refine ⟨?_, ?_⟩ <;> kernel_rfl)))
             | fail)
            exact ⟨rfl, fin (Cx.to z)⟩
          · have e1 := isT_f h1
            by_cases h2 : isT Text [45] = true
            · have e2 := isT_t h2
              by_cases hab : ab = bb
              · subst hab
                repeat' (first
                 | with_reducible refine stp ?_
                 | with_reducible refine k_blk_o rfl ?_
                 | with_reducible refine k_seq_n ?_
                 | ((try (conv => arg 1; simp [s0, s3, s4, s5, s6, zb, PV.cells, ha, hb, e1, e2, ltS, nm_ne, tk_ne])); with_reducible refine evp ?_)
                 | ((with_reducible refine apn ?na ?_); (case na => simp [appNames, ints, intss] <;> first | kernel_rfl | (refine ⟨?_, ?_⟩ <;> kernel_rfl)))
                 | fail)
                rw [show bin2 Text ⟨ab, ao⟩ ⟨ab, bo⟩ = some ⟨-1, w64 (ao - bo)⟩ by simp [bin2, ha, hb, h1, h2]]
                exact ⟨rfl, fin (Cx.to z)⟩
              · rw [show bin2 Text ⟨ab, ao⟩ ⟨bb, bo⟩ = none by simp [bin2, ha, hb, h1, h2, hab]]
                repeat' (first
                 | with_reducible refine stp ?_
                 | with_reducible refine k_blk_o rfl ?_
                 | with_reducible refine k_seq_n ?_
                 | ((try (conv => arg 1; simp [s0, s3, s4, s5, s6, zb, apn, nm_ne', PV.cells, ha, hb, e1, e2, hab, hw, hw1, hw2, ltS, nm_ne, tk_ne])); with_reducible refine evp ?_)
                 | ((with_reducible refine apn ?na ?_); (case na => simp [appNames, ints, intss] <;> first | kernel_rfl | (refine ⟨?_, ?_⟩ <;> kernel_rfl)))
                 | fail)
                exact ⟨rfl, fin (Cx.to z)⟩
            · have e2 := isT_f h2
              rw [show bin2 Text ⟨ab, ao⟩ ⟨bb, bo⟩ = none by simp [bin2, ha, hb, h1, h2]]
              repeat' (first
               | with_reducible refine stp ?_
               | with_reducible refine k_blk_o rfl ?_
               | with_reducible refine k_seq_n ?_
               | ((try (conv => arg 1; simp [s0, s3, s4, s5, s6, zb, apn, nm_ne', PV.cells, ha, hb, e1, e2, hw, hw1, hw2, ltS, nm_ne, tk_ne])); with_reducible refine evp ?_)
               | ((with_reducible refine apn ?na ?_); (case na => simp [appNames, ints, intss] <;> first | kernel_rfl | (refine ⟨?_, ?_⟩ <;> kernel_rfl)))
               | fail)
              exact ⟨rfl, fin (Cx.to z)⟩
  · have e : stVal ⟨Op, D, A, B, C, N, Text⟩ st = none := by simp [stVal, h0]
    rw [e]
    repeat' (first
     | with_reducible refine stp ?_
     | with_reducible refine k_blk_o rfl ?_
     | with_reducible refine k_seq_n ?_
     | ((try (conv => arg 1; simp [Instr.cells, PV.cells, h0, b, apk, apn, nm_ne', hw, hw1, hw2, ltS, nm_ne, tk_ne])); with_reducible refine evp ?_)
     | ((with_reducible refine apn ?na ?_); (case na => simp [appNames, ints, intss] <;> first | kernel_rfl | (refine ⟨?_, ?_⟩ <;> kernel_rfl)))
     | fail)
    exact ⟨rfl, Cx.to y⟩
  · exact absurd h0 h4
  · have e : stVal ⟨Op, D, A, B, C, N, Text⟩ st = none := by simp [stVal, h0]
    rw [e]
    repeat' (first
     | with_reducible refine stp ?_
     | with_reducible refine k_blk_o rfl ?_
     | with_reducible refine k_seq_n ?_
     | ((try (conv => arg 1; simp [Instr.cells, PV.cells, h0, b, apk, apn, nm_ne', hw, hw1, hw2, ltS, nm_ne, tk_ne])); with_reducible refine evp ?_)
     | ((with_reducible refine apn ?na ?_); (case na => simp [appNames, ints, intss] <;> first | kernel_rfl | (refine ⟨?_, ?_⟩ <;> kernel_rfl)))
     | fail)
    exact ⟨rfl, Cx.to y⟩
  · exact absurd h0 h6
end Go.Proofs.Ytlmlkkkgcbpaoaa.AM

/-
  Places: the program's.
-/
set_option linter.unusedVariables false
set_option linter.unusedSimpArgs false
set_option maxRecDepth 4000
namespace Go.Proofs.Ytlmlkkkgcbpaoaa.AM
open Go.RowKit

private def MG44 : FuncId → Mode := fun f => if f = 129 ∨ f = 92 ∨ f = 94 then .heap else .tree

set_option maxHeartbeats 4000000 in
theorem stepK (x : Instr) (st : List PV) (nx : Int) (hx : InOk st.length x) (hn : 0 ≤ nx ∧ nx ≤ 2 ^ 40) {h : Hp} {bs : Bx} {os : Ox} {kn : Nm} {w : AV} {ns : List Nm} (X : Cx h ((kn, ⟨0, 2, [[w, .int .i64 nx]]⟩) :: bs) ((w, (fun b => pvs b st), ns) :: os)) :
    Sound Try.prog 94 [.ptr kn 0 0 0, .agg x.cells] h fun v h' => Cx h' ((kn, ⟨0, 2, [[w, .int .i64 (stpP x (st, nx)).2]]⟩) :: bs) ((w, (fun b => pvs b (stpP x (st, nx)).1), ns) :: os) := by
  obtain ⟨Op, D, A, B, C, N, Text⟩ := x
  have hnil : True := trivial
  have Mk := makes ⟨Op, D, A, B, C, N, Text⟩
  by_cases h46 : Op = 4 ∨ Op = 6
  · have e : stpP ⟨Op, D, A, B, C, N, Text⟩ (st, nx) = (st, nx) := by simp [stpP, h46]
    rw [e]
    rw [show makesV ⟨Op, D, A, B, C, N, Text⟩ = -1 by simp [makesV, h46]] at Mk
    refine enter mixed MG44 Try.func94 rfl (by kernel_rfl) rfl ?_
    repeat' (first
     | with_reducible refine stp ?_
     | with_reducible refine k_blk_o rfl ?_
     | with_reducible refine k_seq_n ?_
     | ((try (conv => arg 1; simp [Instr.cells])); with_reducible refine evp ?_)
     | ((with_reducible refine apn ?na ?_); (case na => simp [appNames, ints, intss] <;> first | kernel_rfl | (refine ⟨?_, ?_⟩ <;> kernel_rfl)))
     | ((with_reducible refine tcl ?_); first | ((apply tg (Mk)); (case e => rfl); (case d => (refine dq ?_); (repeat' (first | ((refine Da.mk ?_); first | exact drs_instr _ | assumption) | constructor)))))
     | fail)
    exact Cx.to X
  · have h4 : ¬ Op = 4 := fun e => h46 (.inl e)
    have h6 : ¬ Op = 6 := fun e => h46 (.inr e)
    obtain ⟨d, hD, hd⟩ := hx.d h4 h6
    simp only at hD
    subst hD
    rw [show makesV ⟨Op, d, A, B, C, N, Text⟩ = d by simp [makesV, h46]] at Mk
    have hge : (0 : Int) ≤ (d : Int) := by omega
    obtain ⟨k, ver, sp, rfl, rfl, c1, c2, y⟩ := X.open_pvs (by omega)
    have e : stpP ⟨Op, d, A, B, C, N, Text⟩ (st, nx) = (st.set d (valR nx (stVal ⟨Op, d, A, B, C, N, Text⟩ st)).1, (valR nx (stVal ⟨Op, d, A, B, C, N, Text⟩ st)).2) := by
      simp only [stpP, if_neg h46, Int.toNat_natCast]
      cases stVal ⟨Op, d, A, B, C, N, Text⟩ st <;> rfl
    rw [e]
    have fin : ∀ (v : PV) (r : Row) (h' : Hp), Cx h' ((kn, r) :: (k, ⟨ver, 2, (st.map PV.cells ++ sp).set d v.cells⟩) :: bs) os → Cx h' ((kn, r) :: bs) ((.sl k ver 0 st.length, (fun b => pvs b (st.set d v)), [k]) :: os) := fun v r h' z => by
      refine Cx.close_pvs (sp := sp) ?_ c1 c2 (by simp)
      rw [List.map_set, ← List.set_append_left _ _ (by simpa using hd)]
      exact z.bperm (List.Perm.swap _ _ _)
    have hat : ∀ i, i < st.length → (st.map PV.cells ++ sp)[i]? = some (getS st i).cells := fun i hi => by
      rw [List.getElem?_append_left (by simpa using hi), pv_at hi]
    generalize st.map PV.cells ++ sp = E at *
    have y' := y.bperm (List.Perm.swap _ _ _)
    have b := y'.bxs
    simp only [Bxs] at b
    have hd0 := hat d hd
    refine enter mixed MG44 Try.func94 rfl (by kernel_rfl) rfl ?_
    repeat' (first
     | with_reducible refine stp ?_
     | with_reducible refine k_blk_o rfl ?_
     | with_reducible refine k_seq_n ?_
     | ((try (conv => arg 1; simp [Instr.cells, hge, b, ltS, nm_ne, tk_ne])); with_reducible refine evp ?_)
     | ((with_reducible refine apn ?na ?_); (case na => simp [appNames, ints, intss] <;> first | kernel_rfl | (refine ⟨?_, ?_⟩ <;> kernel_rfl)))
     | ((with_reducible refine tcl ?_); first | ((apply tg (Mk)); (case e => rfl); (case d => (refine dq ?_); (repeat' (first | ((refine Da.mk ?_); first | exact drs_instr _ | assumption) | constructor)))))
     | fail)
    repeat (with_reducible first | refine stp ?_ | refine k_seq_n ?_)
    refine st_lz (by kernel_rfl) ?_
    repeat' (first
     | with_reducible refine stp ?_
     | with_reducible refine k_blk_o rfl ?_
     | ((try (conv => arg 1; simp [Instr.cells, hge, b, ltS, nm_ne, tk_ne])); with_reducible refine evp ?_)
     | ((with_reducible refine apn ?na ?_); (case na => simp [appNames, ints, intss] <;> first | kernel_rfl | (refine ⟨?_, ?_⟩ <;> kernel_rfl)))
      | ((with_reducible refine la_id ?_); refine la_end rfl ?_; (repeat (first | refine pl_nil ?_ | refine pl_cons ?_)))
      | ((with_reducible refine la_id ?_); refine la_pick ?_; (conv => arg 1; whnf); (repeat ((fail_if_success (first | ((refine la_q0 rfl ?_); (try (conv => arg 1; simp [Instr.cells, hge, b, ltS, nm_ne, tk_ne])); with_reducible refine evp ?_) | ((refine la_n rfl rfl ?_); (try (conv => arg 1; simp [Instr.cells, hge, b, ltS, nm_ne, tk_ne])); with_reducible refine evp ?_) | ((refine la_q2 rfl (by decide +kernel) ?_); (repeat (first | refine bk_nil ?_ | refine bk_t (by decide +kernel) ?_ | refine bk_f (by decide +kernel) ?_)); (try (conv => arg 1; simp [Instr.cells, hge, b, ltS, nm_ne, tk_ne])); with_reducible refine evp ?_) | ((refine la_q1 rfl (by decide +kernel) ?_); (try (conv => arg 1; simp [Instr.cells, hge, b, ltS, nm_ne, tk_ne])); with_reducible refine evp ?_) | ((refine la_g0 rfl ?_); (try (conv => arg 1; simp [Instr.cells, hge, b, ltS, nm_ne, tk_ne])); with_reducible refine evp ?_; (with_reducible refine evp ?_); try ((try (conv => arg 1; simp [Instr.cells, hge, b, ltS, nm_ne, tk_ne])); with_reducible refine evp ?_)))); (refine la_there ?_); (conv => arg 1; whnf))); first | ((refine la_q0 rfl ?_); (try (conv => arg 1; simp [Instr.cells, hge, b, ltS, nm_ne, tk_ne])); with_reducible refine evp ?_) | ((refine la_n rfl rfl ?_); (try (conv => arg 1; simp [Instr.cells, hge, b, ltS, nm_ne, tk_ne])); with_reducible refine evp ?_) | ((refine la_q2 rfl (by decide +kernel) ?_); (repeat (first | refine bk_nil ?_ | refine bk_t (by decide +kernel) ?_ | refine bk_f (by decide +kernel) ?_)); (try (conv => arg 1; simp [Instr.cells, hge, b, ltS, nm_ne, tk_ne])); with_reducible refine evp ?_) | ((refine la_q1 rfl (by decide +kernel) ?_); (try (conv => arg 1; simp [Instr.cells, hge, b, ltS, nm_ne, tk_ne])); with_reducible refine evp ?_) | ((refine la_g0 rfl ?_); (try (conv => arg 1; simp [Instr.cells, hge, b, ltS, nm_ne, tk_ne])); with_reducible refine evp ?_; (with_reducible refine evp ?_); try ((try (conv => arg 1; simp [Instr.cells, hge, b, ltS, nm_ne, tk_ne])); with_reducible refine evp ?_)))
      | ((with_reducible refine la_id ?_); refine la_all rfl ?_)
      | ((with_reducible refine all_id ?_); (conv => arg 1; whnf); first | exact all_nil | refine all_cons ?_ ?_)
      | (refine la_op rfl (by first | exact frm_s (by decide +kernel) | exact frm_a (by repeat' (first | exact fa_nil | refine fa_cons (by decide +kernel) ?_))) (by intro hq; first | exact trivial | (cases hq; done) | simp [appT, Instr.cells, hge, b, ltS, nm_ne, tk_ne]) ?_; (repeat (first | refine bk_nil ?_ | refine bk_t (by decide +kernel) ?_ | refine bk_f (by decide +kernel) ?_)))
     | fail)
    all_goals
      refine st_heap rfl (valueK ⟨Op, d, A, B, C, N, Text⟩ st nx hx h4 h6 hn hat (Cx.to y')) ?_
      rintro v h' ⟨rfl, z⟩
      have zb := z.bxs
      simp only [Bxs] at zb
      generalize (valR nx (stVal ⟨Op, d, A, B, C, N, Text⟩ st)).1 = vv at *
      have hF := And.intro hge (And.intro hd (And.intro hd0 zb))
      repeat' (first
       | with_reducible refine stp ?_
       | with_reducible refine k_blk_o rfl ?_
       | ((try (conv => arg 1; simp [PV.cells, ltS, nm_ne, tk_ne, hF])); with_reducible refine evp ?_)
       | ((with_reducible refine apn ?na ?_); (case na => simp [appNames, ints, intss] <;> first | kernel_rfl | (refine ⟨?_, ?_⟩ <;> kernel_rfl)))
        | ((with_reducible refine la_id ?_); refine la_end rfl ?_; (repeat (first | refine pl_nil ?_ | refine pl_cons ?_)))
        | ((with_reducible refine la_id ?_); refine la_pick ?_; (conv => arg 1; whnf); (repeat ((fail_if_success (first | ((refine la_q0 rfl ?_); (try (conv => arg 1; simp [PV.cells, ltS, nm_ne, tk_ne, hF])); with_reducible refine evp ?_) | ((refine la_n rfl rfl ?_); (try (conv => arg 1; simp [PV.cells, ltS, nm_ne, tk_ne, hF])); with_reducible refine evp ?_) | ((refine la_q2 rfl (by decide +kernel) ?_); (repeat (first | refine bk_nil ?_ | refine bk_t (by decide +kernel) ?_ | refine bk_f (by decide +kernel) ?_)); (try (conv => arg 1; simp [PV.cells, ltS, nm_ne, tk_ne, hF])); with_reducible refine evp ?_) | ((refine la_q1 rfl (by decide +kernel) ?_); (try (conv => arg 1; simp [PV.cells, ltS, nm_ne, tk_ne, hF])); with_reducible refine evp ?_) | ((refine la_g0 rfl ?_); (try (conv => arg 1; simp [PV.cells, ltS, nm_ne, tk_ne, hF])); with_reducible refine evp ?_; (with_reducible refine evp ?_); try ((try (conv => arg 1; simp [PV.cells, ltS, nm_ne, tk_ne, hF])); with_reducible refine evp ?_)))); (refine la_there ?_); (conv => arg 1; whnf))); first | ((refine la_q0 rfl ?_); (try (conv => arg 1; simp [PV.cells, ltS, nm_ne, tk_ne, hF])); with_reducible refine evp ?_) | ((refine la_n rfl rfl ?_); (try (conv => arg 1; simp [PV.cells, ltS, nm_ne, tk_ne, hF])); with_reducible refine evp ?_) | ((refine la_q2 rfl (by decide +kernel) ?_); (repeat (first | refine bk_nil ?_ | refine bk_t (by decide +kernel) ?_ | refine bk_f (by decide +kernel) ?_)); (try (conv => arg 1; simp [PV.cells, ltS, nm_ne, tk_ne, hF])); with_reducible refine evp ?_) | ((refine la_q1 rfl (by decide +kernel) ?_); (try (conv => arg 1; simp [PV.cells, ltS, nm_ne, tk_ne, hF])); with_reducible refine evp ?_) | ((refine la_g0 rfl ?_); (try (conv => arg 1; simp [PV.cells, ltS, nm_ne, tk_ne, hF])); with_reducible refine evp ?_; (with_reducible refine evp ?_); try ((try (conv => arg 1; simp [PV.cells, ltS, nm_ne, tk_ne, hF])); with_reducible refine evp ?_)))
        | ((with_reducible refine la_id ?_); refine la_all rfl ?_)
        | ((with_reducible refine all_id ?_); (conv => arg 1; whnf); first | exact all_nil | refine all_cons ?_ ?_)
        | (refine la_op rfl (by first | exact frm_s (by decide +kernel) | exact frm_a (by repeat' (first | exact fa_nil | refine fa_cons (by decide +kernel) ?_))) (by intro hq; first | exact trivial | (cases hq; done) | simp [appT, PV.cells, ltS, nm_ne, tk_ne, hF]) ?_; (repeat (first | refine bk_nil ?_ | refine bk_t (by decide +kernel) ?_ | refine bk_f (by decide +kernel) ?_)))
       | fail)
      repeat' (first
       | with_reducible refine stp ?_
       | with_reducible refine k_blk_o rfl ?_
       | with_reducible refine k_seq_n ?_
       | ((try (conv => arg 1; simp [hnil])); with_reducible refine evp ?_)
       | ((with_reducible refine apn ?na ?_); (case na => simp [appNames, ints, intss] <;> first | kernel_rfl | (refine ⟨?_, ?_⟩ <;> kernel_rfl)))
       | fail)
      exact fin vv _ _ (Cx.to z)

set_option maxHeartbeats 4000000 in
theorem implPlaces (g : Graph) (d : g.Small) (hg : graphOk g = true) {i : Nat} (hi : i < g.Blocks.length) : Pure Try.prog 59 [.agg (g.cells true), .int .i64 i] (plcs false (plcsOf g.Slots.toNat g.Blocks[i].Code)) := by
  intro T
  have hln := d.len
  have hcl : g.Blocks[i].Code.length ≤ 2 ^ 20 := by have := d.code _ (List.getElem_mem hi); omega
  obtain ⟨ns, hns, hns1, hco⟩ := code_in hg hi
  have hst : g.Slots.toNat = ns := by omega
  rw [hst]
  have hblk : g.Blocks[i]? = some g.Blocks[i] := by simp
  have hblen := block_len true g.Blocks[i]
  refine enter mixed MG44 Try.func59 rfl (by kernel_rfl) rfl ?_
  repeat' (first
   | with_reducible refine stp ?_
   | with_reducible refine k_blk_o rfl ?_
   | ((try (conv => arg 1; simp [Graph.cells])); with_reducible refine evp ?_)
   | ((with_reducible refine apn ?na ?_); (case na => simp [appNames, ints, intss] <;> first | kernel_rfl | (refine ⟨?_, ?_⟩ <;> kernel_rfl)))
   | fail)
  refine cx_k (Cx.mt.next.box_one (T := T) (i := 0) Cx.mt.off (by simp)) ?_
  intro h1 x1
  have b1 := x1.bxs
  simp only [Bxs] at b1
  repeat' (first
   | with_reducible refine stp ?_
   | with_reducible refine k_blk_o rfl ?_
   | with_reducible refine k_seq_n ?_
   | ((try (conv => arg 1; simp [b1, ltS, nm_ne, tk_ne])); with_reducible refine evp ?_)
   | ((with_reducible refine apn ?na ?_); (case na => simp [appNames, ints, intss] <;> first | kernel_rfl | (refine ⟨?_, ?_⟩ <;> kernel_rfl)))
   | fail)
  refine st_heap rfl (newKnowing g hns hns1 (Cx.to x1)) ?_
  rintro v h2 ⟨kn, w, m, rfl, x2⟩
  repeat' (first
   | with_reducible refine stp ?_
   | with_reducible refine k_blk_o rfl ?_
   | ((try (conv => arg 1; simp [b1])); with_reducible refine evp ?_)
   | ((with_reducible refine apn ?na ?_); (case na => simp [appNames, ints, intss] <;> first | kernel_rfl | (refine ⟨?_, ?_⟩ <;> kernel_rfl)))
   | fail)
  refine cx_k x2 ?_
  intro h3 x3
  repeat' (first
   | with_reducible refine stp ?_
   | with_reducible refine k_blk_o rfl ?_
   | ((try (conv => arg 1; simp [b1])); with_reducible refine evp ?_)
   | ((with_reducible refine apn ?na ?_); (case na => simp [appNames, ints, intss] <;> first | kernel_rfl | (refine ⟨?_, ?_⟩ <;> kernel_rfl)))
   | fail)
  have x4 := (x3.next.box_one (T := h3.tick) (i := 0) (r := ⟨0, 4, []⟩) x3.off (by simp)).bperm (List.Perm.swap _ _ _)
  refine cx_k x4 ?_
  intro h4 x5
  have q3 := own_pvs (x5.o0 true)
  have b3 := x5.bxs
  simp only [Bxs, graphRow] at b3
  repeat' (first
   | with_reducible refine stp ?_
   | with_reducible refine k_blk_o rfl ?_
   | with_reducible refine k_seq_n ?_
   | ((try (conv => arg 1; simp [b3, blocks, hblk, hblen, Block.cells, hi, ltS, nm_ne, tk_ne])); with_reducible refine evp ?_)
   | ((with_reducible refine apn ?na ?_); (case na => simp [appNames, ints, intss] <;> first | kernel_rfl | (refine ⟨?_, ?_⟩ <;> kernel_rfl)))
   | fail)
  generalize hC : g.Blocks[i].Code = code at *
  refine st_loop (fun (j : Nat) σ h => j ≤ code.length ∧ σ 5 = .ptr kn 0 0 0 ∧ σ 6 = .sl (h3.tick, 0, 0) j 0 j ∧ σ 17 = instrs true code ∧ σ 18 = .int .i64 code.length ∧ σ 19 = .int .i64 j ∧
    Cx h [(kn, ⟨0, 2, [[w, .int .i64 (stN (start ns, (ns : Int)) (code.take j)).2]]⟩), ((h3.tick, 0, 0), ⟨j, 4, (plsFrom (code.take j) (start ns, (ns : Int))).map Plc.cells⟩), ((T, 0, 0), graphRow g)] [(w, (fun b => pvs b (stN (start ns, (ns : Int)) (code.take j)).1), m)]) (fun j => code.length - j) 0 ?init ?step
  case init =>
    exact ⟨Nat.zero_le _, by simp, by simp, by simp, by simp, by simp, Cx.to x5⟩
  case step =>
    rintro j σ h ⟨hj, s5, s6, s17, s18, s19, x⟩
    have b := x.bxs
    simp only [Bxs, graphRow] at b
    have hpl : (plsFrom (code.take j) (start ns, (ns : Int))).length = j := by rw [plsFrom_len]; simp; omega
    by_cases hlt : j < code.length
    · have hlt2 : (j : Int) < code.length := by omega
      have hw : IntKind.i64.wrap (j + 1) = j + 1 := wrap_id (by omega) (by omega)
      have hx : code[j]? = some code[j] := by simp
      have hlen : code[j].cells.length = 7 := rfl
      have hon : ones code[j].cells = true := rfl
      have htk : List.take 7 code[j].cells = code[j].cells := rfl
      have hsl : (stN (start ns, (ns : Int)) (code.take j)).1.length = ns := by rw [stN_len, start_len]
      have hsn := stN_nx (code.take j) (start ns, (ns : Int))
      have e1 := plsFrom_take hlt (start ns, (ns : Int))
      have e2 := stN_take hlt (start ns, (ns : Int))
      have hok : InOk (stN (start ns, (ns : Int)) (code.take j)).1.length code[j] := by rw [hsl]; exact hco _ (List.getElem_mem hlt)
      generalize hS : stN (start ns, (ns : Int)) (code.take j) = S at *
      obtain ⟨st, nx⟩ := S
      simp only at hsl hsn hok x b
      have hnx : 0 ≤ nx ∧ nx ≤ 2 ^ 40 := by simp only [List.length_take] at hsn; omega
      have P := placeOf code[j] st nx hok
      have hp1 : ones (plOf code[j] st).cells = true := rfl
      have hp2 : (plOf code[j] st).cells.length = 4 := rfl
      generalize hpp : plsFrom (code.take j) (start ns, (ns : Int)) = pp at *
      have knx : kn.1 < h.tick := b.2.1
      repeat' (first
       | with_reducible refine stp ?_
       | with_reducible refine k_blk_o rfl ?_
       | with_reducible refine k_seq_n ?_
       | ((try (conv => arg 1; simp [s5, s6, s17, s18, s19, b, instrs, hlt2, hx, hlt, hlen, hon, htk, hp1, hp2, ltS, nm_ne, tk_ne])); with_reducible refine evp ?_)
       | ((with_reducible refine apn ?na ?_); (case na => simp [appNames, ints, intss] <;> first | kernel_rfl | (refine ⟨?_, ?_⟩ <;> kernel_rfl)))
       | ((with_reducible refine tcl ?_); first | ((apply tg (P)); (case e => rfl); (case d => (refine dq ?_); (repeat' (first | ((refine Da.mk ?_); first | exact dr_ptr0 (r := ⟨0, 2, [[w, .int .i64 nx]]⟩) (by simp [b, nm_ne, ltS]) rfl rfl (.cons ((Cx.to x).o0 true).dr (.cons (.int _ _) .nil)) | exact dr_agg (drs_instr _) | exact drs_instr _ | assumption) | constructor)))))
       | fail)
      conv => arg 1; simp
      rw [appendA_snoc (s := 4) (l := pp.map Plc.cells) (e := (plOf code[j] st).cells) (by kernel_rfl) ?hr (by simp [hpl]) ?hk rfl (by omega) ?hm]
      case hr => simp [b, nm_ne, ltS]
      case hk => simp
      case hm => simp [b, ltS]
      refine ev2_some ?_
      repeat' (first
       | with_reducible refine stp ?_
       | with_reducible refine k_blk_o rfl ?_
       | with_reducible refine k_seq_n ?_
       | ((try (conv => arg 1; simp [s5, s6, s17, s18, s19, b, hlen, hon, htk, ltS, nm_ne, tk_ne])); with_reducible refine evp ?_)
       | ((with_reducible refine apn ?na ?_); (case na => simp [appNames, ints, intss] <;> first | kernel_rfl | (refine ⟨?_, ?_⟩ <;> kernel_rfl)))
       | fail)
      refine st_heap rfl (stepK code[j] st nx hok hnx (Cx.to x)) ?_
      intro v h' x6
      repeat' (first
       | with_reducible refine stp ?_
       | with_reducible refine k_blk_o rfl ?_
       | with_reducible refine k_seq_n ?_
       | ((try (conv => arg 1; simp [s5, s6, s17, s18, s19, hw])); with_reducible refine evp ?_)
       | ((with_reducible refine apn ?na ?_); (case na => simp [appNames, ints, intss] <;> first | kernel_rfl | (refine ⟨?_, ?_⟩ <;> kernel_rfl)))
       | fail)
      refine k_lp_n (j + 1) (by omega) ⟨by omega, by simp [s5], by simp, by simp [s17], by simp [s18], by simp, ?_⟩
      rw [e1, e2, List.map_append]
      exact Cx.to x6
    · have hge : j = code.length := by omega
      have hlt2 : ¬ (j : Int) < code.length := by omega
      repeat' (first
       | with_reducible refine stp ?_
       | with_reducible refine k_blk_o rfl ?_
       | with_reducible refine k_seq_n ?_
       | ((try (conv => arg 1; simp [s5, s6, s17, s18, s19, b, instrs, hlt2, ltS, nm_ne, tk_ne])); with_reducible refine evp ?_)
       | ((with_reducible refine apn ?na ?_); (case na => simp [appNames, ints, intss] <;> first | kernel_rfl | (refine ⟨?_, ?_⟩ <;> kernel_rfl)))
       | fail)
      rw [hge, List.take_length] at b hpl
      rw [hge]
      exact dr_plcs_sl (l := plsFrom code (start ns, (ns : Int))) (sp := []) hpl (by simpa using b.2.2.1)
end Go.Proofs.Ytlmlkkkgcbpaoaa.AM
