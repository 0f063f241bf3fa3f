/-
  A stepper's state: marked.
-/
import Derived.Test.YtfgaoojogididaaU10
set_option linter.unusedVariables false
set_option linter.unusedSimpArgs false
set_option maxRecDepth 4000
namespace Go.Proofs.Ytfgaoojogididaa.AM
open Go.RowKit

private def M : FuncId → Mode := fun f => if f = 33 ∨ f = 52 then .heap else .tree

theorem own_cons1 {rows : Nm → Option Row} {b : Bool} {l ts : List AV} {t : AV} {ns : List Nm} (h : Own rows b l (t :: ts) ns) : ∃ w l' n1 n2, l = w :: l' ∧ ns = n1 ++ n2 ∧ Own rows b [w] [t] n1 ∧ Own rows b l' ts n2 := by
  cases l with
  | nil => cases h
  | cons w l' =>
    obtain ⟨n1, n2, e, h1, h2⟩ := Own.split (as1 := [w]) (ts1 := [t]) h rfl
    exact ⟨w, l', n1, n2, rfl, e, h1, h2⟩

theorem ownV_cpu {rows : Nm → Option Row} {b : Bool} {v : AV} {c : Cpu} {ns : List Nm} (h : OwnV rows b v (.agg (c.cells b)) ns) : ∃ w1 w2 w3 w4 w5 n1 n2 n3 n4 n5, v = .agg [.int .i64 c.At, w1, w2, w3, w4, w5, .int .i64 c.Code, .bool c.Over, .int .i64 c.Val] ∧ ns = n1 ++ (n2 ++ (n3 ++ (n4 ++ n5))) ∧
    Own rows b [w1] [ints b c.Regs] n1 ∧ Own rows b [w2] [ints b c.Slots] n2 ∧ Own rows b [w3] [intss b c.Mem] n3 ∧ Own rows b [w4] [ints b c.Input] n4 ∧ Own rows b [w5] [ints b c.Out] n5 := by
  generalize ht : AV.agg (c.cells b) = t at h
  cases h with
  | one h => subst ht; unfold Cpu.cells at h; cases h
  | tup2 => cases ht
  | @agg l _ _ h =>
    cases ht
    unfold Cpu.cells at h
    cases h with
    | int _ _ h =>
      obtain ⟨w1, l1, n1, m1, rfl, rfl, o1, h⟩ := own_cons1 h
      obtain ⟨w2, l2, n2, m2, rfl, rfl, o2, h⟩ := own_cons1 h
      obtain ⟨w3, l3, n3, m3, rfl, rfl, o3, h⟩ := own_cons1 h
      obtain ⟨w4, l4, n4, m4, rfl, rfl, o4, h⟩ := own_cons1 h
      obtain ⟨w5, l5, n5, m5, rfl, rfl, o5, h⟩ := own_cons1 h
      cases h with
      | int _ _ h => cases h with
        | bool _ h => cases h with
          | int _ _ h => cases h with
            | nil => exact ⟨w1, w2, w3, w4, w5, n1, n2, n3, n4, n5, rfl, by simp, o1, o2, o3, o4, o5⟩
end Go.Proofs.Ytfgaoojogididaa.AM
