/-
  The A-machine, part 14: a region that draws its order: whatever order is drawn, the end is that of the text's order.
-/
import Derived.Test.YtfgaoojogididaaA13
set_option linter.unusedVariables false
set_option linter.unusedSimpArgs false
namespace Go.Proofs.Ytfgaoojogididaa.AM
open Go.RowKit

/-! ### The static part -/
section
variable {ops : Array Oper} {f : Nat}

structure DrawS (ops : Array Oper) (f : Nat) : Prop where
  size : f ≤ ops.size
  bits : ∀ (i j : Nat) (o : Oper), ops[i]? = some o → befB (Region.before ops) i j = true → j < i
  edge : ∀ (i : Nat) (o : Oper), ops[i]? = some o → ∀ e ∈ o.after, Region.binds .any e = true → e.on < i
  clos : ∀ (i j : Nat) (o o' : Oper), ops[i]? = some o → ops[j]? = some o' → j < i → befB (Region.before ops) i j = true → ∃ e ∈ o.after, Region.binds .any e = true ∧ (e.on = j ∨ befB (Region.before ops) e.on j = true)
  apart : ∀ (i j : Nat) (o o' : Oper), ops[i]? = some o → ops[j]? = some o' → j < i → o.apart ops o' = true ∨ befB (Region.before ops) i j = true
  tail : ∀ (i j : Nat) (o o' : Oper), ops[i]? = some o → ops[j]? = some o' → j < i → f ≤ i → befB (Region.before ops) i j = true
  app : ∀ (i j : Nat) (o o' : Oper), ops[i]? = some o → ops[j]? = some o' → j < i → isApp o.op = true → isApp o'.op = true → befB (Region.before ops) i j = true

theorem drawS_of (h : drawOk ops f = true) : DrawS ops f := by
  simp only [drawOk, Bool.and_eq_true, decide_eq_true_eq] at h
  have key : ∀ (i : Nat) (o : Oper), ops[i]? = some o → _ := fun i o ho => by
    have h1 := List.all_eq_true.1 h.2 i (List.mem_range.2 (Array.getElem?_eq_some_iff.1 ho).1)
    rw [ho] at h1
    simp only [Bool.and_eq_true, decide_eq_true_eq] at h1
    exact h1
  have key2 : ∀ (i j : Nat) (o o' : Oper), ops[i]? = some o → ops[j]? = some o' → j < i → _ := fun i j o o' ho ho' hj => by
    have h2 := List.all_eq_true.1 (key i o ho).2 j (List.mem_range.2 hj)
    rw [ho'] at h2
    simp only [Bool.and_eq_true] at h2
    exact h2
  refine ⟨h.1, fun i j o ho hb => ?_, fun i o ho e he hb => ?_, fun i j o o' ho ho' hj hb => ?_, fun i j o o' ho ho' hj => ?_, fun i j o o' ho ho' hj hf => ?_, fun i j o o' ho ho' hj h1 h2 => ?_⟩
  · rcases Nat.lt_or_ge j i with h1 | h1
    · exact h1
    · have h2 := (key i o ho).1.1.1
      have h3 := Nat.testBit_lt_two_pow (Nat.lt_of_lt_of_le h2 (Nat.pow_le_pow_right (by decide) h1))
      unfold befB at hb
      rw [h3] at hb
      cases hb
  · have := List.all_eq_true.1 (key i o ho).1.1.2 e (by simpa using he)
    simpa [hb] using this
  · have := (key2 i j o o' ho ho' hj).1.1.1
    rw [hb] at this
    simp only [Bool.not_true, Bool.false_or, List.any_eq_true, Bool.and_eq_true, Bool.or_eq_true, beq_iff_eq] at this
    obtain ⟨e, he, hb1, hb2⟩ := this
    exact ⟨e, by simpa using he, hb1, hb2⟩
  · have := (key2 i j o o' ho ho' hj).1.1.2
    simpa using this
  · have := (key2 i j o o' ho ho' hj).1.2
    simpa [Nat.not_lt.2 hf] using this
  · have := (key2 i j o o' ho ho' hj).2
    simpa [h1, h2] using this

/-- What is listed has all that it hangs on listed. -/
def Closed (ops : Array Oper) (L : Nat → Bool) : Prop := ∀ (i : Nat) (o : Oper), ops[i]? = some o → L i = true → ∀ e ∈ o.after, Region.binds .any e = true → L e.on = true

theorem DrawS.get (S : DrawS ops f) {i : Nat} {o : Oper} (ho : ops[i]? = some o) {j : Nat} (hj : j < i) : ∃ o', ops[j]? = some o' :=
  ⟨ops[j]'(Nat.lt_trans hj (Array.getElem?_eq_some_iff.1 ho).1), by simp⟩

theorem DrawS.listed (S : DrawS ops f) {L : Nat → Bool} (hc : Closed ops L) : ∀ (i : Nat) (o : Oper), ops[i]? = some o → (∀ e ∈ o.after, Region.binds .any e = true → L e.on = true) → ∀ j, befB (Region.before ops) i j = true → L j = true := by
  intro i
  induction i using Nat.strongRecOn with
  | _ i ih =>
    intro o ho hl j hb
    have hj := S.bits i j o ho hb
    obtain ⟨o', ho'⟩ := S.get ho hj
    obtain ⟨e, he, hbi, h1⟩ := S.clos i j o o' ho ho' hj hb
    have hon := S.edge i o ho e he hbi
    have hle := hl e he hbi
    rcases h1 with rfl | h2
    · exact hle
    · obtain ⟨oe, hoe⟩ := S.get ho hon
      exact ih e.on hon oe hoe (hc e.on oe hoe hle) j h2

end

/-! ### Last writers -/
section
variable {K V : Type} [DecidableEq K]

def upd (u : Option (K × V)) (b : K → V) : K → V :=
  match u with
  | some (k, v) => fun x => if x = k then v else b x
  | none => b

def lw (wr : Nat → Option (K × V)) (L : Nat → Bool) : Nat → (K → V) → K → V
  | 0, b => b
  | n + 1, b => if L n = true then upd (wr n) (lw wr L n b) else lw wr L n b

def hits (u : Option (K × V)) (x : K) : Prop := ∃ v, u = some (x, v)

theorem upd_miss {u : Option (K × V)} {b : K → V} {x : K} (h : ¬ hits u x) : upd u b x = b x := by
  cases u with
  | none => rfl
  | some p =>
    obtain ⟨k, v⟩ := p
    simp only [upd]
    rw [if_neg]
    rintro rfl
    exact h ⟨v, rfl⟩

theorem lw_congr {wr wr' : Nat → Option (K × V)} {L L' : Nat → Bool} {b : K → V} : ∀ n, (∀ j, j < n → wr j = wr' j ∧ L j = L' j) → lw wr L n b = lw wr' L' n b
  | 0, _ => rfl
  | n + 1, h => by
    simp only [lw]
    rw [(h n (Nat.lt_succ_self n)).1, (h n (Nat.lt_succ_self n)).2, lw_congr n fun j hj => h j (Nat.lt_succ_of_lt hj)]

theorem lw_none {wr : Nat → Option (K × V)} {L : Nat → Bool} {b : K → V} {x : K} : ∀ n, (∀ j, j < n → ¬ hits (wr j) x) → lw wr L n b x = b x
  | 0, _ => rfl
  | n + 1, h => by
    simp only [lw]
    split
    · rw [upd_miss (h n (Nat.lt_succ_self n))]; exact lw_none n fun j hj => h j (Nat.lt_succ_of_lt hj)
    · exact lw_none n fun j hj => h j (Nat.lt_succ_of_lt hj)

theorem lw_all {wr : Nat → Option (K × V)} {L : Nat → Bool} {b : K → V} {x : K} : ∀ n, (∀ j, j < n → hits (wr j) x → L j = true) → lw wr L n b x = lw wr (fun _ => true) n b x
  | 0, _ => rfl
  | n + 1, h => by
    have ih := lw_all (b := b) n fun j hj => h j (Nat.lt_succ_of_lt hj)
    simp only [lw, if_true]
    by_cases hh : hits (wr n) x
    · rw [if_pos (h n (Nat.lt_succ_self n) hh)]
      obtain ⟨v, hv⟩ := hh
      simp [upd, hv]
    · rw [upd_miss hh]
      split
      · rw [upd_miss hh]; exact ih
      · exact ih

theorem lw_same {wr : Nat → Option (K × V)} {L : Nat → Bool} {b : K → V} {x : K} {i : Nat} (h1 : ∀ j, j < i → hits (wr j) x → L j = true) : ∀ n, i ≤ n → (∀ j, i ≤ j → j < n → hits (wr j) x → L j = false) → lw wr L n b x = lw wr (fun _ => true) i b x
  | 0, hn, _ => by
    obtain rfl : i = 0 := by omega
    rfl
  | n + 1, hn, h => by
    rcases Nat.lt_or_ge n i with hlt | hge
    · obtain rfl : i = n + 1 := by omega
      exact lw_all _ h1
    · have ih := lw_same (b := b) h1 n hge fun j a c => h j a (Nat.lt_succ_of_lt c)
      simp only [lw]
      split
      · rename_i hl
        rw [upd_miss fun hh => by rw [h n hge (Nat.lt_succ_self n) hh] at hl; cases hl]; exact ih
      · exact ih

theorem lw_set {wr : Nat → Option (K × V)} {L : Nat → Bool} {b : K → V} {i : Nat} (hi : L i = false) (h : ∀ j x, i < j → L j = true → hits (wr j) x → ¬ hits (wr i) x) : ∀ n, i < n → lw wr (fun j => L j || j == i) n b = upd (wr i) (lw wr L n b)
  | 0, hn => by omega
  | n + 1, hn => by
    rcases Nat.lt_or_ge i n with hlt | hge
    · have ih := lw_set (b := b) hi h n hlt
      have hne : (n == i) = false := by simp; omega
      simp only [lw, hne, Bool.or_false]
      split
      · rename_i hl
        funext x
        by_cases hh : hits (wr n) x
        · have h2 := h n x hlt hl hh
          rw [upd_miss h2]
          obtain ⟨v, hv⟩ := hh
          simp [upd, hv]
        · rw [upd_miss hh, ih]
          by_cases h3 : hits (wr i) x
          · obtain ⟨v, hv⟩ := h3
            simp [upd, hv]
          · rw [upd_miss h3, upd_miss h3, upd_miss hh]
      · exact ih
    · obtain rfl : i = n := by omega
      simp only [lw, hi, beq_self_eq_true, Bool.or_true, if_true]
      have : lw wr (fun j => L j || j == i) i b = lw wr L i b := by
        refine lw_congr i fun j hj => ⟨rfl, ?_⟩
        have : (j == i) = false := by simp; omega
        rw [this, Bool.or_false]
      rw [this, if_neg (by simp)]
end

/-! ### How many there are yet -/
def cnt (L : Nat → Bool) : Nat → Nat
  | 0 => 0
  | n + 1 => cnt L n + (if L n = true then 0 else 1)

theorem cnt_zero {L : Nat → Bool} : ∀ n, cnt L n = 0 → ∀ j, j < n → L j = true
  | 0, _, j, hj => by omega
  | n + 1, h, j, hj => by
    simp only [cnt] at h
    have h2 : L n = true := by
      by_cases hl : L n = true
      · exact hl
      · rw [if_neg hl] at h; omega
    rcases Nat.lt_or_ge j n with h3 | h3
    · exact cnt_zero n (by omega) j h3
    · obtain rfl : j = n := by omega
      exact h2

theorem cnt_congr {L L' : Nat → Bool} : ∀ n, (∀ j, j < n → L j = L' j) → cnt L n = cnt L' n
  | 0, _ => rfl
  | n + 1, h => by simp only [cnt]; rw [cnt_congr n fun j hj => h j (Nat.lt_succ_of_lt hj), h n (Nat.lt_succ_self n)]

theorem cnt_set {L : Nat → Bool} {i : Nat} (hi : L i = false) : ∀ n, i < n → cnt (fun j => L j || j == i) n + 1 = cnt L n
  | 0, h => by omega
  | n + 1, h => by
    simp only [cnt]
    rcases Nat.lt_or_ge i n with hlt | hge
    · have ih := cnt_set hi n hlt
      have hne : (n == i) = false := by simp; omega
      simp only [hne, Bool.or_false]
      omega
    · obtain rfl : i = n := by omega
      have h1 : cnt (fun j => L j || j == i) i = cnt L i := by
        refine cnt_congr i fun j hj => ?_
        have : (j == i) = false := by simp; omega
        rw [this, Bool.or_false]
      rw [h1]
      simp [hi]
end Go.Proofs.Ytfgaoojogididaa.AM
