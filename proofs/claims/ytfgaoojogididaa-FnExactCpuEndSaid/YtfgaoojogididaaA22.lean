/-
  The A-machine, part 22: lemmas for evaluation.
-/
import Derived.Test.YtfgaoojogididaaA21
set_option linter.unusedVariables false
set_option linter.unusedSimpArgs false
namespace Go.Proofs.Ytfgaoojogididaa.AM
open Go.RowKit

section
variable {P : Program} {t : TypeId}

theorem telem_und (h : (telem P t).isSome = true) : ∃ e, P.underlying t = some (.slice e) := by
  unfold telem at h
  split at h
  · exact ⟨_, by assumption⟩
  · cases h
theorem lenA_tr (b : Bool) (es : List (List AV)) (h : (telem P t).isSome = true) : lenA P t (.tr b es) = some (.int .i64 es.length) := by
  obtain ⟨e, he⟩ := telem_und h
  simp [lenA, he]
theorem lenA_sl (n : Nm) (v o l : Nat) (h : (telem P t).isSome = true) : lenA P t (.sl n v o l) = some (.int .i64 l) := by
  obtain ⟨e, he⟩ := telem_und h
  simp [lenA, he]
theorem lenA_nilsl (h : (telem P t).isSome = true) : lenA P t .nilsl = some (.int .i64 0) := by
  obtain ⟨e, he⟩ := telem_und h
  simp [lenA, he]
theorem lenA_ints (b : Bool) (xs : List Int) (h : (telem P t).isSome = true) : lenA P t (ints b xs) = some (.int .i64 xs.length) := by
  obtain ⟨e, he⟩ := telem_und h
  simp [lenA, he, ints]
theorem lenA_intss (b : Bool) (xs : List (List Int)) (h : (telem P t).isSome = true) : lenA P t (intss b xs) = some (.int .i64 xs.length) := by
  obtain ⟨e, he⟩ := telem_und h
  simp [lenA, he, intss]
theorem lenA_str (s : ByteArray) (h : P.underlying t = some .string) : lenA P t (.str s) = some (.int .i64 s.size) := by
  simp [lenA, h]

theorem srcElems_tr (rows : Nm → Option Row) (b : Bool) (es : List (List AV)) : srcElems rows (.tr b es) = some es := rfl
theorem srcElems_nilsl (rows : Nm → Option Row) : srcElems rows .nilsl = some [] := rfl
theorem srcElems_ints (rows : Nm → Option Row) (b : Bool) (xs : List Int) : srcElems rows (ints b xs) = some (xs.map fun n => [.int .i64 n]) := rfl
theorem srcElems_intss (rows : Nm → Option Row) (b : Bool) (xs : List (List Int)) : srcElems rows (intss b xs) = some (xs.map fun x => [ints b x]) := rfl

/-- Onto a new row of no elements. -/
theorem appendA_mt {e : TypeId} {s bb : Nat} {z : List AV} {m n : Nm} {v : Nat} {x : AV} {h : Hp} (es : List (List AV)) (he : telem P t = some e) (h1 : tsz P e = some s) (h2 : tby P e = some bb) (h3 : tzero P e = some z) (h4 : 0 < s ∧ bb ≤ 32768 ∧ z.length = s)
    (hr : h.rows m = some ⟨v, s, []⟩) (hx : srcElems h.rows x = some es) (hes : ∀ e ∈ es, e.length = s) (hl : es.length ≤ 4294967296) (hm : m.1 < h.tick) :
    appendA P t (.sl m v 0 0) x h n = some (.sl m (v + if es.length = 0 then 0 else 1) 0 es.length, h.put m ⟨v + if es.length = 0 then 0 else 1, s, es⟩) := by
  have hall : es.all (fun e => e.length == s) = true := by
    rw [List.all_eq_true]
    intro e he
    simpa using hes e he
  unfold appendA
  simp only [he, hx, h1, h2, h3]
  rw [if_pos ⟨h4.1, h4.2.1, h4.2.2, hall⟩]
  simp only [hr]
  rw [if_pos ⟨trivial, trivial, Nat.zero_le _, by simpa using hl, hm⟩]
  cases es with
  | nil =>
    simp only [if_true, List.length_nil, Nat.add_zero]
    congr 2
    obtain ⟨rows, tick⟩ := h
    simp only [Hp.put]
    congr 1
    funext k
    by_cases hk : k = m
    · rw [if_pos hk, hk]; exact hr
    · rw [if_neg hk]
  | cons e es => simp
end

/-- (Not by 'rfl': simp is to leave a proof.) -/
theorem hp_rows_put (h : Hp) (n m : Nm) (r : Row) : (h.put n r).rows m = if m = n then some r else h.rows m := by
  by_cases hm : m = n
  · rw [if_pos hm, Hp.put_rows, if_pos hm]
  · rw [if_neg hm, Hp.put_rows, if_neg hm]
theorem ltS {a b : Nat} (h : a < b) : a < b + 1 := Nat.lt_succ_of_lt h
theorem ltK {a b k : Nat} (h : a < b) : a < b + k := Nat.lt_of_lt_of_le h (Nat.le_add_right b k)
theorem ltB (a : Nat) : a < a + 1 := Nat.lt_succ_self a

/-- Onto a new row of no whole numbers. -/
theorem appendA_mt_ints {P : Program} {t : TypeId} {m n : Nm} {v : Nat} {h : Hp} (b : Bool) (xs : List Int) (h0 : ((telem P t).bind fun e => (tsz P e).bind fun s => (tby P e).bind fun bb => (tzero P e).bind fun z => some (decide (s = 1 ∧ bb ≤ 32768 ∧ z.length = 1))) = some true)
    (hr : h.rows m = some ⟨v, 1, []⟩) (hl : xs.length ≤ 4294967296) (hm : decide (m.1 < h.tick) = true) :
    appendA P t (.sl m v 0 0) (ints b xs) h n = some (.sl m (v + if xs.length = 0 then 0 else 1) 0 xs.length, h.put m ⟨v + if xs.length = 0 then 0 else 1, 1, xs.map fun n => [.int .i64 n]⟩) := by
  simp only [Option.bind_eq_some_iff] at h0
  obtain ⟨e, he, s, hs, bb, hb, z, hz, hd⟩ := h0
  simp only [Option.some.injEq, decide_eq_true_eq] at hd
  obtain ⟨rfl, hd2, hd3⟩ := hd
  have := appendA_mt (n := n) (xs.map fun n => [AV.int .i64 n]) he hs hb hz ⟨Nat.one_pos, hd2, hd3⟩ hr (srcElems_ints h.rows b xs) (fun e he => by simp at he; obtain ⟨a, _, rfl⟩ := he; rfl) (by simpa using hl) (of_decide_eq_true hm)
  simpa using this
end Go.Proofs.Ytfgaoojogididaa.AM
