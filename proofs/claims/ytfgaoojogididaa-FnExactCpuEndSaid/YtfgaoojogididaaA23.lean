/-
  The A-machine, part 23: what data of a type are.
-/
import Derived.Test.YtfgaoojogididaaA22
set_option linter.unusedVariables false
set_option linter.unusedSimpArgs false
namespace Go.Proofs.Ytfgaoojogididaa.AM
open Go.RowKit

/-- A number that 64 bits hold. -/
def I64 (n : Int) : Prop := -9223372036854775808 ≤ n ∧ n ≤ 9223372036854775807

/-- The types of a struct's fields. -/
def stTys (P : Program) (t : TypeId) : Option (List TypeId) := match P.underlying t with | some (.struct fs) => some (fs.toList.map (·.type)) | _ => none
def ShpFs (P : Program) : List TypeId → List AV → Prop
  | [], cells => cells = []
  | t :: ts, cells => ∃ p q, cells = p ++ q ∧ Shp P t p ∧ ShpFs P ts q

section
variable {P : Program} {t e : TypeId} {cells : List AV}

theorem shpFs_of : ∀ (l : List Field) (parts : List (List AV)), parts.length = l.length → (∀ (i : Nat) (f : Field) (p : List AV), l[i]? = some f → parts[i]? = some p → Shp P f.type p) → ShpFs P (l.map (·.type)) parts.flatten
  | [], [], _, _ => rfl
  | f :: l, p :: parts, hl, h => ⟨p, parts.flatten, by simp, h 0 f p rfl rfl, shpFs_of l parts (by simpa using hl) fun i g q hg hq => h (i + 1) g q (by simpa using hg) (by simpa using hq)⟩
  | [], _ :: _, hl, _ => by simp at hl
  | _ :: _, [], hl, _ => by simp at hl

theorem Shp.st_inv {ts : List TypeId} (h : Shp P t cells) (hs : stTys P t = some ts) : ShpFs P ts cells := by
  unfold stTys at hs
  cases h with
  | st _ fs parts hu hl hp =>
    rw [hu] at hs
    injection hs with hs
    subst hs
    exact shpFs_of _ _ (by simpa using hl) fun i f p hf hp' => hp i f p (by simpa using hf) hp'
  | bool _ b hu => rw [hu] at hs; cases hs
  | int _ k n hu hw => rw [hu] at hs; cases hs
  | str _ s hu hl => rw [hu] at hs; cases hs
  | sl _ e elems hu hl hp => rw [hu] at hs; cases hs

theorem Shp.int_inv (h : Shp P t cells) (hu : P.underlying t = some (.int .i64)) : ∃ n, cells = [.int .i64 n] ∧ I64 n := by
  cases h with
  | int _ k n hu' hw =>
    rw [hu] at hu'; cases hu'
    refine ⟨n, rfl, ?_⟩
    simp [Lit.wf, IntKind.min, IntKind.max, IntKind.bits, IntKind.signed] at hw
    unfold I64
    omega
  | bool _ b hu' => rw [hu] at hu'; cases hu'
  | st _ fs parts hu' hl hp => rw [hu] at hu'; cases hu'
  | str _ s hu' hl => rw [hu] at hu'; cases hu'
  | sl _ e elems hu' hl hp => rw [hu] at hu'; cases hu'

theorem Shp.bool_inv (h : Shp P t cells) (hu : P.underlying t = some .bool) : ∃ b, cells = [.bool b] := by
  cases h with
  | bool _ b hu' => exact ⟨b, rfl⟩
  | int _ k n hu' hw => rw [hu] at hu'; cases hu'
  | st _ fs parts hu' hl hp => rw [hu] at hu'; cases hu'
  | str _ s hu' hl => rw [hu] at hu'; cases hu'
  | sl _ e elems hu' hl hp => rw [hu] at hu'; cases hu'

theorem Shp.str_inv (h : Shp P t cells) (hu : P.underlying t = some .string) : ∃ s, cells = [.str s] ∧ s.size ≤ maxLen := by
  cases h with
  | str _ s hu' hl => exact ⟨s, rfl, hl⟩
  | int _ k n hu' hw => rw [hu] at hu'; cases hu'
  | st _ fs parts hu' hl hp => rw [hu] at hu'; cases hu'
  | bool _ b hu' => rw [hu] at hu'; cases hu'
  | sl _ e elems hu' hl hp => rw [hu] at hu'; cases hu'

theorem Shp.sl_inv (h : Shp P t cells) (hu : P.underlying t = some (.slice e)) : ∃ elems, cells = [.tr true elems] ∧ elems.length ≤ maxLen ∧ ∀ el ∈ elems, Shp P e el := by
  cases h with
  | sl _ e' elems hu' hl hp =>
    rw [hu] at hu'; cases hu'
    refine ⟨elems, rfl, hl, fun el hel => ?_⟩
    obtain ⟨i, hi, rfl⟩ := List.getElem_of_mem hel
    exact hp i _ (by simp)
  | int _ k n hu' hw => rw [hu] at hu'; cases hu'
  | st _ fs parts hu' hl hp => rw [hu] at hu'; cases hu'
  | bool _ b hu' => rw [hu] at hu'; cases hu'
  | str _ s hu' hl => rw [hu] at hu'; cases hu'
end

theorem unmap {α β : Type} (f : α → β) (Q : α → Prop) : ∀ (l : List β), (∀ y ∈ l, ∃ x, y = f x ∧ Q x) → ∃ xs : List α, l = xs.map f ∧ ∀ x ∈ xs, Q x
  | [], _ => ⟨[], rfl, by simp⟩
  | y :: l, h => by
    obtain ⟨x, rfl, hx⟩ := h y (by simp)
    obtain ⟨xs, rfl, hxs⟩ := unmap f Q l fun z hz => h z (by simp [hz])
    exact ⟨x :: xs, rfl, fun z hz => by simp at hz; rcases hz with rfl | hz; exact hx; exact hxs z hz⟩

section
variable {P : Program} {t e e' : TypeId} {cells : List AV}
theorem Shp.ints_inv (h : Shp P t cells) (hu : P.underlying t = some (.slice e)) (he : P.underlying e = some (.int .i64)) : ∃ xs, cells = [ints true xs] ∧ xs.length ≤ maxLen ∧ ∀ x ∈ xs, I64 x := by
  obtain ⟨elems, rfl, hl, hs⟩ := h.sl_inv hu
  obtain ⟨xs, rfl, hx⟩ := unmap (fun n => [AV.int .i64 n]) I64 elems fun y hy => (hs y hy).int_inv he
  exact ⟨xs, rfl, by simpa using hl, hx⟩
theorem Shp.intss_inv (h : Shp P t cells) (hu : P.underlying t = some (.slice e)) (he : P.underlying e = some (.slice e')) (he' : P.underlying e' = some (.int .i64)) : ∃ xs, cells = [intss true xs] ∧ xs.length ≤ maxLen ∧ ∀ x ∈ xs, x.length ≤ maxLen ∧ ∀ y ∈ x, I64 y := by
  obtain ⟨elems, rfl, hl, hs⟩ := h.sl_inv hu
  obtain ⟨xs, rfl, hx⟩ := unmap (fun x => [ints true x]) (fun x => x.length ≤ maxLen ∧ ∀ y ∈ x, I64 y) elems fun y hy => (hs y hy).ints_inv he he'
  exact ⟨xs, rfl, by simpa using hl, hx⟩
end
theorem shpAll_nil {P : Program} {l : List AV} (h : ShpAll P [] l) : l = [] := by
  cases l with
  | nil => rfl
  | cons _ _ => exact h.elim
theorem shpAll_cons {P : Program} {t : TypeId} {ts : List TypeId} {l : List AV} (h : ShpAll P (t :: ts) l) : ∃ cells l', Shp P t cells ∧ l = avOf P t cells :: l' ∧ ShpAll P ts l' := by
  cases l with
  | nil => exact h.elim
  | cons a l' =>
    obtain ⟨⟨cells, h1, h2⟩, h3⟩ := h
    exact ⟨cells, l', h1, by rw [h2], h3⟩
end Go.Proofs.Ytfgaoojogididaa.AM
