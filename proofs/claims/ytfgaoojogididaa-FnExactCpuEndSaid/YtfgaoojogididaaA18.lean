/-
  The A-machine, part 18: arguments: what is read as data is a tree.
-/
import Derived.Test.YtfgaoojogididaaA17
import Derived.ChangeArms
import Derived.WideShapes
import Derived.ChangeOld
set_option linter.unusedVariables false
set_option linter.unusedSimpArgs false
namespace Go.Proofs.Ytfgaoojogididaa.AM
open Go.RowKit

/-- Cells of a type: a tree of numbers, bools, strings, slices, structs. -/
inductive Shp (P : Program) : TypeId → List AV → Prop
  | bool (t : TypeId) (b : Bool) : P.underlying t = some .bool → Shp P t [.bool b]
  | int (t : TypeId) (k : IntKind) (n : Int) : P.underlying t = some (.int k) → (Lit.int k n).wf = true → Shp P t [.int k n]
  | str (t : TypeId) (s : ByteArray) : P.underlying t = some .string → s.size ≤ maxLen → Shp P t [.str s]
  | sl (t e : TypeId) (elems : List (List AV)) : P.underlying t = some (.slice e) → elems.length ≤ maxLen → (∀ (i : Nat) (el : List AV), elems[i]? = some el → Shp P e el) → Shp P t [.tr true elems]
  | st (t : TypeId) (fs : Array Field) (parts : List (List AV)) : P.underlying t = some (.struct fs) → parts.length = fs.size → (∀ (i : Nat) (f : Field) (p : List AV), fs[i]? = some f → parts[i]? = some p → Shp P f.type p) → Shp P t parts.flatten

def fsOk (P : Program) (ts : List TypeId) (total : Nat) : List Field → Nat → Bool
  | [], off => off == total
  | f :: l, off => f.offset == off && ts.contains f.type && fsOk P ts total l (off + P.cellsOf f.type)

/-- A set of types, closed. -/
def tyOk (P : Program) (ts : List TypeId) : Bool := ts.all fun t => match P.underlying t with
  | some .bool | some (.int _) | some .string => true
  | some (.slice e) => decide (0 < P.cellsOf e) && ts.contains e
  | some (.struct fs) => fsOk P ts (P.cellsOf t) fs.toList 0
  | _ => false

section
variable {H : Type} {enc : TypeId × Value → H} {P : Program} {w : World} {mu : Nm → Nat → Option Loc} {pr : Bool → Nat → Prop}

theorem VRs.one_mk {c : AV} {v : Value} (h : VR mu pr w.heap c v) : VRs mu pr w.heap [c] [v] := .cons h .nil

theorem fields_av {ts : List TypeId} {cs : List Value} {total : Nat} (hcs : cs.length = total) : ∀ (l : List Field) (off : Nat), fsOk P ts total l off = true → off ≤ total →
    (∀ f ∈ l, f.type ∈ ts → ∃ p, VRs mu pr w.heap p ((cs.drop f.offset).take (P.cellsOf f.type)) ∧ ones p = true ∧ Shp P f.type p) →
    ∃ parts : List (List AV), parts.length = l.length ∧ (∀ (i : Nat) (f : Field) (p : List AV), l[i]? = some f → parts[i]? = some p → Shp P f.type p) ∧ VRs mu pr w.heap parts.flatten (cs.drop off) ∧ ones parts.flatten = true
  | [], off, h, ho, _ => by
    simp only [fsOk, beq_iff_eq] at h
    refine ⟨[], rfl, fun i f p hf => by simp at hf, ?_, rfl⟩
    rw [List.drop_eq_nil_of_le (by omega)]
    exact .nil
  | f :: l, off, h, ho, hf => by
    simp only [fsOk, Bool.and_eq_true, beq_iff_eq, List.contains_iff_mem] at h
    obtain ⟨⟨h1, h2⟩, h3⟩ := h
    obtain ⟨p, hp1, hp2, hp3⟩ := hf f (by simp) h2
    rcases Nat.lt_or_ge total (off + P.cellsOf f.type) with hlt | hge
    case inl =>
      exfalso
      have : ∀ (l : List Field) (o : Nat), total < o → fsOk P ts total l o = false := by
        intro l
        induction l with
        | nil => intro o ho; simp only [fsOk, beq_eq_false_iff_ne]; omega
        | cons g l ih => intro o ho; simp only [fsOk, ih _ (by omega : total < o + P.cellsOf g.type), Bool.and_false]
      rw [this l _ hlt] at h3
      cases h3
    case inr =>
      obtain ⟨parts, g1, g2, g3, g4⟩ := fields_av hcs l _ h3 hge (fun g hg => hf g (by simp [hg]))
      refine ⟨p :: parts, by simp [g1], fun i g q hg hq => ?_, ?_, ?_⟩
      · cases i with
        | zero => simp at hg hq; subst hg hq; exact hp3
        | succ i => simp at hg hq; exact g2 i g q hg hq
      · rw [List.flatten_cons]
        have : cs.drop off = (cs.drop f.offset).take (P.cellsOf f.type) ++ cs.drop (off + P.cellsOf f.type) := by
          rw [h1, ← List.drop_drop, List.take_append_drop]
        rw [this]
        exact hp1.append g3
      · rw [List.flatten_cons]
        simp [ones] at hp2 g4 ⊢
        exact ⟨hp2, g4⟩

theorem shp_of {ts : List TypeId} (hts : tyOk P ts = true) (hpr : ∀ b, b < w.heap.size → pr true b) : ∀ (fuel : Nat) (t : TypeId) (cs : List Value) (x : DataW H × List MemPlace), t ∈ ts → DataW.trod enc P w 0 (fun _ => true) true fuel t cs = some x →
    ∃ cells, VRs mu pr w.heap cells cs ∧ ones cells = true ∧ Shp P t cells := by
  intro fuel
  induction fuel with
  | zero => intro t cs x _ h; simp [DataW.trod] at h
  | succ n ih =>
    intro t cs x ht h
    have hok := List.all_eq_true.1 hts t ht
    split at hok
    case h_1 hu => obtain ⟨b, rfl, rfl⟩ := DataW.trod_bool hu h; exact ⟨_, .one_mk (.bool b), rfl, .bool t b hu⟩
    case h_2 k hu => obtain ⟨m, rfl, rfl, hw⟩ := DataW.trod_int hu h; exact ⟨_, .one_mk (.int k m), rfl, .int t k m hu hw⟩
    case h_3 hu => obtain ⟨s, rfl, rfl, hs⟩ := DataW.trod_string hu h; exact ⟨_, .one_mk (.str s), rfl, .str t s hu hs⟩
    case h_4 e hu =>
      simp only [Bool.and_eq_true, decide_eq_true_eq, List.contains_iff_mem] at hok
      obtain ⟨hpos, he⟩ := hok
      rcases DataW.trod_slice hu h with ⟨rfl, rfl⟩ | ⟨a, len, cap, elems, rest, m, hm, rfl, rfl, hb, hlc, hcm, hlen, hel, _, _⟩
      · exact ⟨_, .one_mk (.tr0 true none 0), rfl, .sl t e [] hu (Nat.zero_le _) (fun i el h => by simp at h)⟩
      · obtain rfl : m = n := by omega
        have each : ∀ i, i < len → ∃ (cells : List AV) (vs : List Value), w.cells? 0 (a.add (i * P.cellsOf e)) (P.cellsOf e) = some vs ∧ VRs mu pr w.heap cells vs ∧ ones cells = true ∧ Shp P e cells ∧ vs.length = P.cellsOf e := by
          intro i hi
          have h1 := hel i hi
          have h2 : elems[i]? = some (elems[i]'(by omega)) := by simp
          rw [h2] at h1
          obtain ⟨vs, h3, h4⟩ := Option.bind_eq_some_iff.1 h1
          obtain ⟨cells, g1, g2, g3⟩ := ih e vs _ he h4
          refine ⟨cells, vs, h3, g1, g2, g3, ?_⟩
          unfold World.cells? at h3
          split at h3
          · simpa using mapM_some_length h3
          · cases h3
        have hch : ∃ f : Nat → List AV × List Value, ∀ i, i < len → w.cells? 0 (a.add (i * P.cellsOf e)) (P.cellsOf e) = some (f i).2 ∧ VRs mu pr w.heap (f i).1 (f i).2 ∧ ones (f i).1 = true ∧ Shp P e (f i).1 ∧ (f i).2.length = P.cellsOf e := by
          refine ⟨fun i => if h : i < len then ((each i h).choose, (each i h).choose_spec.choose) else ([], []), fun i hi => ?_⟩
          simp only [dif_pos hi]
          exact (each i hi).choose_spec.choose_spec
        obtain ⟨f, hf⟩ := hch
        have hget : ∀ (i : Nat) (el : List AV), ((List.range len).map fun i => (f i).1)[i]? = some el → i < len ∧ el = (f i).1 := by
          intro i el h
          rw [List.getElem?_map, Option.map_eq_some_iff] at h
          obtain ⟨j, hj, rfl⟩ := h
          have := List.getElem?_eq_some_iff.1 hj
          obtain ⟨h1, h2⟩ := this
          simp at h1 h2
          subst h2
          exact ⟨h1, rfl⟩
        rcases Nat.eq_zero_or_pos len with h0 | hl0
        · subst h0
          exact ⟨_, .one_mk (.tr0 true (some a) cap), rfl, .sl t e [] hu (Nat.zero_le _) (fun i el h => by simp at h)⟩
        · have cellAt : ∀ i j, i < len → j < P.cellsOf e → ∃ u, (f i).2[j]? = some u ∧ w.cell? ((a.add (i * P.cellsOf e)).add j) = some u := by
            intro i j hi hj
            obtain ⟨q1, _, _, _, q5⟩ := hf i hi
            unfold World.cells? at q1
            split at q1
            case isFalse => cases q1
            case isTrue =>
              have := mapM_some_get q1 j j (by simp [hj])
              refine ⟨_, List.getElem?_eq_getElem (by omega), ?_⟩
              rw [List.getElem?_eq_getElem (by omega : j < (f i).2.length)] at this
              exact this
          obtain ⟨b, off, spot⟩ := a
          have hspot : spot = none := by
            obtain ⟨u, _, hu⟩ := cellAt 0 0 hl0 hpos
            rw [Nat.zero_mul, show ∀ x : Addr, x.add 0 = x from fun x => rfl, show ∀ x : Addr, x.add 0 = x from fun x => rfl] at hu
            unfold World.cell? at hu
            split at hu
            · cases spot with
              | none => rfl
              | some s => simp at hu
            · cases hu
          subst hspot
          have hblk : ∃ arr ty fr, w.heap[b]? = some (.cells arr ty fr) := by
            obtain ⟨u, _, hu⟩ := cellAt 0 0 hl0 hpos
            rw [Go.WideShapes.add_plain, Go.WideShapes.add_plain] at hu
            unfold World.cell? at hu
            split at hu
            · rename_i c t' fr' hc; exact ⟨c, t', fr', hc⟩
            · cases hu
          obtain ⟨arr, ty, fr, hblk⟩ := hblk
          have harr : ∀ i j, i < len → j < P.cellsOf e → (f i).2[j]? = arr[off + i * P.cellsOf e + j]? := by
            intro i j hi hj
            obtain ⟨u, h1, h2⟩ := cellAt i j hi hj
            rw [Go.WideShapes.add_plain, Go.WideShapes.add_plain] at h2
            unfold World.cell? at h2
            simp only [hblk] at h2
            rw [h1, ← h2]
            simp
          have hlt : b < w.heap.size := (Array.getElem?_eq_some_iff.1 hblk).1
          have hsz : ((List.range len).map fun i => (f i).1).length = len := by simp
          refine ⟨[.tr true ((List.range len).map fun i => (f i).1)], .one_mk ?_, rfl, .sl t e _ hu (by omega) (fun i el h => by obtain ⟨h1, rfl⟩ := hget i el h; exact (hf i h1).2.2.2.1)⟩
          have hlen2 : ∀ i, i < len → (f i).1.length = P.cellsOf e := fun i hi => by rw [← (hf i hi).2.1.1]; exact (hf i hi).2.2.2.2
          have key := VR.tr (mu := mu) (pr := pr) (hp := w.heap) true b off cap (P.cellsOf e) arr ty fr ((List.range len).map fun i => (f i).1) (fun i j => (f i).2.getD j undef) (hpr b hlt) hblk (by rw [hsz]; exact hlc)
            (fun i el h => by obtain ⟨h1, rfl⟩ := hget i el h; exact hlen2 i h1)
            (fun i el j c h hc => by
              obtain ⟨h1, rfl⟩ := hget i el h
              have hj : j < P.cellsOf e := by rw [← hlen2 i h1]; exact (List.getElem?_eq_some_iff.1 hc).1
              rw [← harr i j h1 hj]
              have : j < (f i).2.length := by rw [(hf i h1).2.2.2.2]; exact hj
              simp [this])
            (fun i el j c h hc => by obtain ⟨h1, rfl⟩ := hget i el h; exact ones_get (hf i h1).2.2.1 hc)
            (fun i el j c h hc => by
              obtain ⟨h1, rfl⟩ := hget i el h
              obtain ⟨u, hu1, hu2⟩ := (hf i h1).2.1.2 j c hc
              simp only [List.getD, hu1, Option.getD_some]
              exact hu2)
          rw [hsz] at key
          exact key
    case h_5 fs hu =>
      obtain ⟨xs, m, hm, rfl, hcl, hxl, hfld⟩ := DataW.trod_struct hu h
      obtain rfl : m = n := by omega
      obtain ⟨parts, g1, g2, g3, g4⟩ := fields_av (w := w) (mu := mu) (pr := pr) hcl fs.toList 0 hok (Nat.zero_le _) (fun f hf hft => by
        obtain ⟨i, hi, hfi⟩ := List.getElem_of_mem hf
        have h1 : fs[i]? = some f := by rw [← Array.getElem?_toList, List.getElem?_eq_getElem hi, hfi]
        have h2 := hfld i f h1
        have h3 : i < xs.length := by rw [hxl]; exact (Array.getElem?_eq_some_iff.1 h1).1
        rw [List.getElem?_eq_getElem h3] at h2
        exact ih f.type _ _ hft h2)
      refine ⟨parts.flatten, by simpa using g3, g4, .st t fs parts hu (by simpa using g1) (fun i f p hf hp => g2 i f p (by simpa using hf) hp)⟩
    case h_6 => cases hok

/-- A value of its cells. -/
def avOf (P : Program) (t : TypeId) (cells : List AV) : AV := match P.underlying t with
  | some (.struct _) => .agg cells
  | _ => cells.headD .undef

theorem arg_av {ts : List TypeId} (hts : tyOk P ts = true) (hpr : ∀ b, b < w.heap.size → pr true b) {t : TypeId} (ht : t ∈ ts) {v : Value} {base : Nat} (hok : Value.okWide P w .any base t v) {d : DataW H} {ps : List MemPlace}
    (hd : DataW.Trod enc P w 0 (fun _ => true) true t v d ps) : ∃ cells, Shp P t cells ∧ VR mu pr w.heap (avOf P t cells) v := by
  obtain ⟨fuel, hf⟩ := hd
  obtain ⟨cells, h1, h2, h3⟩ := shp_of (mu := mu) hts hpr fuel t _ _ ht hf
  refine ⟨cells, h3, ?_⟩
  have hk := List.all_eq_true.1 hts t ht
  have single : v.cells = #[v] → VR mu pr w.heap (cells.headD .undef) v := by
    intro hc
    rw [hc] at h1
    obtain ⟨l, hl⟩ := h1
    cases cells with
    | nil => simp at l
    | cons c cs =>
      obtain ⟨u, hu1, hu2⟩ := hl 0 c rfl
      simp at hu1
      subst hu1
      exact hu2
  unfold avOf
  split at hk
  case h_1 hu => rw [hu]; obtain ⟨b, rfl⟩ := Go.WideShapes.okWide_bool hu hok; exact single rfl
  case h_2 k hu => rw [hu]; obtain ⟨m, rfl⟩ := Go.WideShapes.okWide_int hu hok; exact single rfl
  case h_3 hu => rw [hu]; obtain ⟨s, rfl⟩ := Go.WideShapes.okWide_string hu hok; exact single rfl
  case h_4 e hu => rw [hu]; obtain ⟨a, len, cap, rfl⟩ := Go.WideShapes.okWide_slice hu hok; exact single rfl
  case h_5 fs hu =>
    rw [hu]
    simp only
    have hok' := hok
    unfold Value.okWide at hok'
    rw [hu] at hok'
    obtain ⟨cs, rfl, _, _⟩ := hok'
    have := VR.agg_mk (mu := mu) (pr := pr) (hp := w.heap) h1 h2
    simpa [Value.cells] using this
  case h_6 => cases hk
end
end Go.Proofs.Ytfgaoojogididaa.AM
