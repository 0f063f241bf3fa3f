/-
  The A-machine, part 6: slices that are made, stores, append, copy, clear.
-/
import Derived.Test.YtfgaoojogididaaA5
set_option linter.unusedVariables false
set_option linter.unusedSimpArgs false
namespace Go.Proofs.Ytfgaoojogididaa.AM
open Go.RowKit

def tby (P : Program) (t : TypeId) : Option Nat := (P.info? t).map (·.bytes)
theorem tby_inv {P : Program} {t : TypeId} {n : Nat} (h : tby P t = some n) : ∃ i, P.info? t = some i ∧ i.bytes = n := by
  unfold tby at h
  simpa [Option.map_eq_some_iff] using h
theorem tsz_inv {P : Program} {t : TypeId} {n : Nat} (h : tsz P t = some n) : ∃ i, P.info? t = some i ∧ i.size = n := by
  unfold tsz at h
  simpa [Option.map_eq_some_iff] using h

section
variable {P : Program} {mu : Nm → Nat → Option Loc} {pr : Bool → Nat → Prop} {hp : Array Obj} {h : Hp} {w w' : World}

/-! ### Composite literals of slices -/
def buildSliceA (P : Program) (t : TypeId) (len : Nat) (parts : List (Nat × AV)) (h : Hp) (n : Nm) : Option (AV × Hp) :=
  match telem P t with
  | some e => match tsz P e, tzero P e with
    | some s, some z => if parts.map (·.1) = List.range len ∧ z.length = s ∧ 0 < s ∧ len * s ≤ 16777216 ∧ parts.all (fun p => p.2.stored && p.2.cells.length == s) = true
      then some (.sl n 0 0 len, h.put n ⟨0, s, parts.map fun p => p.2.cells⟩) else none
    | _, _ => none
  | none => none

theorem fill_all (s : Nat) : ∀ (vals : List Value) (k : Nat) (cells : Array Value), (∀ v ∈ vals, v.cells.size = s) → (k + vals.length) * s ≤ cells.size →
    Instr.fill (fun i => some (i * s, s)) cells ((vals.zipIdx k).map fun p => (p.2, p.1)) = some (cells.toList.take (k * s) ++ (vals.flatMap fun v => v.cells.toList) ++ cells.toList.drop ((k + vals.length) * s)).toArray
  | [], k, cells, _, _ => by simp [Instr.fill]
  | v :: vals, k, cells, hv, hl => by
    have hv0 := hv v (by simp)
    simp only [List.length_cons] at hl
    have e1 : k * s + s ≤ cells.size := by
      have : (k + 1) * s ≤ (k + (vals.length + 1)) * s := Nat.mul_le_mul_right _ (by omega)
      rw [Nat.add_mul] at this
      omega
    simp only [List.zipIdx_cons, List.map_cons, Instr.fill]
    rw [if_neg (by simp [hv0]; exact e1), fill_step cells v.cells (k * s) (by rw [hv0]; exact e1), fill_all s vals (k + 1) _ (fun u hu => hv u (by simp [hu])) (by
      simp only [List.size_toArray, List.length_append, List.length_take, List.length_drop, Array.length_toList, hv0]
      have : (k + 1 + vals.length) * s = (k + (vals.length + 1)) * s := by congr 1; omega
      omega)]
    congr 2
    have hlen : (cells.toList.take (k * s)).length = k * s := by simp; omega
    have hlen2 : (cells.toList.take (k * s) ++ v.cells.toList).length = (k + 1) * s := by simp [hv0, Nat.add_mul]; omega
    rw [List.flatMap_cons, List.take_left' hlen2, ← List.append_assoc (cells.toList.take (k * s)) v.cells.toList]
    congr 1
    rw [List.drop_append, List.drop_eq_nil_of_le (by rw [hlen2]; exact Nat.mul_le_mul_right _ (by omega)), List.nil_append, hlen2, List.drop_drop, hv0]
    congr 1
    simp only [List.length_cons, Nat.add_mul, Nat.one_mul]
    omega

theorem VRs.flatMap {ρ : Operand → AV} {σ : Operand → Value} (hρ : ∀ x, VR mu pr hp (ρ x) (σ x)) : ∀ (l : List Operand), (∀ x ∈ l, (ρ x).stored = true) →
    VRs mu pr hp (l.map fun x => (ρ x).cells).flatten (l.flatMap fun x => (σ x).cells.toList)
  | [], _ => .nil
  | x :: l, hs => by
    simp only [List.map_cons, List.flatten_cons, List.flatMap_cons]
    exact (cells_ok (hρ x) (hs x (by simp))).1.append (VRs.flatMap hρ l fun y hy => hs y (by simp [hy]))

theorem VR.newSl (n : Nm) (v b esz len : Nat) (arr : Array Value) (ty : TypeId) (hm : mu n v = some ⟨b, 0, esz, len⟩) (hb : hp[b]? = some (.cells arr ty (0, 0))) (cap : Nat) (hc : len ≤ cap) (hs : cap * esz ≤ arr.size) (hx : cap ≤ maxLen) :
    VR mu pr hp (.sl n v 0 len) (.slice (some ⟨b, 0, none⟩) len cap) :=
  .sl n v 0 len cap 0 ⟨b, 0, esz, len⟩ arr ty (0, 0) hm hb hc (by simp) (by simpa using hc) (by simpa using hs) (by simpa using hx) (fun _ => by simp)

theorem buildSliceA_ok (R : Rel mu pr h w) {ρ : Operand → AV} {σ : Operand → Value} (hρ : ∀ x, VR mu pr w.heap (ρ x) (σ x)) {t : TypeId} {len : Nat} {parts : Array (Nat × Operand)} {n : Nm} {r : AV} {h' : Hp}
    (hfree : ∀ v, mu n v = none) (htick : n.1 < h.tick) (he : buildSliceA P t len (parts.toList.map fun p => (p.1, ρ p.2)) h n = some (r, h')) :
    ∃ mu' z w', Gives P mu pr w (Instr.buildSlice t len (parts.map fun (i, x) => (i, σ x))) r h' mu' z w' ∧ ∀ m v, m ≠ n → mu' m v = mu m v := by
  unfold buildSliceA at he
  split at he
  case h_2 => simp at he
  case h_1 e ht =>
    have hd := telem_inv ht
    split at he
    case h_2 => simp at he
    case h_1 s z hs hz =>
      split at he
      case isFalse => simp at he
      case isTrue hc =>
        simp only [Option.some.injEq, Prod.mk.injEq] at he
        obtain ⟨rfl, rfl⟩ := he
        obtain ⟨c1, c2, c3, c4, c5⟩ := hc
        have hall : ∀ p ∈ parts.toList, (ρ p.2).stored = true ∧ (ρ p.2).cells.length = s := by
          intro p hp
          have := List.all_eq_true.1 c5 (p.1, ρ p.2) (List.mem_map.2 ⟨p, hp, rfl⟩)
          simpa using this
        have hplen : parts.toList.length = len := by
          have := congrArg List.length c1
          simpa using this
        have hfst : parts.toList.map (·.1) = List.range len := by
          have := c1
          simpa [List.map_map, Function.comp_def] using this
        have hzip : (parts.toList.map fun p => (p.1, σ p.2)) = ((parts.toList.map fun p => σ p.2).zipIdx 0).map fun p => (p.2, p.1) := by
          apply List.ext_getElem?
          intro i
          by_cases hi : i < parts.toList.length
          · have hf : (parts.toList.map (·.1))[i]? = (List.range len)[i]? := by rw [hfst]
            rw [List.getElem?_map, List.getElem?_range (by omega)] at hf
            simp only [List.getElem?_map, List.getElem?_zipIdx, List.getElem?_eq_getElem hi, Option.map_some, Option.some.injEq] at hf ⊢
            simp only [Nat.zero_add, hf]
          · rw [List.getElem?_eq_none (by simp; simpa using hi), List.getElem?_eq_none (by simp; simpa using hi)]
        obtain ⟨zv, hz1, hz2, _⟩ := tzero_run (mu := mu) (pr := pr) (hp := w.heap) hz w
        have hzsz : zv.cells.size = s := by have := hz2.1; simp at this; omega
        have hvs : ∀ v ∈ parts.toList.map (fun p => σ p.2), v.cells.size = s := by
          intro v hv
          obtain ⟨p, hp, rfl⟩ := List.mem_map.1 hv
          obtain ⟨k1, _, _⟩ := cells_ok (hρ p.2) (hall p hp).1
          have := k1.1
          rw [(hall p hp).2] at this
          simpa using this
        have hflat := VRs.flatMap hρ (parts.toList.map (·.2)) (fun x hx => by obtain ⟨p, hp, rfl⟩ := List.mem_map.1 hx; exact (hall p hp).1)
        let vs : List Value := parts.toList.flatMap fun p => (σ p.2).cells.toList
        have hflat' : VRs mu pr w.heap (parts.toList.map fun p => (ρ p.2).cells).flatten vs := by
          simpa [List.map_map, Function.comp_def, List.flatMap_map, vs] using hflat
        have hcells : CellsR mu pr w.heap vs.toArray 0 s (parts.toList.map fun p => (ρ p.2).cells) := by
          refine .flat _ _ (fun e he => ?_) hflat'
          obtain ⟨p, hp, rfl⟩ := List.mem_map.1 he
          exact ⟨(hall p hp).2, (cells_ok (hρ p.2) (hall p hp).1).2.1⟩
        obtain ⟨h1, h2⟩ := R.new n s _ vs.toArray e hcells hfree htick
        have hvl : vs.length = len * s := by
          rw [hflat'.1]
          have : ∀ (l : List (Nat × Operand)), (∀ p ∈ l, (ρ p.2).cells.length = s) → (l.map fun p => (ρ p.2).cells).flatten.length = l.length * s := by
            intro l
            induction l with
            | nil => simp
            | cons p l ih =>
              intro hl
              simp only [List.map_cons, List.flatten_cons, List.length_append, List.length_cons, hl p (by simp), ih fun q hq => hl q (by simp [hq]), Nat.add_mul]
              omega
          rw [this _ fun p hp => (hall p hp).2, hplen]
        refine ⟨_, .slice (some ⟨w.heap.size, 0, none⟩) len len, _, ⟨?_, ?_, by simpa [List.map_map, Function.comp_def] using h1, by simpa [List.map_map, Function.comp_def] using h2, alloc_fr w _⟩, fun m v hm => by simp [muPut, hm]⟩
        · have hfill : Instr.fill (fun i => some (i * s, s)) ((Array.range (len * s)).map (fun x => zv.cells[x % zv.cells.size]!)) (parts.toList.map fun p => (p.1, σ p.2)) = some vs.toArray := by
            rw [hzip, fill_all s _ 0 _ hvs (by simp [← hplen])]
            have e0 : (List.drop (len * s) ((Array.range (len * s)).map (fun x => zv.cells[x % zv.cells.size]!)).toList) = [] := by simp
            simp only [Nat.zero_mul, List.take_zero, List.nil_append, Nat.zero_add, List.length_map, hplen, e0, List.append_nil, List.flatMap_map, vs]
          have hpos : len = 0 ∨ len * s ≠ 0 := by
            rcases Nat.eq_zero_or_pos len with h | h
            · exact .inl h
            · exact .inr (Nat.ne_of_gt (Nat.mul_pos h c3))
          rcases hpos with h0 | h0
          · subst h0
            have hpn : parts.toList = [] := List.eq_nil_of_length_eq_zero hplen
            have hvn : vs.toArray = #[] := by simp [vs, hpn]
            have hpn' : parts = #[] := by apply Array.ext'; simpa using hpn
            rw [hvn]
            subst hpn'
            have hr0 : Array.range 0 = #[] := by apply Array.ext'; simp
            simp [Instr.buildSlice, run_underlying hd, run_sizeOf' hs, Instr.fill, run_newRow, hr0]
          · have hpm : (parts.map fun (x : Nat × Operand) => match x with | (i, x) => (i, σ x)).toList = parts.toList.map fun p => (p.1, σ p.2) := by simp
            simp only [Instr.buildSlice, Sem.run_bind, run_underlying hd, Result.andThen_ok, run_sizeOf' hs]
            rw [if_neg (by omega), if_neg h0]
            simp only [Sem.run_bind, Sem.run_pure, Result.andThen_ok, hz1, hpm, hfill, run_newRow]
        · refine .newSl n 0 w.heap.size s len vs.toArray e (by simp [muPut]; simpa using hplen) (alloc_heap_new w _) len (Nat.le_refl _) (by simp [hvl]) ?_
          unfold maxLen
          have : len ≤ len * s := Nat.le_mul_of_pos_right _ c3
          omega

/-! ### make -/
def small : Int → Bool := fun c => decide (0 ≤ c) && decide (c ≤ 4294967296)

def makeSliceA (P : Program) (t : TypeId) (l c : AV) (h : Hp) (n : Nm) : Option (AV × Hp) :=
  match telem P t, l, c with
  | some e, .int _ l, .int _ c => match tsz P e, tby P e, tzero P e with
    | some s, some b, some z => if 0 ≤ l ∧ l ≤ c ∧ c ≤ 4294967296 ∧ b ≤ 32768 ∧ 0 < s ∧ z.length = s ∧ ones z = true
      then some (.sl n 0 0 l.toNat, h.put n ⟨0, s, List.replicate c.toNat z⟩) else none
    | _, _, _ => none
  | _, _, _ => none

theorem wrap64_small {n : Int} (h0 : 0 ≤ n) (h1 : n ≤ 4294967296) : IntKind.i64.wrap n = n := by
  simp only [IntKind.wrap, IntKind.bits, IntKind.signed]
  simp
  omega

theorem makeSliceA_ok (R : Rel mu pr h w) {t : TypeId} {l c : AV} {ul uc : Value} {n : Nm} {r : AV} {h' : Hp} (hl : VR mu pr w.heap l ul) (hcv : VR mu pr w.heap c uc)
    (hfree : ∀ v, mu n v = none) (htick : n.1 < h.tick) (he : makeSliceA P t l c h n = some (r, h')) :
    ∃ mu' z w', Gives P mu pr w (Instr.makeSlice t ul uc) r h' mu' z w' ∧ ∀ m v, m ≠ n → mu' m v = mu m v := by
  unfold makeSliceA at he
  split at he
  case h_2 => simp at he
  case h_1 e kl l kc c ht =>
    have hd := telem_inv ht
    split at he
    case h_2 => simp at he
    case h_1 s b z hs hb hz =>
      split at he
      case isFalse => simp at he
      case isTrue hcnd =>
        simp only [Option.some.injEq, Prod.mk.injEq] at he
        obtain ⟨rfl, rfl⟩ := he
        obtain ⟨c1, c2, c3, c4, c5, c6, c7⟩ := hcnd
        cases hl
        cases hcv
        obtain ⟨i, hi, hib⟩ := tby_inv hb
        obtain ⟨zv, hz1, hz2, _⟩ := tzero_run (mu := mu) (pr := pr) (hp := w.heap) hz w
        have hzsz : zv.cells.size = s := by have := hz2.1; simp at this; omega
        let arr : Array Value := (Array.range (c.toNat * s)).map fun x => zv.cells[x % zv.cells.size]!
        have hget : ∀ (i : Nat) (e : List AV) (j : Nat) (x : AV), (List.replicate c.toNat z)[i]? = some e → e[j]? = some x → x.one = true ∧ ∃ u, arr[0 + i * s + j]? = some u ∧ VR mu pr w.heap x u := by
          intro i e j x h1 h2
          rw [List.getElem?_replicate] at h1
          split at h1
          case isFalse => simp at h1
          case isTrue hi' =>
            simp only [Option.some.injEq] at h1
            subst h1
            obtain ⟨u, hu, hr⟩ := hz2.2 j x h2
            have hj : j < s := by have := (List.getElem?_eq_some_iff.1 h2).1; omega
            refine ⟨ones_get c7 h2, u, ?_, hr⟩
            have hlt : i * s + j < c.toNat * s := by
              have : (i + 1) * s ≤ c.toNat * s := Nat.mul_le_mul_right _ hi'
              rw [Nat.add_mul] at this
              omega
            have hm : (i * s + j) % s = j := by rw [Nat.mul_comm, Nat.mul_add_mod, Nat.mod_eq_of_lt hj]
            have hu' : zv.cells[j]? = some u := by simpa using hu
            simp only [arr, Nat.zero_add, Array.getElem?_map, Array.getElem?_range, hlt, if_true, Option.map_some, hzsz, hm]
            rw [getElem!_def, hu']
        have hcells : CellsR mu pr w.heap arr 0 s (List.replicate c.toNat z) := by
          refine ⟨fun i e he => ?_, hget⟩
          rw [List.getElem?_replicate] at he
          split at he
          · simp at he; rw [← he, c6]
          · simp at he
        obtain ⟨h1, h2⟩ := R.new n s _ arr e hcells hfree htick
        have hbig : ¬ ((b : Int) * c > 2 ^ 48) := by
          have h3 : (b : Int) * c ≤ 32768 * 4294967296 := Int.mul_le_mul (by omega) c3 (by omega) (by omega)
          have : (2 : Int) ^ 48 = 281474976710656 := by decide
          omega
        refine ⟨_, .slice (some ⟨w.heap.size, 0, none⟩) l.toNat c.toNat, _, ⟨?_, ?_, h1, h2, alloc_fr w _⟩, fun m v hm => by simp [muPut, hm]⟩
        · have hwl := wrap64_small c1 (by omega : l ≤ 4294967296)
          have hwc := wrap64_small (by omega : 0 ≤ c) c3
          have hnot : ((decide (c < 0) || decide ((b : Int) * c > 2 ^ 48) || decide (l < 0) || decide (l > c)) = true) = False := by
            simp only [Bool.or_eq_true, decide_eq_true_eq, eq_iff_iff, iff_false]
            omega
          have hti : (typeInfo e).run P w = .ok i w := by simp [typeInfo, hi]
          have harr0 : c.toNat * s = 0 → (Array.range (c.toNat * s)).map (fun x => (#[] : Array Value)[x % (#[] : Array Value).size]!) = arr := by
            intro h0
            apply Array.ext'
            simp [arr, h0]
          simp only [Instr.makeSlice, Sem.run_bind, run_underlying hd, Result.andThen_ok, asInt, asIntOf, Sem.run_pure, hti, hwl, hwc, hib]
          simp only [hnot, if_false, Sem.run_bind, run_askRoom, Result.andThen_ok, run_sizeOf' hs]
          split
          · rename_i h0
            simp only [Sem.run_bind, Sem.run_pure, Result.andThen_ok, harr0 h0, run_newRow]
          · simp only [Sem.run_bind, Sem.run_pure, Result.andThen_ok, hz1, run_newRow, arr]
        · refine .sl n 0 0 l.toNat c.toNat 0 ⟨w.heap.size, 0, s, c.toNat⟩ arr e (0, 0) (by simp [muPut]) (alloc_heap_new w _) (by omega) (by simp; omega) (by simp) (by simp [arr]) ?_ (fun _ => by simp)
          unfold maxLen
          omega

end
end Go.Proofs.Ytfgaoojogididaa.AM
