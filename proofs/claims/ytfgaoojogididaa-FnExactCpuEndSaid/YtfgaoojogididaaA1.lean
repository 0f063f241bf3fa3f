/-
  The A-machine, part 1: operations that only read. Each A-operation tells a value; the model's operation, over memory that stands for it, tells a value that stands for that, and leaves the world alone.
-/
import Derived.Test.YtfgaoojogididaaA0
set_option linter.unusedVariables false
set_option linter.unusedSimpArgs false
namespace Go.Proofs.Ytfgaoojogididaa.AM
open Go.RowKit

section
variable (mu : Nm → Nat → Option Loc) (pr : Bool → Nat → Prop) (hp : Array Obj)
/-- Lists of values, one by one. -/
def VRs (cs : List AV) (vs : List Value) : Prop := vs.length = cs.length ∧ ∀ (i : Nat) (c : AV), cs[i]? = some c → ∃ u, vs[i]? = some u ∧ VR mu pr hp c u
end
def ones (cs : List AV) : Bool := cs.all AV.one

section
variable {mu mu' : Nm → Nat → Option Loc} {pr pr' : Bool → Nat → Prop} {hp hp' : Array Obj}

theorem VRs.mono (x : Ext mu pr hp mu' pr' hp') {cs : List AV} {vs : List Value} (h : VRs mu pr hp cs vs) : VRs mu' pr' hp' cs vs :=
  ⟨h.1, fun i c hc => let ⟨u, hu, r⟩ := h.2 i c hc; ⟨u, hu, r.mono x⟩⟩

theorem ones_get {cs : List AV} (h : ones cs = true) {i : Nat} {c : AV} (hc : cs[i]? = some c) : c.one = true :=
  List.all_eq_true.1 h c (List.mem_of_getElem? hc)
theorem ones_of {cs : List AV} (h : ∀ (i : Nat) (c : AV), cs[i]? = some c → c.one = true) : ones cs = true := by
  refine List.all_eq_true.2 fun c hc => ?_
  obtain ⟨i, hi⟩ := List.mem_iff_getElem?.1 hc
  exact h i c hi

theorem VRs.nil : VRs mu pr hp [] [] := ⟨rfl, fun i c h => by simp at h⟩
theorem VRs.cons {c : AV} {u : Value} {cs : List AV} {vs : List Value} (h : VR mu pr hp c u) (hs : VRs mu pr hp cs vs) : VRs mu pr hp (c :: cs) (u :: vs) := by
  refine ⟨by simp [hs.1], fun i d hd => ?_⟩
  cases i with
  | zero => simp at hd; subst hd; exact ⟨u, by simp, h⟩
  | succ i => simp at hd; obtain ⟨x, hx, r⟩ := hs.2 i d hd; exact ⟨x, by simpa using hx, r⟩

theorem VRs.cons_inv {c : AV} {cs : List AV} {vs : List Value} (h : VRs mu pr hp (c :: cs) vs) : ∃ u us, vs = u :: us ∧ VR mu pr hp c u ∧ VRs mu pr hp cs us := by
  obtain ⟨hl, hg⟩ := h
  cases vs with
  | nil => simp at hl
  | cons u us =>
    obtain ⟨x, hx, r⟩ := hg 0 c (by simp)
    simp at hx
    subst hx
    exact ⟨_, us, rfl, r, by simpa using hl, fun i d hd => by simpa using hg (i + 1) d (by simpa using hd)⟩

theorem VRs.nil_inv {vs : List Value} (h : VRs mu pr hp [] vs) : vs = [] := List.eq_nil_of_length_eq_zero (by simpa using h.1)

theorem VRs.append {cs ds : List AV} {vs us : List Value} (h : VRs mu pr hp cs vs) (k : VRs mu pr hp ds us) : VRs mu pr hp (cs ++ ds) (vs ++ us) := by
  refine ⟨by simp [h.1, k.1], fun i c hc => ?_⟩
  by_cases hi : i < cs.length
  · rw [List.getElem?_append_left hi] at hc
    rw [List.getElem?_append_left (by rw [h.1]; exact hi)]
    exact h.2 i c hc
  · rw [List.getElem?_append_right (by omega)] at hc
    rw [List.getElem?_append_right (by rw [h.1]; omega), h.1]
    exact k.2 _ c hc

theorem VRs.take {cs : List AV} {vs : List Value} (n : Nat) (h : VRs mu pr hp cs vs) : VRs mu pr hp (cs.take n) (vs.take n) := by
  refine ⟨by simp [h.1], fun i c hc => ?_⟩
  rw [List.getElem?_take] at hc ⊢
  split at hc
  · rename_i hi
    rw [if_pos hi]
    exact h.2 i c hc
  · simp at hc

theorem VRs.drop {cs : List AV} {vs : List Value} (n : Nat) (h : VRs mu pr hp cs vs) : VRs mu pr hp (cs.drop n) (vs.drop n) := by
  refine ⟨by simp [h.1], fun i c hc => ?_⟩
  rw [List.getElem?_drop] at hc ⊢
  exact h.2 _ c hc

theorem VRs.of_fn {cs : List AV} {carr : Array Value} {us : Nat → Value} (h1 : carr.size = cs.length) (h2 : ∀ (i : Nat) (c : AV), cs[i]? = some c → carr[i]? = some (us i))
    (h3 : ∀ (i : Nat) (c : AV), cs[i]? = some c → VR mu pr hp c (us i)) : VRs mu pr hp cs carr.toList :=
  ⟨by simp [h1], fun i c hc => ⟨us i, by simpa using h2 i c hc, h3 i c hc⟩⟩

theorem VRs.fn_of {cs : List AV} {vs : List Value} (h : VRs mu pr hp cs vs) : ∃ us : Nat → Value, vs.toArray.size = cs.length ∧ (∀ (i : Nat) (c : AV), cs[i]? = some c → vs.toArray[i]? = some (us i)) ∧
    (∀ (i : Nat) (c : AV), cs[i]? = some c → VR mu pr hp c (us i)) := by
  refine ⟨fun i => vs.getD i undef, by simp [h.1], fun i c hc => ?_, fun i c hc => ?_⟩ <;>
    (obtain ⟨u, hu, r⟩ := h.2 i c hc; simp [List.getD, hu]; try exact r)

theorem VR.agg_mk {cs : List AV} {vs : List Value} (h : VRs mu pr hp cs vs) (ho : ones cs = true) : VR mu pr hp (.agg cs) (.agg vs.toArray) := by
  obtain ⟨us, h1, h2, h3⟩ := h.fn_of
  exact .agg cs _ us h1 h2 (fun i c hc => ones_get ho hc) h3
theorem VR.tup_mk {cs : List AV} {vs : List Value} (h : VRs mu pr hp cs vs) : VR mu pr hp (.tup cs) (.tuple vs.toArray) := by
  obtain ⟨us, h1, h2, h3⟩ := h.fn_of
  exact .tup cs _ us h1 h2 h3
theorem VR.fn_mk {f : FuncId} {cs : List AV} {vs : List Value} (h : VRs mu pr hp cs vs) : VR mu pr hp (.fn f cs) (.func (.func f) #[] vs.toArray) := by
  obtain ⟨us, h1, h2, h3⟩ := h.fn_of
  exact .fn f cs _ us h1 h2 h3
theorem VR.agg_inv {cs : List AV} {v : Value} (h : VR mu pr hp (.agg cs) v) : ∃ arr : Array Value, v = .agg arr ∧ VRs mu pr hp cs arr.toList ∧ ones cs = true := by
  cases h with
  | agg _ carr us h1 h2 h3 h4 => exact ⟨carr, rfl, .of_fn h1 h2 h4, ones_of h3⟩
theorem VR.tup_inv {cs : List AV} {v : Value} (h : VR mu pr hp (.tup cs) v) : ∃ arr : Array Value, v = .tuple arr ∧ VRs mu pr hp cs arr.toList := by
  cases h with
  | tup _ carr us h1 h2 h3 => exact ⟨carr, rfl, .of_fn h1 h2 h3⟩
theorem VR.fn_inv {f : FuncId} {cs : List AV} {v : Value} (h : VR mu pr hp (.fn f cs) v) : ∃ arr : Array Value, v = .func (.func f) #[] arr ∧ VRs mu pr hp cs arr.toList := by
  cases h with
  | fn _ _ carr us h1 h2 h3 => exact ⟨carr, rfl, .of_fn h1 h2 h3⟩
end

/-! ### Constants -/
def avc1 : Value → AV
  | .int k n => .int k n
  | .bool b => .bool b
  | .string s => .str s
  | .slice none 0 0 => .nilsl
  | .pointer none => .nilp
  | .nilIface => .nilif
  | _ => .undef
def avc : Value → AV
  | .agg cs => if ones (cs.toList.map avc1) then .agg (cs.toList.map avc1) else .undef
  | v => avc1 v

section
variable {mu mu' : Nm → Nat → Option Loc} {pr pr' : Bool → Nat → Prop} {hp hp' : Array Obj}
theorem avc1_ok (v : Value) : VR mu pr hp (avc1 v) v := by
  unfold avc1
  split <;> constructor
theorem avc1s_ok (vs : List Value) : VRs mu pr hp (vs.map avc1) vs := by
  refine ⟨by simp, fun i c hc => ?_⟩
  simp only [List.getElem?_map, Option.map_eq_some_iff] at hc
  obtain ⟨u, hu, rfl⟩ := hc
  exact ⟨u, hu, avc1_ok u⟩
theorem avc_ok (v : Value) : VR mu pr hp (avc v) v := by
  unfold avc
  split
  · split
    · rename_i cs h
      simpa using VR.agg_mk (avc1s_ok cs.toList) h
    · exact .undef _
  · exact avc1_ok v
end

/-! ### What is asked of types -/
def tsz (P : Program) (t : TypeId) : Option Nat := (P.info? t).map (·.size)
/-- How many cells a type takes, and whether it is an aggregate. -/
def tk (P : Program) (t : TypeId) : Option (Nat × Bool) :=
  match P.underlying t with
  | some d => match P.info? t with
    | some i => some (i.size, match d with | .struct _ | .array .. => true | _ => false)
    | none => none
  | none => none
def telem (P : Program) (t : TypeId) : Option TypeId := match P.underlying t with | some (.slice e) => some e | _ => none
/-- A struct's fields: where each begins, how many cells it takes, its type. -/
def tfld (P : Program) (t : TypeId) (i : Nat) : Option (Nat × Nat × TypeId) :=
  match P.underlying t with
  | some (.struct fs) => match fs[i]? with
    | some f => match P.info? f.type with
      | some x => some (f.offset, x.size, f.type)
      | none => none
    | none => none
  | _ => none
/-- The zero value's cells. -/
def tzero (P : Program) (t : TypeId) : Option (List AV) :=
  match P.info? t with
  | some i => match i.zero with
    | some z => some (z.cells.toList.map avc1)
    | none => none
  | none => none

theorem run_sizeOf' {P : Program} {t : TypeId} {n : Nat} (h : tsz P t = some n) (w : World) : (sizeOf t).run P w = .ok n w := by
  unfold tsz at h
  cases hi : P.info? t with
  | none => simp [hi] at h
  | some i => simp [hi] at h; subst h; simp [sizeOf, typeInfo, hi]

theorem run_tk {P : Program} {t : TypeId} {n : Nat} {g : Bool} (h : tk P t = some (n, g)) (w : World) : (sizeOf t).run P w = .ok n w ∧ (isAgg t).run P w = .ok g w := by
  unfold tk at h
  split at h
  case h_2 => simp at h
  case h_1 d hd =>
    split at h
    case h_2 => simp at h
    case h_1 i hi =>
      simp only [Option.some.injEq, Prod.mk.injEq] at h
      obtain ⟨rfl, rfl⟩ := h
      refine ⟨by simp [sizeOf, typeInfo, hi], ?_⟩
      cases d <;> simp [isAgg, run_underlying hd]

/-! ### Reading memory -/
/-- The cells from a place on. -/
def readCells (rows : Nm → Option Row) : AV → Nat → Option (List AV)
  | .tptr _ cs, n => if n ≤ cs.length then some (cs.take n) else none
  | .ptr nm v i off, n => match rows nm with
    | some r => if r.ver = v then match r.elems[i]? with
        | some e => if off + n ≤ e.length then some ((e.drop off).take n) else none
        | none => none
      else none
    | none => none
  | _, _ => none

theorem readCells_ok {P : Program} {mu : Nm → Nat → Option Loc} {pr : Bool → Nat → Prop} {h : Hp} {w : World} (R : Rel mu pr h w) {p : AV} {v : Value} (hv : VR mu pr w.heap p v) {n : Nat} {cs : List AV}
    (hr : readCells h.rows p n = some cs) : cs.length = n ∧ ones cs = true ∧ ∃ b o vs, v = .pointer (some ⟨b, o, none⟩) ∧ VRs mu pr w.heap cs vs ∧ ∀ (j : Nat) (u : Value), vs[j]? = some u → w.cell? ⟨b, o + j, none⟩ = some u := by
  cases p with
  | tptr g cells =>
    simp only [readCells] at hr
    split at hr
    case isFalse => simp at hr
    case isTrue hn =>
      simp only [Option.some.injEq] at hr
      subst hr
      cases hv with
      | tptr _ b o arr ty fr _ us h1 h2 h3 h4 h5 =>
        have hvs : VRs mu pr w.heap cells ((List.range cells.length).map us) :=
          ⟨by simp, fun i c hc => ⟨us i, by simp [(List.getElem?_eq_some_iff.1 hc).1], h5 i c hc⟩⟩
        refine ⟨by simp; omega, ones_of fun i c hc => ?_, b, o, _, rfl, hvs.take n, fun j u hu => ?_⟩
        · rw [List.getElem?_take] at hc
          split at hc
          · exact h4 i c hc
          · simp at hc
        · rw [List.getElem?_take] at hu
          split at hu
          case isFalse => simp at hu
          case isTrue hj =>
            have hjl : j < cells.length := by omega
            have hu' : us j = u := by simpa [hjl] using hu
            rw [cell_of_row w b (o + j) arr ty fr h2, ← hu']
            exact h3 j cells[j] (by simp [hjl])
  | ptr nm ver i off =>
    simp only [readCells] at hr
    split at hr
    case h_2 => simp at hr
    case h_1 r hrow =>
      split at hr
      case isFalse => simp at hr
      case isTrue hver =>
        split at hr
        case h_2 => simp at hr
        case h_1 e he =>
          split at hr
          case isFalse => simp at hr
          case isTrue hle =>
            simp only [Option.some.injEq] at hr
            subst hr
            cases hv with
            | ptr _ _ _ _ l hl =>
              obtain ⟨l', arr, ty, hm, hnp, hb, he1, he2, hc1, hc2⟩ := R.row nm r hrow
              rw [hver, hl] at hm
              cases hm
              have key : ∀ (j : Nat) (c : AV), e[j]? = some c → ∃ u, arr[l.o + i * l.esz + j]? = some u ∧ VR mu pr w.heap c u := fun j c hc => (hc2 i e j c he hc).2
              have hget : ∀ j, j < e.length → (arr[l.o + i * l.esz + j]?).isSome = true := fun j hj => by
                obtain ⟨u, hu, _⟩ := key j e[j] (by simp [hj]); simp [hu]
              have hvs : VRs mu pr w.heap e ((List.range e.length).map fun j => (arr[l.o + i * l.esz + j]?).getD undef) :=
                ⟨by simp, fun j c hc => by
                  have hj := (List.getElem?_eq_some_iff.1 hc).1
                  obtain ⟨u, hu, r⟩ := key j c hc
                  exact ⟨u, by simp [hj, hu], r⟩⟩
              refine ⟨by simp; omega, ones_of fun j c hc => ?_, l.b, l.o + i * l.esz + off, _, rfl, (hvs.drop off).take n, fun j u hu => ?_⟩
              · rw [List.getElem?_take] at hc
                split at hc
                · rw [List.getElem?_drop] at hc
                  exact (hc2 i e _ c he hc).1
                · simp at hc
              · rw [List.getElem?_take] at hu
                split at hu
                case isFalse => simp at hu
                case isTrue hj =>
                  rw [List.getElem?_drop] at hu
                  have hjl : off + j < e.length := by omega
                  obtain ⟨x, hx, _⟩ := key (off + j) e[off + j] (by simp [hjl])
                  have hu' : x = u := by simpa [hjl, hx] using hu
                  rw [cell_of_row w l.b _ arr ty (0, 0) hb, ← hu', ← hx]
                  congr 1
                  omega
  | _ => simp [readCells] at hr

/-- A variable's value. -/
def loadA (P : Program) (rows : Nm → Option Row) (t : TypeId) (p : AV) : Option AV :=
  match tk P t with
  | some (n, true) => (readCells rows p n).map .agg
  | some (_, false) => match readCells rows p 1 with
    | some [c] => some c
    | _ => none
  | none => none

theorem loadA_ok {P : Program} {mu : Nm → Nat → Option Loc} {pr : Bool → Nat → Prop} {h : Hp} {w : World} (R : Rel mu pr h w) {t : TypeId} {p r : AV} {v : Value} (hv : VR mu pr w.heap p v) (hl : loadA P h.rows t p = some r) :
    ∃ u, (Instr.loadAt t v).run P w = .ok u w ∧ VR mu pr w.heap r u := by
  unfold loadA at hl
  split at hl
  case h_3 => simp at hl
  case h_1 n hn =>
    simp only [Option.map_eq_some_iff] at hl
    obtain ⟨cs, hcs, rfl⟩ := hl
    obtain ⟨hlen, hone, b, o, vs, rfl, hvs, hcell⟩ := readCells_ok (P := P) R hv hcs
    have hlc := run_loadCells_list (P := P) w ⟨b, o, none⟩ vs (fun j u hu => by rw [Addr.add_lit]; exact hcell j u hu)
    rw [hvs.1, hlen] at hlc
    refine ⟨.agg vs.toArray, ?_, VR.agg_mk hvs hone⟩
    simp [Instr.loadAt, Instr.sureAddr, loadVar, (run_tk hn w).1, (run_tk hn w).2, hlc]
  case h_2 n hn =>
    split at hl
    case h_2 => simp at hl
    case h_1 c hcs =>
      simp only [Option.some.injEq] at hl
      subst hl
      obtain ⟨hlen, hone, b, o, vs, rfl, hvs, hcell⟩ := readCells_ok (P := P) R hv hcs
      obtain ⟨u, us, rfl, hu, hn'⟩ := hvs.cons_inv
      have hc0 := hcell 0 u (by simp)
      simp only [Nat.add_zero] at hc0
      refine ⟨u, ?_, hu⟩
      simp [Instr.loadAt, Instr.sureAddr, loadVar, (run_tk hn w).1, (run_tk hn w).2, run_load, hc0]

end Go.Proofs.Ytfgaoojogididaa.AM
