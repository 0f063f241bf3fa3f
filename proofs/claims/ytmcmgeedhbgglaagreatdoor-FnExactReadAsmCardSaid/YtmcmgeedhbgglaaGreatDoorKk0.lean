/- Lemmas: an abstract machine over named rows, and what single functions compute (parts A0, A1, A2, A3, A4, A5, A6, A7, A8, A9, A10, A11, A12, A13, A14, A15, A16). -/
import Derived.Orders
import Derived.Below
import Derived.WalkKit
import Derived.Lib.LaidTab
import Derived.Lib.ItoaNum
import Derived.Laws.StructEq
import Derived.Laws.Strings
import Derived.Laws.Small
import Derived.Laws.BytesString
import Derived.Laws.CopyRow
import Derived.Laws.AppendOwn

set_option linter.unusedVariables false
set_option linter.unusedSimpArgs false
namespace Go.Proofs.YtmcmgeedhbgglaaGreatDoor.AM
open Go.RowKit

/-- A row's name: the tick of the region that made it, the operation's number there, and a count. -/
abbrev Nm := Nat × Nat × Nat

/-- Abstract values. 'tr': a slice that nobody writes, element by element, each its cells (false: never again; true: lent, as long as the call runs); 'sl', 'ptr': into a named row; 'tptr': into an element of a tree. -/
inductive AV where
  | undef
  | int (k : IntKind) (n : Int)
  | bool (b : Bool)
  | str (s : ByteArray)
  | nilsl
  | tr (b : Bool) (elems : List (List AV))
  | sl (n : Nm) (ver off len : Nat)
  | nilp
  | ptr (n : Nm) (ver i off : Nat)
  | tptr (b : Bool) (cells : List AV)
  | fn (f : FuncId) (captured : List AV)
  | agg (cells : List AV)
  | tup (vs : List AV)
  | nilif
  | errv
  deriving Inhabited

/-- It takes one cell. -/
def AV.one : AV → Bool
  | .undef | .agg _ | .tup _ => false
  | _ => true

structure Row where
  ver : Nat
  esz : Nat
  elems : List (List AV)

structure Hp where
  rows : Nm → Option Row
  tick : Nat

/-- Where a row lies: its block, its first cell there, an element's cells, and how many elements it has. -/
structure Loc where
  b : Nat
  o : Nat
  esz : Nat
  rlen : Nat

inductive VR (mu : Nm → Nat → Option Loc) (pr : Bool → Nat → Prop) (hp : Array Obj) : AV → Value → Prop
  | undef (v : Value) : VR mu pr hp .undef v
  | int (k : IntKind) (n : Int) : VR mu pr hp (.int k n) (.int k n)
  | bool (b : Bool) : VR mu pr hp (.bool b) (.bool b)
  | str (s : ByteArray) : VR mu pr hp (.str s) (.string s)
  | nilsl : VR mu pr hp .nilsl (.slice none 0 0)
  | tr0 (g : Bool) (a : Option Addr) (cap : Nat) : VR mu pr hp (.tr g []) (.slice a 0 cap)
  | tr (g : Bool) (b o cap esz : Nat) (arr : Array Value) (ty : TypeId) (fr : Nat × Nat) (elems : List (List AV)) (us : Nat → Nat → Value) :
      pr g b → hp[b]? = some (.cells arr ty fr) → elems.length ≤ cap → (∀ (i : Nat) (e : List AV), elems[i]? = some e → e.length = esz) →
      (∀ (i : Nat) (e : List AV) (j : Nat) (c : AV), elems[i]? = some e → e[j]? = some c → arr[o + i * esz + j]? = some (us i j)) →
      (∀ (i : Nat) (e : List AV) (j : Nat) (c : AV), elems[i]? = some e → e[j]? = some c → c.one = true) →
      (∀ (i : Nat) (e : List AV) (j : Nat) (c : AV), elems[i]? = some e → e[j]? = some c → VR mu pr hp c (us i j)) →
      VR mu pr hp (.tr g elems) (.slice (some ⟨b, o, none⟩) elems.length cap)
  | sl (n : Nm) (ver off len cap ao : Nat) (l : Loc) (arr : Array Value) (ty : TypeId) (fr : Nat × Nat) :
      mu n ver = some l → hp[l.b]? = some (.cells arr ty fr) → len ≤ cap → off + len ≤ l.rlen → l.rlen ≤ off + cap → l.o + (off + cap) * l.esz ≤ arr.size → off + cap ≤ maxLen →
      (0 < cap → ao = l.o + off * l.esz) →
      VR mu pr hp (.sl n ver off len) (.slice (some ⟨l.b, ao, none⟩) len cap)
  | nilp : VR mu pr hp .nilp (.pointer none)
  | ptr (n : Nm) (ver i off : Nat) (l : Loc) : mu n ver = some l → VR mu pr hp (.ptr n ver i off) (.pointer (some ⟨l.b, l.o + i * l.esz + off, none⟩))
  | tptr (g : Bool) (b o : Nat) (arr : Array Value) (ty : TypeId) (fr : Nat × Nat) (cells : List AV) (us : Nat → Value) :
      pr g b → hp[b]? = some (.cells arr ty fr) → (∀ (j : Nat) (c : AV), cells[j]? = some c → arr[o + j]? = some (us j)) → (∀ (j : Nat) (c : AV), cells[j]? = some c → c.one = true) → (∀ (j : Nat) (c : AV), cells[j]? = some c → VR mu pr hp c (us j)) →
      VR mu pr hp (.tptr g cells) (.pointer (some ⟨b, o, none⟩))
  | fn (f : FuncId) (cap : List AV) (carr : Array Value) (us : Nat → Value) :
      carr.size = cap.length → (∀ (i : Nat) (c : AV), cap[i]? = some c → carr[i]? = some (us i)) → (∀ (i : Nat) (c : AV), cap[i]? = some c → VR mu pr hp c (us i)) → VR mu pr hp (.fn f cap) (.func (.func f) #[] carr)
  | agg (cells : List AV) (carr : Array Value) (us : Nat → Value) :
      carr.size = cells.length → (∀ (i : Nat) (c : AV), cells[i]? = some c → carr[i]? = some (us i)) → (∀ (i : Nat) (c : AV), cells[i]? = some c → c.one = true) → (∀ (i : Nat) (c : AV), cells[i]? = some c → VR mu pr hp c (us i)) → VR mu pr hp (.agg cells) (.agg carr)
  | tup (vs : List AV) (carr : Array Value) (us : Nat → Value) :
      carr.size = vs.length → (∀ (i : Nat) (c : AV), vs[i]? = some c → carr[i]? = some (us i)) → (∀ (i : Nat) (c : AV), vs[i]? = some c → VR mu pr hp c (us i)) → VR mu pr hp (.tup vs) (.tuple carr)
  | nilif : VR mu pr hp .nilif .nilIface
  | errv (t : TypeId) (v : Value) : VR mu pr hp .errv (.iface t v)

/-- Memory is extended: names stay, what is protected stays and reads as it did, no block of cells is lost or shrinks. -/
structure Ext (mu : Nm → Nat → Option Loc) (pr : Bool → Nat → Prop) (hp : Array Obj) (mu' : Nm → Nat → Option Loc) (pr' : Bool → Nat → Prop) (hp' : Array Obj) : Prop where
  names : ∀ n v l, mu n v = some l → mu' n v = some l
  keep : ∀ c b, pr c b → pr' c b
  same : ∀ c b, pr c b → hp'[b]? = hp[b]?
  size : ∀ (b : Nat) (arr : Array Value) (ty : TypeId) (fr : Nat × Nat), hp[b]? = some (.cells arr ty fr) → ∃ (arr' : Array Value) (fr' : Nat × Nat), hp'[b]? = some (.cells arr' ty fr') ∧ arr'.size = arr.size

section
variable {mu mu' mu'' : Nm → Nat → Option Loc} {pr pr' pr'' : Bool → Nat → Prop} {hp hp' hp'' : Array Obj}

theorem Ext.refl : Ext mu pr hp mu pr hp := ⟨fun _ _ _ h => h, fun _ _ h => h, fun _ _ _ => rfl, fun _ arr _ fr h => ⟨arr, fr, h, rfl⟩⟩

theorem Ext.trans (h : Ext mu pr hp mu' pr' hp') (k : Ext mu' pr' hp' mu'' pr'' hp'') : Ext mu pr hp mu'' pr'' hp'' := by
  refine ⟨fun n v l e => k.names _ _ _ (h.names _ _ _ e), fun c b e => k.keep _ _ (h.keep _ _ e), fun c b e => (k.same c b (h.keep _ _ e)).trans (h.same c b e), fun b arr ty fr e => ?_⟩
  obtain ⟨a1, f1, e1, s1⟩ := h.size b arr ty fr e
  obtain ⟨a2, f2, e2, s2⟩ := k.size b a1 ty f1 e1
  exact ⟨a2, f2, e2, s2.trans s1⟩

theorem VR.mono (x : Ext mu pr hp mu' pr' hp') {a : AV} {v : Value} (h : VR mu pr hp a v) : VR mu' pr' hp' a v := by
  induction h with
  | undef v => exact .undef v
  | int k n => exact .int k n
  | bool b => exact .bool b
  | str s => exact .str s
  | nilsl => exact .nilsl
  | tr0 g a cap => exact .tr0 g a cap
  | tr g b o cap esz arr ty fr elems us h1 h2 h3 h4 h5 h6 _ ih => exact .tr g b o cap esz arr ty fr elems us (x.keep _ _ h1) ((x.same _ _ h1).trans h2) h3 h4 h5 h6 ih
  | sl n ver off len cap ao l arr ty fr h1 h2 h3 h4 h5 h6 h7 h8 =>
    obtain ⟨a', f', e', s'⟩ := x.size _ _ _ _ h2
    exact .sl n ver off len cap ao l a' ty f' (x.names _ _ _ h1) e' h3 h4 h5 (by rw [s']; exact h6) h7 h8
  | nilp => exact .nilp
  | ptr n ver i off l h1 => exact .ptr n ver i off l (x.names _ _ _ h1)
  | tptr g b o arr ty fr cells us h1 h2 h3 h4 _ ih => exact .tptr g b o arr ty fr cells us (x.keep _ _ h1) ((x.same _ _ h1).trans h2) h3 h4 ih
  | fn f cap carr us h1 h2 _ ih => exact .fn f cap carr us h1 h2 ih
  | agg cells carr us h1 h2 h3 _ ih => exact .agg cells carr us h1 h2 h3 ih
  | tup vs carr us h1 h2 _ ih => exact .tup vs carr us h1 h2 ih
  | nilif => exact .nilif
  | errv t v => exact .errv t v

/-- A cell's value is stored as one. -/
theorem VR.oneCell {a : AV} {v : Value} (h : VR mu pr hp a v) (ho : a.one = true) : v.oneCell' = true := by
  cases h <;> first | rfl | simp [AV.one] at ho

end

/-- The row's cells, in the array from place 'o' on. -/
def CellsR (mu : Nm → Nat → Option Loc) (pr : Bool → Nat → Prop) (hp : Array Obj) (arr : Array Value) (o esz : Nat) (elems : List (List AV)) : Prop :=
  (∀ (i : Nat) (e : List AV), elems[i]? = some e → e.length = esz) ∧
  (∀ (i : Nat) (e : List AV) (j : Nat) (c : AV), elems[i]? = some e → e[j]? = some c → c.one = true ∧ ∃ u, arr[o + i * esz + j]? = some u ∧ VR mu pr hp c u)

/-- Blocks that the program's start has laid, and that nothing changes. -/
def tabs : List (Nat × (Array Value → Prop)) := [(5, fun a => a = (Go.Lib.pow10Tab.map fun z => Value.int .u64 z).toArray), (0, fun a => ∃ m, a = #[Value.int .i64 m]), (1, fun a => ∃ t p, a = #[Value.iface t p]), (2, fun a => ∃ t p, a = #[Value.iface t p])]
def Tab (pr : Bool → Nat → Prop) (hp : Array Obj) : Prop := ∀ b q, (b, q) ∈ tabs → pr true b ∧ ∃ arr ty fr, hp[b]? = some (.cells arr ty fr) ∧ q arr
theorem Tab.ext {mu mu' : Nm → Nat → Option Loc} {pr pr' : Bool → Nat → Prop} {hp hp' : Array Obj} (t : Tab pr hp) (x : Ext mu pr hp mu' pr' hp') : Tab pr' hp' := fun b q h => ⟨x.keep _ _ (t b q h).1, by rw [x.same _ _ (t b q h).1]; exact (t b q h).2⟩

/-- What the heap of rows stands for. -/
structure Rel (mu : Nm → Nat → Option Loc) (pr : Bool → Nat → Prop) (h : Hp) (w : World) : Prop where
  row : ∀ n r, h.rows n = some r → ∃ l arr ty, mu n r.ver = some l ∧ (∀ c, ¬ pr c l.b) ∧ w.heap[l.b]? = some (.cells arr ty (0, 0)) ∧ l.esz = r.esz ∧ l.rlen = r.elems.length ∧
    CellsR mu pr w.heap arr l.o l.esz r.elems
  inj : ∀ n r n' r' l l', h.rows n = some r → h.rows n' = some r' → mu n r.ver = some l → mu n' r'.ver = some l' → l.b = l'.b → n = n'
  fresh : ∀ (t : Nat) i j v, h.tick ≤ t → mu (t, i, j) v = none
  vers : ∀ n r v, h.rows n = some r → r.ver < v → mu n v = none
  lt : ∀ c b, pr c b → b < w.heap.size
  tab : Tab pr w.heap

/-- What a step leaves as it was. -/
structure Fr (w w' : World) : Prop where
  os : w'.os = w.os
  tape : w'.tape = w.tape
  output : w'.output = w.output
  size : w.heap.size ≤ w'.heap.size

theorem Fr.refl (w : World) : Fr w w := ⟨rfl, rfl, rfl, Nat.le_refl _⟩
theorem Fr.trans {a b c : World} (h : Fr a b) (k : Fr b c) : Fr a c := ⟨k.os.trans h.os, k.tape.trans h.tape, k.output.trans h.output, Nat.le_trans h.size k.size⟩

end Go.Proofs.YtmcmgeedhbgglaaGreatDoor.AM

namespace Go.Proofs.YtmcmgeedhbgglaaGreatDoor.AM
open Go.RowKit

section
variable (mu : Nm → Nat → Option Loc) (pr : Bool → Nat → Prop) (hp : Array Obj)
/-- Lists of values, one by one. -/
def VRs (cs : List AV) (vs : List Value) : Prop := vs.length = cs.length ∧ ∀ (i : Nat) (c : AV), cs[i]? = some c → ∃ u, vs[i]? = some u ∧ VR mu pr hp c u
end
def ones (cs : List AV) : Bool := cs.all AV.one

section
variable {mu mu' : Nm → Nat → Option Loc} {pr pr' : Bool → Nat → Prop} {hp hp' : Array Obj}

theorem VRs.mono (x : Ext mu pr hp mu' pr' hp') {cs : List AV} {vs : List Value} (h : VRs mu pr hp cs vs) : VRs mu' pr' hp' cs vs :=
  ⟨h.1, fun i c hc => let ⟨u, hu, r⟩ := h.2 i c hc; ⟨u, hu, r.mono x⟩⟩

theorem ones_get {cs : List AV} (h : ones cs = true) {i : Nat} {c : AV} (hc : cs[i]? = some c) : c.one = true :=
  List.all_eq_true.1 h c (List.mem_of_getElem? hc)
theorem ones_of {cs : List AV} (h : ∀ (i : Nat) (c : AV), cs[i]? = some c → c.one = true) : ones cs = true := by
  refine List.all_eq_true.2 fun c hc => ?_
  obtain ⟨i, hi⟩ := List.mem_iff_getElem?.1 hc
  exact h i c hi

theorem VRs.nil : VRs mu pr hp [] [] := ⟨rfl, fun i c h => by simp at h⟩
theorem VRs.cons {c : AV} {u : Value} {cs : List AV} {vs : List Value} (h : VR mu pr hp c u) (hs : VRs mu pr hp cs vs) : VRs mu pr hp (c :: cs) (u :: vs) := by
  refine ⟨by simp [hs.1], fun i d hd => ?_⟩
  cases i with
  | zero => simp at hd; subst hd; exact ⟨u, by simp, h⟩
  | succ i => simp at hd; obtain ⟨x, hx, r⟩ := hs.2 i d hd; exact ⟨x, by simpa using hx, r⟩

theorem VRs.cons_inv {c : AV} {cs : List AV} {vs : List Value} (h : VRs mu pr hp (c :: cs) vs) : ∃ u us, vs = u :: us ∧ VR mu pr hp c u ∧ VRs mu pr hp cs us := by
  obtain ⟨hl, hg⟩ := h
  cases vs with
  | nil => simp at hl
  | cons u us =>
    obtain ⟨x, hx, r⟩ := hg 0 c (by simp)
    simp at hx
    subst hx
    exact ⟨_, us, rfl, r, by simpa using hl, fun i d hd => by simpa using hg (i + 1) d (by simpa using hd)⟩

theorem VRs.nil_inv {vs : List Value} (h : VRs mu pr hp [] vs) : vs = [] := List.eq_nil_of_length_eq_zero (by simpa using h.1)

theorem VRs.append {cs ds : List AV} {vs us : List Value} (h : VRs mu pr hp cs vs) (k : VRs mu pr hp ds us) : VRs mu pr hp (cs ++ ds) (vs ++ us) := by
  refine ⟨by simp [h.1, k.1], fun i c hc => ?_⟩
  by_cases hi : i < cs.length
  · rw [List.getElem?_append_left hi] at hc
    rw [List.getElem?_append_left (by rw [h.1]; exact hi)]
    exact h.2 i c hc
  · rw [List.getElem?_append_right (by omega)] at hc
    rw [List.getElem?_append_right (by rw [h.1]; omega), h.1]
    exact k.2 _ c hc

theorem VRs.take {cs : List AV} {vs : List Value} (n : Nat) (h : VRs mu pr hp cs vs) : VRs mu pr hp (cs.take n) (vs.take n) := by
  refine ⟨by simp [h.1], fun i c hc => ?_⟩
  rw [List.getElem?_take] at hc ⊢
  split at hc
  · rename_i hi
    rw [if_pos hi]
    exact h.2 i c hc
  · simp at hc

theorem VRs.drop {cs : List AV} {vs : List Value} (n : Nat) (h : VRs mu pr hp cs vs) : VRs mu pr hp (cs.drop n) (vs.drop n) := by
  refine ⟨by simp [h.1], fun i c hc => ?_⟩
  rw [List.getElem?_drop] at hc ⊢
  exact h.2 _ c hc

theorem VRs.of_fn {cs : List AV} {carr : Array Value} {us : Nat → Value} (h1 : carr.size = cs.length) (h2 : ∀ (i : Nat) (c : AV), cs[i]? = some c → carr[i]? = some (us i))
    (h3 : ∀ (i : Nat) (c : AV), cs[i]? = some c → VR mu pr hp c (us i)) : VRs mu pr hp cs carr.toList :=
  ⟨by simp [h1], fun i c hc => ⟨us i, by simpa using h2 i c hc, h3 i c hc⟩⟩

theorem VRs.fn_of {cs : List AV} {vs : List Value} (h : VRs mu pr hp cs vs) : ∃ us : Nat → Value, vs.toArray.size = cs.length ∧ (∀ (i : Nat) (c : AV), cs[i]? = some c → vs.toArray[i]? = some (us i)) ∧
    (∀ (i : Nat) (c : AV), cs[i]? = some c → VR mu pr hp c (us i)) := by
  refine ⟨fun i => vs.getD i undef, by simp [h.1], fun i c hc => ?_, fun i c hc => ?_⟩ <;>
    (obtain ⟨u, hu, r⟩ := h.2 i c hc; simp [List.getD, hu]; try exact r)

theorem VR.agg_mk {cs : List AV} {vs : List Value} (h : VRs mu pr hp cs vs) (ho : ones cs = true) : VR mu pr hp (.agg cs) (.agg vs.toArray) := by
  obtain ⟨us, h1, h2, h3⟩ := h.fn_of
  exact .agg cs _ us h1 h2 (fun i c hc => ones_get ho hc) h3
theorem VR.tup_mk {cs : List AV} {vs : List Value} (h : VRs mu pr hp cs vs) : VR mu pr hp (.tup cs) (.tuple vs.toArray) := by
  obtain ⟨us, h1, h2, h3⟩ := h.fn_of
  exact .tup cs _ us h1 h2 h3
theorem VR.fn_mk {f : FuncId} {cs : List AV} {vs : List Value} (h : VRs mu pr hp cs vs) : VR mu pr hp (.fn f cs) (.func (.func f) #[] vs.toArray) := by
  obtain ⟨us, h1, h2, h3⟩ := h.fn_of
  exact .fn f cs _ us h1 h2 h3
theorem VR.agg_inv {cs : List AV} {v : Value} (h : VR mu pr hp (.agg cs) v) : ∃ arr : Array Value, v = .agg arr ∧ VRs mu pr hp cs arr.toList ∧ ones cs = true := by
  cases h with
  | agg _ carr us h1 h2 h3 h4 => exact ⟨carr, rfl, .of_fn h1 h2 h4, ones_of h3⟩
theorem VR.tup_inv {cs : List AV} {v : Value} (h : VR mu pr hp (.tup cs) v) : ∃ arr : Array Value, v = .tuple arr ∧ VRs mu pr hp cs arr.toList := by
  cases h with
  | tup _ carr us h1 h2 h3 => exact ⟨carr, rfl, .of_fn h1 h2 h3⟩
theorem VR.fn_inv {f : FuncId} {cs : List AV} {v : Value} (h : VR mu pr hp (.fn f cs) v) : ∃ arr : Array Value, v = .func (.func f) #[] arr ∧ VRs mu pr hp cs arr.toList := by
  cases h with
  | fn _ _ carr us h1 h2 h3 => exact ⟨carr, rfl, .of_fn h1 h2 h3⟩
end

/-! ### Constants -/
def avc1 : Value → AV
  | .int k n => .int k n
  | .bool b => .bool b
  | .string s => .str s
  | .slice none 0 0 => .nilsl
  | .pointer none => .nilp
  | .nilIface => .nilif
  | _ => .undef
def avc : Value → AV
  | .agg cs => if ones (cs.toList.map avc1) then .agg (cs.toList.map avc1) else .undef
  | v => avc1 v

section
variable {mu mu' : Nm → Nat → Option Loc} {pr pr' : Bool → Nat → Prop} {hp hp' : Array Obj}
theorem avc1_ok (v : Value) : VR mu pr hp (avc1 v) v := by
  unfold avc1
  split <;> constructor
theorem avc1s_ok (vs : List Value) : VRs mu pr hp (vs.map avc1) vs := by
  refine ⟨by simp, fun i c hc => ?_⟩
  simp only [List.getElem?_map, Option.map_eq_some_iff] at hc
  obtain ⟨u, hu, rfl⟩ := hc
  exact ⟨u, hu, avc1_ok u⟩
theorem avc_ok (v : Value) : VR mu pr hp (avc v) v := by
  unfold avc
  split
  · split
    · rename_i cs h
      simpa using VR.agg_mk (avc1s_ok cs.toList) h
    · exact .undef _
  · exact avc1_ok v
end

/-! ### What is asked of types -/
def tsz (P : Program) (t : TypeId) : Option Nat := (P.info? t).map (·.size)
/-- How many cells a type takes, and whether it is an aggregate. -/
def tk (P : Program) (t : TypeId) : Option (Nat × Bool) :=
  match P.underlying t with
  | some d => match P.info? t with
    | some i => some (i.size, match d with | .struct _ | .array .. => true | _ => false)
    | none => none
  | none => none
def telem (P : Program) (t : TypeId) : Option TypeId := match P.underlying t with | some (.slice e) => some e | _ => none
/-- A struct's fields: where each begins, how many cells it takes, its type. -/
def tfld (P : Program) (t : TypeId) (i : Nat) : Option (Nat × Nat × TypeId) :=
  match P.underlying t with
  | some (.struct fs) => match fs[i]? with
    | some f => match P.info? f.type with
      | some x => some (f.offset, x.size, f.type)
      | none => none
    | none => none
  | _ => none
/-- The zero value's cells. -/
def tzero (P : Program) (t : TypeId) : Option (List AV) :=
  match P.info? t with
  | some i => match i.zero with
    | some z => some (z.cells.toList.map avc1)
    | none => none
  | none => none

theorem run_sizeOf' {P : Program} {t : TypeId} {n : Nat} (h : tsz P t = some n) (w : World) : (sizeOf t).run P w = .ok n w := by
  unfold tsz at h
  cases hi : P.info? t with
  | none => simp [hi] at h
  | some i => simp [hi] at h; subst h; simp [sizeOf, typeInfo, hi]

theorem run_tk {P : Program} {t : TypeId} {n : Nat} {g : Bool} (h : tk P t = some (n, g)) (w : World) : (sizeOf t).run P w = .ok n w ∧ (isAgg t).run P w = .ok g w := by
  unfold tk at h
  split at h
  case h_2 => simp at h
  case h_1 d hd =>
    split at h
    case h_2 => simp at h
    case h_1 i hi =>
      simp only [Option.some.injEq, Prod.mk.injEq] at h
      obtain ⟨rfl, rfl⟩ := h
      refine ⟨by simp [sizeOf, typeInfo, hi], ?_⟩
      cases d <;> simp [isAgg, run_underlying hd]

/-! ### Reading memory -/
/-- The cells from a place on. -/
def readCells (rows : Nm → Option Row) : AV → Nat → Option (List AV)
  | .tptr _ cs, n => if n ≤ cs.length then some (cs.take n) else none
  | .ptr nm v i off, n => match rows nm with
    | some r => if r.ver = v then match r.elems[i]? with
        | some e => if off + n ≤ e.length then some ((e.drop off).take n) else none
        | none => none
      else none
    | none => none
  | _, _ => none

theorem readCells_ok {P : Program} {mu : Nm → Nat → Option Loc} {pr : Bool → Nat → Prop} {h : Hp} {w : World} (R : Rel mu pr h w) {p : AV} {v : Value} (hv : VR mu pr w.heap p v) {n : Nat} {cs : List AV}
    (hr : readCells h.rows p n = some cs) : cs.length = n ∧ ones cs = true ∧ ∃ b o vs, v = .pointer (some ⟨b, o, none⟩) ∧ VRs mu pr w.heap cs vs ∧ ∀ (j : Nat) (u : Value), vs[j]? = some u → w.cell? ⟨b, o + j, none⟩ = some u := by
  cases p with
  | tptr g cells =>
    simp only [readCells] at hr
    split at hr
    case isFalse => simp at hr
    case isTrue hn =>
      simp only [Option.some.injEq] at hr
      subst hr
      cases hv with
      | tptr _ b o arr ty fr _ us h1 h2 h3 h4 h5 =>
        have hvs : VRs mu pr w.heap cells ((List.range cells.length).map us) :=
          ⟨by simp, fun i c hc => ⟨us i, by simp [(List.getElem?_eq_some_iff.1 hc).1], h5 i c hc⟩⟩
        refine ⟨by simp; omega, ones_of fun i c hc => ?_, b, o, _, rfl, hvs.take n, fun j u hu => ?_⟩
        · rw [List.getElem?_take] at hc
          split at hc
          · exact h4 i c hc
          · simp at hc
        · rw [List.getElem?_take] at hu
          split at hu
          case isFalse => simp at hu
          case isTrue hj =>
            have hjl : j < cells.length := by omega
            have hu' : us j = u := by simpa [hjl] using hu
            rw [cell_of_row w b (o + j) arr ty fr h2, ← hu']
            exact h3 j cells[j] (by simp [hjl])
  | ptr nm ver i off =>
    simp only [readCells] at hr
    split at hr
    case h_2 => simp at hr
    case h_1 r hrow =>
      split at hr
      case isFalse => simp at hr
      case isTrue hver =>
        split at hr
        case h_2 => simp at hr
        case h_1 e he =>
          split at hr
          case isFalse => simp at hr
          case isTrue hle =>
            simp only [Option.some.injEq] at hr
            subst hr
            cases hv with
            | ptr _ _ _ _ l hl =>
              obtain ⟨l', arr, ty, hm, hnp, hb, he1, he2, hc1, hc2⟩ := R.row nm r hrow
              rw [hver, hl] at hm
              cases hm
              have key : ∀ (j : Nat) (c : AV), e[j]? = some c → ∃ u, arr[l.o + i * l.esz + j]? = some u ∧ VR mu pr w.heap c u := fun j c hc => (hc2 i e j c he hc).2
              have hget : ∀ j, j < e.length → (arr[l.o + i * l.esz + j]?).isSome = true := fun j hj => by
                obtain ⟨u, hu, _⟩ := key j e[j] (by simp [hj]); simp [hu]
              have hvs : VRs mu pr w.heap e ((List.range e.length).map fun j => (arr[l.o + i * l.esz + j]?).getD undef) :=
                ⟨by simp, fun j c hc => by
                  have hj := (List.getElem?_eq_some_iff.1 hc).1
                  obtain ⟨u, hu, r⟩ := key j c hc
                  exact ⟨u, by simp [hj, hu], r⟩⟩
              refine ⟨by simp; omega, ones_of fun j c hc => ?_, l.b, l.o + i * l.esz + off, _, rfl, (hvs.drop off).take n, fun j u hu => ?_⟩
              · rw [List.getElem?_take] at hc
                split at hc
                · rw [List.getElem?_drop] at hc
                  exact (hc2 i e _ c he hc).1
                · simp at hc
              · rw [List.getElem?_take] at hu
                split at hu
                case isFalse => simp at hu
                case isTrue hj =>
                  rw [List.getElem?_drop] at hu
                  have hjl : off + j < e.length := by omega
                  obtain ⟨x, hx, _⟩ := key (off + j) e[off + j] (by simp [hjl])
                  have hu' : x = u := by simpa [hjl, hx] using hu
                  rw [cell_of_row w l.b _ arr ty (0, 0) hb, ← hu', ← hx]
                  congr 1
                  omega
  | _ => simp [readCells] at hr

/-- A variable's value. -/
def loadA (P : Program) (rows : Nm → Option Row) (t : TypeId) (p : AV) : Option AV :=
  match tk P t with
  | some (n, true) => (readCells rows p n).map .agg
  | some (_, false) => match readCells rows p 1 with
    | some [c] => some c
    | _ => none
  | none => none

theorem loadA_ok {P : Program} {mu : Nm → Nat → Option Loc} {pr : Bool → Nat → Prop} {h : Hp} {w : World} (R : Rel mu pr h w) {t : TypeId} {p r : AV} {v : Value} (hv : VR mu pr w.heap p v) (hl : loadA P h.rows t p = some r) :
    ∃ u, (Instr.loadAt t v).run P w = .ok u w ∧ VR mu pr w.heap r u := by
  unfold loadA at hl
  split at hl
  case h_3 => simp at hl
  case h_1 n hn =>
    simp only [Option.map_eq_some_iff] at hl
    obtain ⟨cs, hcs, rfl⟩ := hl
    obtain ⟨hlen, hone, b, o, vs, rfl, hvs, hcell⟩ := readCells_ok (P := P) R hv hcs
    have hlc := run_loadCells_list (P := P) w ⟨b, o, none⟩ vs (fun j u hu => by rw [Addr.add_lit]; exact hcell j u hu)
    rw [hvs.1, hlen] at hlc
    refine ⟨.agg vs.toArray, ?_, VR.agg_mk hvs hone⟩
    simp [Instr.loadAt, Instr.sureAddr, loadVar, (run_tk hn w).1, (run_tk hn w).2, hlc]
  case h_2 n hn =>
    split at hl
    case h_2 => simp at hl
    case h_1 c hcs =>
      simp only [Option.some.injEq] at hl
      subst hl
      obtain ⟨hlen, hone, b, o, vs, rfl, hvs, hcell⟩ := readCells_ok (P := P) R hv hcs
      obtain ⟨u, us, rfl, hu, hn'⟩ := hvs.cons_inv
      have hc0 := hcell 0 u (by simp)
      simp only [Nat.add_zero] at hc0
      refine ⟨u, ?_, hu⟩
      simp [Instr.loadAt, Instr.sureAddr, loadVar, (run_tk hn w).1, (run_tk hn w).2, run_load, hc0]

end Go.Proofs.YtmcmgeedhbgglaaGreatDoor.AM

namespace Go.Proofs.YtmcmgeedhbgglaaGreatDoor.AM
open Go.RowKit

inductive PK where
  | i | b | s
  deriving DecidableEq

def kindsOf (P : Program) : Nat → List Field → Option (List PK)
  | _, [] => some []
  | n, f :: fs => if f.name = "_" ∨ f.offset ≠ n then none else match P.underlying f.type with
    | some (.int _) => (kindsOf P (n + 1) fs).map (.i :: ·)
    | some .bool => (kindsOf P (n + 1) fs).map (.b :: ·)
    | some .string => (kindsOf P (n + 1) fs).map (.s :: ·)
    | _ => none
/-- The kinds of the cells of a struct that is compared cell by cell. -/
def tkinds (P : Program) (t : TypeId) : Option (List PK) :=
  match P.underlying t with
  | some (.struct fs) => if P.stoodInHeld t = false ∧ P.eqGuardType P.depth t = false then kindsOf P 0 fs.toList else none
  | _ => none

def eqCells : List PK → List AV → List AV → Option Bool
  | [], _, _ => some true
  | .i :: ks, .int k a :: xs, .int k' b :: ys => if k = k' then (if a == b then eqCells ks xs ys else some false) else none
  | .b :: ks, .bool a :: xs, .bool b :: ys => if a == b then eqCells ks xs ys else some false
  | .s :: ks, .str a :: xs, .str b :: ys => if a.toList == b.toList then eqCells ks xs ys else some false
  | _, _, _ => none

def isCst : Operand → Bool
  | .const _ => true
  | _ => false

def binA (P : Program) (op : BinOp) (t : TypeId) (cst : Bool) : AV → AV → Option AV
  | .int k a, .int k' b => if k = k' then match op with
      | .add => some (.int k (k.wrap (a + b)))
      | .sub => some (.int k (k.wrap (a - b)))
      | .mul => some (.int k (k.wrap (a * b)))
      | .quo => if b = 0 then none else some (.int k (k.wrap (a.tdiv b)))
      | .rem => if b = 0 then none else some (.int k (a.tmod b))
      | .and => some (.int k (k.wrap (BitVec.ofInt k.bits a &&& BitVec.ofInt k.bits b).toNat))
      | .eql => some (.bool (a == b))
      | .neq => some (.bool (a != b))
      | .lss => some (.bool (a < b))
      | .leq => some (.bool (a ≤ b))
      | .gtr => some (.bool (a > b))
      | .geq => some (.bool (a ≥ b))
      | _ => none
    else none
  | .str a, .str b => match op with
      | .add => if ((a.size + b.size : Nat) : Int) > IntKind.i64.max then none else some (.str (a ++ b))
      | .eql => some (.bool (a.toList == b.toList))
      | .neq => some (.bool (!(a.toList == b.toList)))
      | _ => none
  | .bool a, .bool b => match P.underlying t, op with
      | some .bool, .eql => some (.bool (a == b))
      | some .bool, .neq => some (.bool (!(a == b)))
      | _, _ => none
  | .agg xs, .agg ys => match op, tkinds P t with
      | .eql, some ks => (eqCells ks xs ys).map .bool
      | .neq, some ks => (eqCells ks xs ys).map fun r => .bool (!r)
      | _, _ => none
  | .errv, .nilif => match P.underlying t, op with
      | some (.interface _), .eql => some (.bool false)
      | some (.interface _), .neq => some (.bool true)
      | _, _ => none
  | .nilif, .nilif => if cst then match P.underlying t, op with
      | some (.interface _), .eql => some (.bool true)
      | some (.interface _), .neq => some (.bool false)
      | _, _ => none
    else none
  | .ptr _ _ _ _, .nilp => match P.underlying t, op with
      | some (.pointer _), .eql => some (.bool false)
      | some (.pointer _), .neq => some (.bool true)
      | _, _ => none
  | .nilp, .nilp => match P.underlying t, op with
      | some (.pointer _), .eql => some (.bool true)
      | some (.pointer _), .neq => some (.bool false)
      | _, _ => none
  | _, _ => none

theorem eqFields_ok {P : Program} {mu : Nm → Nat → Option Loc} {pr : Bool → Nat → Prop} {hp : Array Obj} (w : World) (d : Nat) : ∀ (fs : List Field) (n : Nat) (ks : List PK) (xs ys : List AV) (us vs : Array Value) (r : Bool),
    kindsOf P n fs = some ks → VRs mu pr hp xs (us.toList.drop n) → VRs mu pr hp ys (vs.toList.drop n) → eqCells ks xs ys = some r → (Op.eqFields (d + 1) us vs fs).run P w = .ok r w
  | [], n, ks, xs, ys, us, vs, r, hk, _, _, he => by
    simp [kindsOf] at hk
    subst hk
    simp [eqCells] at he
    subst he
    simp [Op.eqFields]
  | f :: fs, n, ks, xs, ys, us, vs, r, hk, hx, hy, he => by
    unfold kindsOf at hk
    split at hk
    case isTrue => simp at hk
    case isFalse hf =>
      simp only [not_or, Decidable.not_not] at hf
      obtain ⟨hfn, hfo⟩ := hf
      have hpart : ∀ (zs : Array Value) (x : AV) (u : Value) (l : List Value), zs.toList.drop n = u :: l → (isAgg f.type).run P w = .ok false w → (part f.type zs f.offset).run P w = .ok u w := by
        intro zs x u l hl hag
        have : zs[n]? = some u := by
          have : (zs.toList.drop n)[0]? = some u := by rw [hl]; rfl
          simpa using this
        simp [part, hag, hfo, this]
      have hnext : ∀ (zs : Array Value) (u : Value) (l : List Value), zs.toList.drop n = u :: l → zs.toList.drop (n + 1) = l := by
        intro zs u l hl
        rw [← List.drop_drop, hl]
        rfl
      split at hk
      case h_4 => simp at hk
      all_goals
        rename_i hd
        simp only [Option.map_eq_some_iff] at hk
        obtain ⟨ks', hks, rfl⟩ := hk
        have hag : (isAgg f.type).run P w = .ok false w := by simp [isAgg, run_underlying hd]
        unfold eqCells at he
        split at he <;> try (first | (simp at he; done) | (rename_i h; cases h; done))
        rename_i heq
        cases heq
        obtain ⟨u, us', hul, hu, hus⟩ := hx.cons_inv
        obtain ⟨v, vs', hvl, hv, hvs⟩ := hy.cons_inv
        cases hu
        cases hv
        simp only [Op.eqFields, hfn, ne_eq, not_false_eq_true, if_true, Sem.run_bind, hpart us .undef _ _ hul hag, hpart vs .undef _ _ hvl hag, Result.andThen_ok]
        try (split at he; case isFalse => simp at he)
        try (rename_i hkk; subst hkk)
        first
          | rw [run_equalIn_int (h := hd)]
          | rw [run_equalIn_bool' (h := hd)]
          | rw [run_equalIn_string (h := hd)]
        split at he
        · rename_i hab
          simp only [Result.andThen_ok, hab, Bool.not_true, Bool.false_eq_true, if_false]
          exact eqFields_ok w d fs (n + 1) ks' _ _ us vs r hks (by rw [hnext us _ _ hul]; exact hus) (by rw [hnext vs _ _ hvl]; exact hvs) he
        · rename_i hab
          simp only [Option.some.injEq] at he
          subst he
          simp [hab]

theorem run_equalIn_nils {P : Program} (w : World) (d : Nat) (t : TypeId) {ms : Array (String × TypeId)} (h : P.underlying t = some (.interface ms)) : (Op.equalIn (d + 1) t .nilIface .nilIface).run P w = .ok true w := by
  simp only [Op.equalIn, Sem.run_bind, run_underlying h, Result.andThen_ok, Sem.run_pure]
theorem run_equalIn_err {P : Program} (w : World) (d : Nat) (t : TypeId) (tt : TypeId) (v : Value) {ms : Array (String × TypeId)} (h : P.underlying t = some (.interface ms)) : (Op.equalIn (d + 1) t (.iface tt v) .nilIface).run P w = .ok false w := by
  simp only [Op.equalIn, Sem.run_bind, run_underlying h, Result.andThen_ok, Sem.run_pure]
theorem run_eqlx {P : Program} (w : World) (t : TypeId) (u v : Value) (r : Bool) (hb : ∀ w, (binOp .eql t u v).run P w = ((Op.equal t u v).run P w).andThen fun b w' => .ok (.bool b) w') (h : (Op.equalIn 10000 t u v).run P w = .ok r w) :
    (binOp .eql t u v).run P w = .ok (.bool r) w := by
  rw [hb, show Op.equal t u v = Op.equalIn 10000 t u v from rfl, h]; rfl
theorem run_neqx {P : Program} (w : World) (t : TypeId) (u v : Value) (r : Bool) (hb : ∀ w, (binOp .neq t u v).run P w = ((Op.equal t u v).run P w).andThen fun b w' => .ok (.bool (!b)) w') (h : (Op.equalIn 10000 t u v).run P w = .ok r w) :
    (binOp .neq t u v).run P w = .ok (.bool (!r)) w := by
  rw [hb, show Op.equal t u v = Op.equalIn 10000 t u v from rfl, h]; rfl

theorem run_equalIn_ptr {P : Program} (w : World) (d : Nat) (t e : TypeId) (a : Addr) (hd : P.underlying t = some (.pointer e)) : (Op.equalIn (d + 1) t (.pointer (some a)) (.pointer none)).run P w = .ok false w := by
  simp [Op.equalIn, run_underlying hd]
theorem run_equalIn_nilp {P : Program} (w : World) (d : Nat) (t e : TypeId) (hd : P.underlying t = some (.pointer e)) : (Op.equalIn (d + 1) t (.pointer none) (.pointer none)).run P w = .ok true w := by
  simp [Op.equalIn, run_underlying hd]
theorem binA_ok {P : Program} {mu : Nm → Nat → Option Loc} {pr : Bool → Nat → Prop} {hp : Array Obj} (w : World) {op : BinOp} {t : TypeId} {x y : Operand} {a b r : AV} {u v : Value}
    (hu : VR mu pr hp a u) (hv : VR mu pr hp b v) (h : binA P op t (isCst x || isCst y) a b = some r) :
    ∃ z, ((do eqGuard op t x y u v; binOp op t u v : Sem Value)).run P w = .ok z w ∧ VR mu pr hp r z := by
  unfold binA at h
  split at h
  case h_9 => simp at h
  case h_1 k a k' b =>
    cases hu
    cases hv
    split at h
    case isFalse => simp at h
    case isTrue hk =>
      subst hk
      have hg : (eqGuard op t x y (.int k a) (.int k b)).run P w = .ok () w := by cases op <;> simp [eqGuard]
      cases op <;> simp only [Option.some.injEq, reduceCtorEq] at h <;> first
        | (subst h; exact ⟨_, by simp only [Sem.run_bind, hg, Result.andThen_ok]; simp [binOp, Op.intArith, Op.intCmp, Op.intBits]; rfl, by constructor⟩)
        | (split at h
           · simp at h
           · rename_i hb
             simp only [Option.some.injEq] at h
             subst h
             exact ⟨_, by simp only [Sem.run_bind, hg, Result.andThen_ok]; simp [binOp, Op.intDiv, hb]; rfl, by constructor⟩)
  case h_2 a b =>
    cases hu
    cases hv
    have hg : (eqGuard op t x y (.string a) (.string b)).run P w = .ok () w := by cases op <;> simp [eqGuard]
    cases op <;> simp only [Option.some.injEq, reduceCtorEq] at h <;> first
      | (subst h; exact ⟨_, by simp only [Sem.run_bind, hg, Result.andThen_ok]; simp [binOp, Op.stringOp]; rfl, by constructor⟩)
      | (split at h
         · simp at h
         · rename_i hb
           simp only [Option.some.injEq] at h
           subst h
           exact ⟨_, by simp only [Sem.run_bind, hg, Result.andThen_ok]; simp only [binOp, Op.stringOp]; rw [if_neg hb]; rfl, by constructor⟩)
  case h_3 a b =>
    cases hu
    cases hv
    have hg : (eqGuard op t x y (.bool a) (.bool b)).run P w = .ok () w := by cases op <;> simp [eqGuard]
    split at h
    case h_3 => simp at h
    all_goals
      rename_i ht
      simp only [Option.some.injEq] at h
      subst h
      have he := run_equalIn_bool' w 9999 t a b ht
      refine ⟨_, by
        simp only [Sem.run_bind, hg, Result.andThen_ok]
        first
          | exact run_eqlx w t _ _ _ (fun w => by simp [binOp]) he
          | exact run_neqx w t _ _ _ (fun w => by simp [binOp]) he, by constructor⟩
  case h_4 xs ys =>
    obtain ⟨ua, rfl, hxs, _⟩ := hu.agg_inv
    obtain ⟨va, rfl, hys, _⟩ := hv.agg_inv
    have key : ∀ ks r, tkinds P t = some ks → eqCells ks xs ys = some r → (eqGuard op t x y (.agg ua) (.agg va)).run P w = .ok () w ∧ (Op.equalIn 10000 t (.agg ua) (.agg va)).run P w = .ok r w := by
      intro ks r hk he
      unfold tkinds at hk
      split at hk
      case h_2 => simp at hk
      case h_1 fs hd =>
        split at hk
        case isFalse => simp at hk
        case isTrue hc =>
          refine ⟨run_eqGuard_agg w op t x y ua va hc.2, ?_⟩
          have hfo : P.fieldsOf t = fs := by simp [Program.fieldsOf, hd]
          rw [run_equalIn_agg w 9999 t ua va (by rw [hfo]; exact hd) hc.1, hfo]
          exact eqFields_ok w 9998 fs.toList 0 ks xs ys ua va r hk (by simpa using hxs) (by simpa using hys) he
    split at h
    case h_3 => simp at h
    case h_1 ks hk =>
      simp only [Option.map_eq_some_iff] at h
      obtain ⟨r', he, rfl⟩ := h
      obtain ⟨h1, h2⟩ := key ks r' hk he
      exact ⟨_, by simp only [Sem.run_bind, h1, Result.andThen_ok, run_eql_struct, h2], .bool _⟩
    case h_2 ks hk =>
      simp only [Option.map_eq_some_iff] at h
      obtain ⟨r', he, rfl⟩ := h
      obtain ⟨h1, h2⟩ := key ks r' hk he
      exact ⟨_, by simp only [Sem.run_bind, h1, Result.andThen_ok, run_neq_struct, h2], .bool _⟩
  case h_5 =>
    cases hu with
    | errv tt vv =>
      cases hv
      split at h
      case h_3 => simp at h
      all_goals
        rename_i hd
        simp only [Option.some.injEq] at h
        subst h
        have he := run_equalIn_err w 9999 t tt vv hd
        have hg : ∀ op, (eqGuard op t x y (.iface tt vv) .nilIface).run P w = .ok () w := by intro op; cases op <;> simp [eqGuard]
        refine ⟨_, by
          simp only [Sem.run_bind, hg, Result.andThen_ok]
          first
            | exact run_eqlx w t _ _ _ (fun w => by simp [binOp]) he
            | exact run_neqx w t _ _ _ (fun w => by simp [binOp]) he, by constructor⟩
  case h_6 =>
    cases hu
    cases hv
    split at h
    case isFalse => simp at h
    case isTrue hc =>
      have hg : ∀ op, (eqGuard op t x y .nilIface .nilIface).run P w = .ok () w := by
        intro op
        cases x <;> cases y <;> simp only [isCst, Bool.or_self, Bool.or_true, Bool.or_false, Bool.false_eq_true, Bool.true_eq, reduceCtorEq] at hc <;> cases op <;> simp [eqGuard]
      split at h
      case h_3 => simp at h
      all_goals
        rename_i hd
        simp only [Option.some.injEq] at h
        subst h
        have he := run_equalIn_nils w 9999 t hd
        refine ⟨_, by
          simp only [Sem.run_bind, hg, Result.andThen_ok]
          first
            | exact run_eqlx w t _ _ _ (fun w => by simp [binOp]) he
            | exact run_neqx w t _ _ _ (fun w => by simp [binOp]) he, by constructor⟩
  case h_7 =>
    cases hu
    cases hv
    split at h
    case h_3 => simp at h
    all_goals
      rename_i hd
      simp only [Option.some.injEq] at h
      subst h
      have he := fun a => run_equalIn_ptr w 9999 t _ a hd
      have hg : ∀ op u, (eqGuard op t x y (.pointer u) (.pointer none)).run P w = .ok () w := by intro op u; cases op <;> simp [eqGuard]
      refine ⟨_, by
        simp only [Sem.run_bind, hg, Result.andThen_ok]
        first
          | exact run_eqlx w t _ _ _ (fun w => by simp [binOp]) (he _)
          | exact run_neqx w t _ _ _ (fun w => by simp [binOp]) (he _), by constructor⟩
  case h_8 =>
    cases hu
    cases hv
    split at h
    case h_3 => simp at h
    all_goals
      rename_i hd
      simp only [Option.some.injEq] at h
      subst h
      have he := run_equalIn_nilp w 9999 t _ hd
      have hg : ∀ op u, (eqGuard op t x y (.pointer u) (.pointer none)).run P w = .ok () w := by intro op u; cases op <;> simp [eqGuard]
      refine ⟨_, by
        simp only [Sem.run_bind, hg, Result.andThen_ok]
        first
          | exact run_eqlx w t _ _ _ (fun w => by simp [binOp]) he
          | exact run_neqx w t _ _ _ (fun w => by simp [binOp]) he, by constructor⟩

end Go.Proofs.YtmcmgeedhbgglaaGreatDoor.AM

namespace Go.Proofs.YtmcmgeedhbgglaaGreatDoor.AM
open Go.RowKit

theorem tfld_inv {P : Program} {t : TypeId} {i o s : Nat} {ft : TypeId} (h : tfld P t i = some (o, s, ft)) : ∃ (fs : Array Field) (f : Field), P.underlying t = some (.struct fs) ∧ fs[i]? = some f ∧ f.offset = o ∧ f.type = ft ∧ tsz P ft = some s := by
  unfold tfld at h
  split at h
  case h_2 => simp at h
  case h_1 fs hd =>
    split at h
    case h_2 => simp at h
    case h_1 f hf =>
      split at h
      case h_2 => simp at h
      case h_1 x hx =>
        simp only [Option.some.injEq, Prod.mk.injEq] at h
        obtain ⟨rfl, rfl, rfl⟩ := h
        exact ⟨fs, f, hd, hf, rfl, rfl, by simp [tsz, hx]⟩

theorem telem_inv {P : Program} {t e : TypeId} (h : telem P t = some e) : P.underlying t = some (.slice e) := by
  unfold telem at h
  split at h
  case h_2 => simp at h
  case h_1 e' hd => simp at h; subst h; exact hd

/-! ### A field's address -/
def faddrA (P : Program) (t : TypeId) (p : AV) (f : Nat) : Option AV :=
  match tfld P t f with
  | some (o, s, _) => if s = 0 then none else match p with
    | .ptr n v i off => some (.ptr n v i (off + o))
    | .tptr g cs => some (.tptr g (cs.drop o))
    | _ => none
  | none => none

section
variable {P : Program} {mu : Nm → Nat → Option Loc} {pr : Bool → Nat → Prop} {hp : Array Obj}

theorem faddrA_ok (w : World) {t : TypeId} {p r : AV} {v : Value} {f : Nat} (hv : VR mu pr hp p v) (h : faddrA P t p f = some r) : ∃ z, (Instr.fieldAt t v f).run P w = .ok z w ∧ VR mu pr hp r z := by
  unfold faddrA at h
  split at h
  case h_2 => simp at h
  case h_1 o s ft hf =>
    obtain ⟨fs, fd, hd, hfi, rfl, rfl, hs⟩ := tfld_inv hf
    split at h
    case isTrue => simp at h
    case isFalse hs0 =>
      split at h
      case h_3 => simp at h
      case h_1 n v' i off =>
        simp only [Option.some.injEq] at h
        subst h
        cases hv with
        | ptr _ _ _ _ l hl =>
          refine ⟨_, by simp [Instr.fieldAt, run_underlying hd, hfi, Instr.sureAddr, fieldPlace, run_sizeOf' hs, hs0, Addr.add_lit]; rfl, ?_⟩
          rw [Nat.add_assoc]
          exact .ptr _ _ _ _ l hl
      case h_2 g cs =>
        simp only [Option.some.injEq] at h
        subst h
        cases hv with
        | tptr _ b o arr ty fr _ us h1 h2 h3 h4 h5 =>
          refine ⟨_, by simp [Instr.fieldAt, run_underlying hd, hfi, Instr.sureAddr, fieldPlace, run_sizeOf' hs, hs0, Addr.add_lit]; rfl, ?_⟩
          refine .tptr g b _ arr ty fr _ (fun j => us (fd.offset + j)) h1 h2 (fun j c hc => ?_) (fun j c hc => ?_) (fun j c hc => ?_) <;> rw [List.getElem?_drop] at hc
          · rw [Nat.add_assoc]; exact h3 _ _ hc
          · exact h4 _ _ hc
          · exact h5 _ _ hc

/-! ### An element's address -/
def iaddrA (P : Program) (rows : Nm → Option Row) (t : TypeId) (x i : AV) : Option AV :=
  match telem P t with
  | some e => match tsz P e with
    | some s => match x, i with
      | .tr g elems, .int _ k => if 0 ≤ k then match elems[k.toNat]? with
          | some e => if e.length = s then some (.tptr g e) else none
          | none => none
        else none
      | .sl n v off len, .int _ k => if 0 ≤ k ∧ k < len then match rows n with
          | some r => if r.ver = v ∧ r.esz = s then some (.ptr n v (off + k.toNat) 0) else none
          | none => none
        else none
      | _, _ => none
    | none => none
  | none => none

theorem iaddrA_ok {h : Hp} {w : World} (R : Rel mu pr h w) {t : TypeId} {x i r : AV} {u v : Value} (hu : VR mu pr w.heap x u) (hv : VR mu pr w.heap i v) (he : iaddrA P h.rows t x i = some r) :
    ∃ z, (Instr.indexAt t u v).run P w = .ok z w ∧ VR mu pr w.heap r z := by
  unfold iaddrA at he
  split at he
  case h_2 => simp at he
  case h_1 e ht =>
    have hd := telem_inv ht
    split at he
    case h_2 => simp at he
    case h_1 s hs =>
      split at he
      case h_3 => simp at he
      case h_1 g elems kk k =>
        split at he
        case isFalse => simp at he
        case isTrue hk0 =>
          split at he
          case h_2 => simp at he
          case h_1 el hel =>
            split at he
            case isFalse => simp at he
            case isTrue hes =>
              simp only [Option.some.injEq] at he
              subst he
              cases hv
              have hlt : k.toNat < elems.length := (List.getElem?_eq_some_iff.1 hel).1
              cases hu with
              | tr0 _ a cap => simp at hlt
              | tr _ b o cap esz arr ty fr _ us h1 h2 h3 h4 h5 h6 h7 =>
                have hesz : esz = s := by rw [← hes]; exact (h4 _ _ hel).symm
                subst hesz
                refine ⟨.pointer (some ⟨b, o + k.toNat * esz, none⟩), ?_, ?_⟩
                · have hc : 0 ≤ k ∧ k < (elems.length : Int) := ⟨hk0, by omega⟩
                  simp only [Instr.indexAt, asIntOf, Sem.run_bind, Sem.run_pure, Result.andThen_ok, run_underlying hd]
                  simp [hc, run_sizeOf' hs, Addr.add_lit]
                · exact .tptr g b _ arr ty fr _ (fun j => us k.toNat j) h1 h2 (fun j c hc => h5 _ _ _ _ hel hc) (fun j c hc => h6 _ _ _ _ hel hc) (fun j c hc => h7 _ _ _ _ hel hc)
      case h_2 n ver off len kk k =>
        split at he
        case isFalse => simp at he
        case isTrue hk =>
          split at he
          case h_2 => simp at he
          case h_1 row hrow =>
            split at he
            case isFalse => simp at he
            case isTrue hve =>
              simp only [Option.some.injEq] at he
              subst he
              cases hv
              cases hu with
              | sl _ _ _ _ cap ao l arr ty fr h1 h2 h3 h4 h5 h6 h7 h8 =>
                obtain ⟨l', arr', ty', hm, hnp, hb, he1, he2, _⟩ := R.row n row hrow
                rw [hve.1, h1] at hm
                cases hm
                have hao := h8 (by omega)
                refine ⟨.pointer (some ⟨l.b, l.o + (off + k.toNat) * l.esz + 0, none⟩), ?_, .ptr _ _ _ _ l h1⟩
                simp only [Instr.indexAt, asIntOf, Sem.run_bind, Sem.run_pure, Result.andThen_ok, run_underlying hd]
                simp [hk, run_sizeOf' hs, Addr.add_lit, hao, ← hve.2, he1, Nat.add_mul, Nat.add_assoc]

/-! ### A byte of a string -/
def indexA (P : Program) (t : TypeId) (x i : AV) : Option AV :=
  match P.underlying t, x, i with
  | some .string, .str s, .int _ k => match (if 0 ≤ k then s[k.toNat]? else none) with
    | some b => some (.int .u8 b.toNat)
    | none => none
  | _, _, _ => none

theorem indexA_ok (w : World) {t : TypeId} {x i r : AV} {u v : Value} (hu : VR mu pr hp x u) (hv : VR mu pr hp i v) (he : indexA P t x i = some r) :
    ∃ z, (Instr.index t u v).run P w = .ok z w ∧ VR mu pr hp r z := by
  unfold indexA at he
  split at he
  case h_2 => simp at he
  case h_1 s kk k hd =>
    cases hu
    cases hv
    split at he
    case h_2 => simp at he
    case h_1 b hb =>
      simp only [Option.some.injEq] at he
      subst he
      refine ⟨.int .u8 b.toNat, ?_, by constructor⟩
      simp only [Instr.index, asIntOf, Sem.run_bind, Sem.run_pure, Result.andThen_ok, run_underlying hd, hb]

/-! ### A piece -/
def bnd : Option AV → Nat → Option Nat
  | none, d => some d
  | some (.int _ k), _ => if 0 ≤ k then some k.toNat else none
  | some _, _ => none

def sliceA (P : Program) (rows : Nm → Option Row) (t : TypeId) (x : AV) (lo hi : Option AV) (mx : Bool) : Option AV :=
  if mx then none else match P.underlying t, x with
  | some .string, .str s => match bnd lo 0, bnd hi s.size with
    | some l, some h => if l ≤ h ∧ h ≤ s.size then some (.str (s.extract l h)) else none
    | _, _ => none
  | some (.slice e), .nilsl => match tsz P e, bnd lo 0, bnd hi 0 with
    | some _, some 0, some 0 => some .nilsl
    | _, _, _ => none
  | some (.slice e), .tr g elems => match tsz P e, bnd lo 0, bnd hi elems.length with
    | some s, some l, some h => if l ≤ h ∧ h ≤ elems.length then match (elems.take h).drop l with
        | [] => some (.tr g [])
        | e :: es => if e.length = s then some (.tr g (e :: es)) else none
      else none
    | _, _, _ => none
  | some (.slice e), .sl n v off len => match tsz P e, bnd lo 0, bnd hi len, rows n with
    | some s, some l, some h, some r => if l ≤ h ∧ off + h ≤ r.elems.length ∧ r.ver = v ∧ r.esz = s then some (.sl n v (off + l) (h - l)) else none
    | _, _, _, _ => none
  | _, _ => none

theorem bounds_run (w : World) {lo hi : Option Operand} {ρ : Operand → AV} {σ : Operand → Value} (hρ : ∀ x, VR mu pr hp (ρ x) (σ x)) {isS : Bool} {len cap l h : Nat} (hl : bnd (lo.map ρ) 0 = some l) (hh : bnd (hi.map ρ) len = some h)
    (h1 : l ≤ h) (h2 : h ≤ cap) : (Instr.sliceBounds isS len cap (lo.map σ) (hi.map σ) none).run P w = .ok (l, h, cap) w := by
  have key : ∀ (o : Option Operand) (d n : Nat), bnd (o.map ρ) d = some n → (o = none ∧ n = d) ∨ ∃ x k, o = some x ∧ (∃ kk, σ x = .int kk k) ∧ 0 ≤ k ∧ k.toNat = n := by
    intro o d n e
    cases o with
    | none => simp [bnd] at e; exact .inl ⟨rfl, e.symm⟩
    | some x =>
      right
      have hx := hρ x
      simp only [Option.map_some] at e
      unfold bnd at e
      split at e
      case h_1 => simp at *
      case h_2 kk k hq =>
        simp only [Option.some.injEq] at hq
        rw [hq] at hx
        split at e
        case isFalse => simp at e
        case isTrue h0 =>
          simp only [Option.some.injEq] at e
          generalize hz : σ x = z at hx
          cases hx
          exact ⟨x, k, rfl, ⟨_, hz⟩, h0, e⟩
      case h_3 => simp at e
  rcases key lo 0 l hl with ⟨rfl, rfl⟩ | ⟨x, k, rfl, ⟨kk, hx⟩, h0, rfl⟩ <;> rcases key hi len h hh with ⟨rfl, rfl⟩ | ⟨y, k', rfl, ⟨kk', hy⟩, h0', rfl⟩
  · simp [Instr.sliceBounds]
  · have q : 0 ≤ k' ∧ k' ≤ (cap : Int) := ⟨h0', by omega⟩
    simp [Instr.sliceBounds, Instr.sliceBound, asIntOf, hy, q]
  · have q : 0 ≤ k ∧ k ≤ (h : Int) := ⟨h0, by omega⟩
    simp [Instr.sliceBounds, Instr.sliceBound, asIntOf, hx, q]
  · have q : 0 ≤ k' ∧ k' ≤ (cap : Int) := ⟨h0', by omega⟩
    have q' : 0 ≤ k ∧ k ≤ ((k'.toNat : Nat) : Int) := ⟨h0, by omega⟩
    simp only [Instr.sliceBounds, Instr.sliceBound, asIntOf, hx, hy, Option.map_some, Sem.run_bind, Sem.run_pure, Result.andThen_ok, if_pos q, if_pos q']

theorem sliceA_ok {h : Hp} {w : World} (R : Rel mu pr h w) {t : TypeId} {x r : AV} {u : Value} {lo hi mx : Option Operand} {ρ : Operand → AV} {σ : Operand → Value} (hρ : ∀ x, VR mu pr w.heap (ρ x) (σ x)) (hu : VR mu pr w.heap x u)
    (he : sliceA P h.rows t x (lo.map ρ) (hi.map ρ) mx.isSome = some r) : ∃ z, (Instr.sliceAt t u (lo.map σ) (hi.map σ) (mx.map σ)).run P w = .ok z w ∧ VR mu pr w.heap r z := by
  unfold sliceA at he
  split at he
  case isTrue => simp at he
  case isFalse hmx =>
    obtain rfl : mx = none := by simpa using hmx
    split at he
    case h_5 => simp at he
    case h_1 s hd =>
      split at he
      case h_2 => simp at he
      case h_1 l hh hl hhi =>
        split at he
        case isFalse => simp at he
        case isTrue hc =>
          simp only [Option.some.injEq] at he
          subst he
          cases hu
          have hb := bounds_run (P := P) w hρ (isS := false) hl hhi hc.1 hc.2
          exact ⟨_, by simp [Instr.sliceAt, Instr.slice, run_underlying hd, hb]; rfl, by constructor⟩
    case h_2 e hd =>
      split at he
      case h_2 => simp at he
      case h_1 s hs hl hhi =>
        simp only [Option.some.injEq] at he
        subst he
        cases hu
        have hb := bounds_run (P := P) w hρ (isS := true) hl hhi (Nat.le_refl 0) (Nat.le_refl 0)
        refine ⟨.slice none 0 0, ?_, .nilsl⟩
        simp [Instr.sliceAt, Instr.slice, run_underlying hd, hb, run_sizeOf' hs]
    case h_3 e g elems hd =>
      split at he
      case h_2 => simp at he
      case h_1 s l hh hs hl hhi =>
        split at he
        case isFalse => simp at he
        case isTrue hc =>
          have hrun : ∀ (a : Option Addr) (cap : Nat), elems.length ≤ cap → (Instr.sliceAt t (.slice a elems.length cap) (lo.map σ) (hi.map σ) none).run P w = .ok (.slice (if cap = l then a else a.map (·.add (l * s))) (hh - l) (cap - l)) w := by
            intro a cap hcap
            have hb := bounds_run (P := P) w hρ (isS := true) (cap := cap) hl hhi hc.1 (by omega)
            simp [Instr.sliceAt, Instr.slice, run_underlying hd, hb, run_sizeOf' hs]
          split at he
          case h_1 hnil =>
            simp only [Option.some.injEq] at he
            subst he
            have hz : hh - l = 0 := by
              have := congrArg List.length hnil
              simp at this
              omega
            cases hu with
            | tr0 _ a cap =>
              exact ⟨_, hrun a cap (by simp), by rw [hz]; exact .tr0 _ _ _⟩
            | tr _ b o cap esz arr ty fr _ us g1 g2 g3 g4 g5 g6 g7 =>
              exact ⟨_, hrun _ cap g3, by rw [hz]; exact .tr0 _ _ _⟩
          case h_2 e1 es hcons =>
            split at he
            case isFalse => simp at he
            case isTrue hes =>
              simp only [Option.some.injEq] at he
              subst he
              have hlen : es.length + 1 = hh - l := by
                have := congrArg List.length hcons
                simp at this
                omega
              have hget : ∀ (i : Nat) (c : List AV), (e1 :: es)[i]? = some c → elems[l + i]? = some c := by
                intro i c hi
                rw [← hcons, List.getElem?_drop, List.getElem?_take] at hi
                split at hi
                · exact hi
                · simp at hi
              cases hu with
              | tr0 _ a cap => simp at hc; omega
              | tr _ b o cap esz arr ty fr _ us g1 g2 g3 g4 g5 g6 g7 =>
                have hez : esz = s := by rw [← hes]; exact (g4 _ _ (hget 0 e1 rfl)).symm
                subst hez
                refine ⟨_, hrun _ cap g3, ?_⟩
                rw [if_neg (by omega), ← hlen]
                simp only [Option.map_some, Addr.add_lit]
                refine .tr g b _ _ esz arr ty fr (e1 :: es) (fun i j => us (l + i) j) g1 g2 (by simp; omega) (fun i e hi => g4 _ _ (hget i e hi)) (fun i e j c hi hj => ?_) (fun i e j c hi hj => g6 _ _ _ _ (hget i e hi) hj) (fun i e j c hi hj => g7 _ _ _ _ (hget i e hi) hj)
                have := g5 _ _ _ _ (hget i e hi) hj
                rw [← this]
                congr 1
                rw [Nat.add_mul]
                omega
    case h_4 e n v off len hd =>
      split at he
      case h_2 => simp at he
      case h_1 s l hh row hs hl hhi hrow =>
        split at he
        case isFalse => simp at he
        case isTrue hc =>
          simp only [Option.some.injEq] at he
          subst he
          obtain ⟨c1, c2, c3, c4⟩ := hc
          cases hu with
          | sl _ _ _ _ cap ao loc arr ty fr g1 g2 g3 g4 g5 g6 g7 g8 =>
            obtain ⟨l', arr', ty', hm, hnp, hb, he1, he2, _⟩ := R.row n row hrow
            rw [c3, g1] at hm
            cases hm
            have hbd := bounds_run (P := P) w hρ (isS := true) (cap := cap) hl hhi c1 (by omega)
            refine ⟨_, by simp [Instr.sliceAt, Instr.slice, run_underlying hd, hbd, run_sizeOf' hs]; rfl, ?_⟩
            have hsp : off + l + (cap - l) = off + cap := by omega
            split
            · rename_i hcl
              exact .sl _ _ _ _ _ _ loc arr ty fr g1 g2 (by omega) (by omega) (by omega) (by rw [hsp]; exact g6) (by omega) (fun h => by omega)
            · rename_i hcl
              simp only [Option.map_some, Addr.add_lit]
              refine .sl _ _ _ _ _ _ loc arr ty fr g1 g2 (by omega) (by omega) (by omega) (by rw [hsp]; exact g6) (by omega) (fun h => ?_)
              rw [g8 (by omega), ← c4, he1, Nat.add_mul]
              omega

end
end Go.Proofs.YtmcmgeedhbgglaaGreatDoor.AM

namespace Go.Proofs.YtmcmgeedhbgglaaGreatDoor.AM
open Go.RowKit

/-- A value's cells. -/
def AV.cells : AV → List AV
  | .agg cs => cs
  | v => [v]
def AV.stored : AV → Bool
  | .agg cs => ones cs
  | v => v.one

section
variable {P : Program} {mu : Nm → Nat → Option Loc} {pr : Bool → Nat → Prop} {hp : Array Obj}

theorem cells_ok {a : AV} {v : Value} (h : VR mu pr hp a v) (hs : a.stored = true) : VRs mu pr hp a.cells v.cells.toList ∧ ones a.cells = true ∧ v.cells.toList.all (·.oneCell') = true := by
  have key : ∀ (cs : List AV) (vs : List Value), VRs mu pr hp cs vs → ones cs = true → vs.all (·.oneCell') = true := by
    intro cs vs hv ho
    refine List.all_eq_true.2 fun u hu => ?_
    obtain ⟨i, hi⟩ := List.mem_iff_getElem?.1 hu
    have hlt : i < cs.length := by rw [← hv.1]; exact (List.getElem?_eq_some_iff.1 hi).1
    obtain ⟨u', hu', r⟩ := hv.2 i cs[i] (by simp [hlt])
    rw [hi] at hu'
    cases hu'
    exact r.oneCell (ones_get ho (i := i) (by simp [hlt]))
  cases a <;> try (simp [AV.stored, AV.one] at hs; done)
  case agg cs =>
    obtain ⟨arr, rfl, h1, h2⟩ := h.agg_inv
    exact ⟨h1, h2, key _ _ h1 h2⟩
  all_goals
    have ho := hs
    simp only [AV.stored] at ho
    have hc := h.oneCell ho
    have hv : v.cells = #[v] := by cases v <;> first | rfl | simp [Value.oneCell'] at hc
    refine ⟨by rw [hv]; exact .cons h .nil, by simp [AV.cells, ones, ho], by rw [hv]; simpa using hc⟩

/-! ### Putting cells into cells -/
def setCs (cells : List AV) (off : Nat) (vs : List AV) : List AV := cells.take off ++ vs ++ cells.drop (off + vs.length)

theorem fold_set : ∀ (cs : List Value) (k : Nat) (cells : Array Value) (off : Nat), off + k + cs.length ≤ cells.size →
    ((cs.zipIdx k).foldl (fun a (x : Value × Nat) => a.setIfInBounds (off + x.2) x.1) cells).toList = cells.toList.take (off + k) ++ cs ++ cells.toList.drop (off + k + cs.length)
  | [], k, cells, off, _ => by simp
  | c :: cs, k, cells, off, h => by
    simp only [List.length_cons] at h
    simp only [List.zipIdx_cons, List.foldl_cons]
    rw [fold_set cs (k + 1) _ off (by simp; omega)]
    simp only [Array.toList_setIfInBounds]
    apply List.ext_getElem?
    intro j
    have e1 : (cells.toList.set (off + k) c).length = cells.toList.length := by simp
    by_cases hj : j < off + k
    · rw [List.append_assoc, List.append_assoc, List.getElem?_append_left (by simp; omega), List.getElem?_append_left (by simp; omega), List.getElem?_take, List.getElem?_take, if_pos (by omega), if_pos hj, List.getElem?_set_ne (by omega)]
    · by_cases hj2 : j = off + k
      · subst hj2
        rw [List.append_assoc, List.append_assoc, List.getElem?_append_left (by simp; omega), List.getElem?_take, if_pos (by omega), List.getElem?_set_self (by simp; omega), List.getElem?_append_right (by simp; omega)]
        simp
        have : off + k - min (off + k) cells.size = 0 := by omega
        simp [this]
      · have ea : (List.take (off + (k + 1)) (cells.toList.set (off + k) c)).length = off + k + 1 := by simp; omega
        have eb : (List.take (off + k) cells.toList).length = off + k := by simp; omega
        rw [List.append_assoc, List.append_assoc, List.getElem?_append_right (show (List.take (off + (k + 1)) (cells.toList.set (off + k) c)).length ≤ j by rw [ea]; omega),
          List.getElem?_append_right (show (List.take (off + k) cells.toList).length ≤ j by rw [eb]; omega)]
        rw [ea, eb, show j - (off + k) = (j - (off + k + 1)) + 1 by omega, List.cons_append, List.getElem?_cons_succ]
        by_cases hj3 : j - (off + k + 1) < cs.length
        · rw [List.getElem?_append_left hj3, List.getElem?_append_left hj3]
        · rw [List.getElem?_append_right (Nat.le_of_not_lt hj3), List.getElem?_append_right (Nat.le_of_not_lt hj3), List.getElem?_drop, List.getElem?_drop, List.getElem?_set_ne (by omega)]
          congr 1
          simp only [List.length_cons]
          omega

theorem fill_step (cells cs : Array Value) (off : Nat) (h : off + cs.size ≤ cells.size) :
    (cs.zipIdx.foldl (fun a (x : Value × Nat) => a.setIfInBounds (off + x.2) x.1) cells) = (cells.toList.take off ++ cs.toList ++ cells.toList.drop (off + cs.size)).toArray := by
  have h1 := fold_set cs.toList 0 cells off (by simpa using h)
  simp only [Nat.add_zero] at h1
  apply Array.ext'
  rw [← Array.foldl_toList, Array.toList_zipIdx, h1]
  simp

theorem setCs_ok {cells vs : List AV} {us ws : List Value} (off : Nat) (h : VRs mu pr hp cells us) (k : VRs mu pr hp vs ws) : VRs mu pr hp (setCs cells off vs) (us.take off ++ ws ++ us.drop (off + ws.length)) := by
  unfold setCs
  rw [← k.1]
  exact ((h.take off).append k).append (h.drop _)

theorem setCs_ones {cells vs : List AV} (off : Nat) (h : ones cells = true) (k : ones vs = true) : ones (setCs cells off vs) = true := by
  simp only [ones, List.all_eq_true] at *
  intro x hx
  simp only [setCs, List.mem_append] at hx
  rcases hx with (hx | hx) | hx
  · exact h x (List.mem_of_mem_take hx)
  · exact k x hx
  · exact h x (List.mem_of_mem_drop hx)

def fillA (place : Nat → Option (Nat × Nat)) (cells : List AV) : List (Nat × AV) → Option (List AV)
  | [] => some cells
  | (i, v) :: rest => match place i with
    | some (off, size) => if v.stored = true ∧ v.cells.length = size ∧ off + size ≤ cells.length then fillA place (setCs cells off v.cells) rest else none
    | none => none

theorem fillA_ok {place : Nat → Option (Nat × Nat)} {ρ : Operand → AV} {σ : Operand → Value} (hρ : ∀ x, VR mu pr hp (ρ x) (σ x)) : ∀ (parts : List (Nat × Operand)) (cells r : List AV) (us : Array Value),
    VRs mu pr hp cells us.toList → ones cells = true → fillA place cells (parts.map fun p => (p.1, ρ p.2)) = some r →
    ∃ ws, Instr.fill place us (parts.map fun p => (p.1, σ p.2)) = some ws ∧ VRs mu pr hp r ws.toList ∧ ones r = true
  | [], cells, r, us, hv, ho, h => by
    simp [fillA] at h
    subst h
    exact ⟨us, rfl, hv, ho⟩
  | (i, x) :: rest, cells, r, us, hv, ho, h => by
    simp only [List.map_cons, fillA] at h
    split at h
    case h_2 => simp at h
    case h_1 off size hpl =>
      split at h
      case isFalse => simp at h
      case isTrue hc =>
        obtain ⟨c1, c2, c3⟩ := hc
        obtain ⟨k1, k2, k3⟩ := cells_ok (hρ x) c1
        have hsz : (σ x).cells.size = size := by have := k1.1; simp at this; omega
        have husz : us.size = cells.length := by have := hv.1; simpa using this
        obtain ⟨ws, hw, hw2⟩ := fillA_ok hρ rest _ r (us.toList.take off ++ (σ x).cells.toList ++ us.toList.drop (off + (σ x).cells.size)).toArray
          (by have := setCs_ok off hv k1; simpa using this) (setCs_ones off ho k2) h
        refine ⟨ws, ?_, hw2⟩
        simp only [List.map_cons, Instr.fill, hpl]
        rw [if_neg (by simp [hsz, husz]; omega), fill_step us (σ x).cells off (by rw [hsz, husz]; exact c3)]
        exact hw

/-! ### The pure ones -/
def fieldA (P : Program) (t : TypeId) (x : AV) (f : Nat) : Option AV :=
  match tfld P t f, x with
  | some (o, s, ft), .agg cs => match tk P ft with
    | some (n, true) => some (.agg ((cs.drop o).take n))
    | some (_, false) => cs[o]?
    | none => none
  | _, _ => none

theorem fieldA_ok (w : World) {t : TypeId} {x r : AV} {u : Value} {f : Nat} (hu : VR mu pr hp x u) (h : fieldA P t x f = some r) : ∃ z, (Instr.field t u f).run P w = .ok z w ∧ VR mu pr hp r z := by
  unfold fieldA at h
  split at h
  case h_2 => simp at h
  case h_1 o s ft cs hf =>
    obtain ⟨fs, fd, hd, hfi, rfl, rfl, hs⟩ := tfld_inv hf
    obtain ⟨arr, rfl, hcs, ho⟩ := hu.agg_inv
    split at h
    case h_3 => simp at h
    case h_1 n hn =>
      simp only [Option.some.injEq] at h
      subst h
      refine ⟨.agg (arr.extract fd.offset (fd.offset + n)), by simp [Instr.field, run_underlying hd, hfi, part, asAgg, (run_tk hn w).1, (run_tk hn w).2], ?_⟩
      have h1 := VR.agg_mk ((hcs.drop fd.offset).take n) (by
        refine ones_of fun i c hc => ?_
        rw [List.getElem?_take] at hc
        split at hc
        · rw [List.getElem?_drop] at hc; exact ones_get ho hc
        · simp at hc)
      have h2 : arr.extract fd.offset (fd.offset + n) = ((arr.toList.drop fd.offset).take n).toArray := by
        apply Array.ext'
        simp [List.take_drop, Nat.add_comm]
      rw [h2]
      exact h1
    case h_2 n hn =>
      obtain ⟨z, hz, hr⟩ := hcs.2 _ _ h
      refine ⟨z, ?_, hr⟩
      have hz' : arr[fd.offset]? = some z := by simpa using hz
      simp [Instr.field, run_underlying hd, hfi, part, asAgg, (run_tk hn w).2, hz']

/-- A struct type's zero cells, and where each field lies. -/
def tbuild (P : Program) (t : TypeId) : Option (List AV × List (Nat × Nat)) :=
  match P.underlying t with
  | some (.struct fs) => match tzero P t, fs.toList.mapM (fun f => (tsz P f.type).map fun s => (f.offset, s)) with
    | some z, some pl => if ones z then some (z, pl) else none
    | _, _ => none
  | _ => none

def buildA (P : Program) (t : TypeId) (parts : List (Nat × AV)) : Option AV :=
  match tbuild P t with
  | some (z, pl) => (fillA (fun i => pl[i]?) z parts).map .agg
  | none => none

theorem tzero_run {t : TypeId} {z : List AV} (h : tzero P t = some z) (w : World) : ∃ v, (zeroValue t).run P w = .ok v w ∧ VRs mu pr hp z v.cells.toList ∧ ∀ i, P.info? t = some i → i.zero = some v := by
  unfold tzero at h
  split at h
  case h_2 => simp at h
  case h_1 i hi =>
    split at h
    case h_2 => simp at h
    case h_1 v hv =>
      simp only [Option.some.injEq] at h
      subst h
      refine ⟨v, by simp [zeroValue, typeInfo, hi, hv], avc1s_ok _, fun i' hi' => ?_⟩
      rw [hi] at hi'
      cases hi'
      exact hv

theorem run_mapM_sizes (w : World) : ∀ (fs : List Field) (l : List (Nat × Nat)), fs.mapM (fun f => (tsz P f.type).map fun s => (f.offset, s)) = some l →
    (fs.mapM fun f => (do pure (f.offset, ← sizeOf f.type) : Sem (Nat × Nat))).run P w = .ok l w
  | [], l, h => by
    simp at h
    subst h
    simp
  | f :: fs, l, h => by
    simp only [List.mapM_cons, Option.bind_eq_bind, Option.pure_def] at h
    obtain ⟨x, hx, h⟩ := Option.bind_eq_some_iff.1 h
    obtain ⟨l', hl, h⟩ := Option.bind_eq_some_iff.1 h
    simp only [Option.map_eq_some_iff] at hx
    obtain ⟨s, hs, rfl⟩ := hx
    cases h
    simp only [List.mapM_cons, Sem.run_bind, run_sizeOf' hs, Result.andThen_ok, Sem.run_pure, run_mapM_sizes w fs l' hl]

theorem buildA_ok (w : World) {ρ : Operand → AV} {σ : Operand → Value} (hρ : ∀ x, VR mu pr hp (ρ x) (σ x)) {t : TypeId} {parts : Array (Nat × Operand)} {r : AV} (h : buildA P t (parts.toList.map fun p => (p.1, ρ p.2)) = some r) :
    ∃ z, (Instr.build t (parts.map fun (i, x) => (i, σ x))).run P w = .ok z w ∧ VR mu pr hp r z := by
  unfold buildA at h
  split at h
  case h_2 => simp at h
  case h_1 z pl hb =>
    simp only [Option.map_eq_some_iff] at h
    obtain ⟨cs, hcs, rfl⟩ := h
    unfold tbuild at hb
    split at hb
    case h_2 => simp at hb
    case h_1 fs hd =>
      split at hb
      case h_2 => simp at hb
      case h_1 z' pl' hz hpl =>
        split at hb
        case isFalse => simp at hb
        case isTrue ho =>
          simp only [Option.some.injEq, Prod.mk.injEq] at hb
          obtain ⟨rfl, rfl⟩ := hb
          obtain ⟨v, hv1, hv2, _⟩ := tzero_run (mu := mu) (pr := pr) (hp := hp) hz w
          obtain ⟨ws, hw1, hw2, hw3⟩ := fillA_ok hρ parts.toList _ cs v.cells hv2 ho hcs
          have hm := run_mapM_sizes w fs.toList _ hpl
          have ha : (fs.mapM fun f => (do pure (f.offset, ← sizeOf f.type) : Sem (Nat × Nat))).run P w = .ok pl'.toArray w := by
            rw [Array.mapM_eq_mapM_toList, Sem.run_map, hm]
            rfl
          refine ⟨.agg ws, ?_, by simpa using VR.agg_mk hw2 hw3⟩
          have hw1' : Instr.fill (fun x => pl'[x]?) v.cells (List.map (fun p => (p.1, σ p.2)) parts.toList) = some ws := hw1
          simp only [Instr.build, Sem.run_bind, hv1, Result.andThen_ok, run_underlying hd, ha, Array.toList_map]
          simp [hw1']

def lenA (P : Program) (t : TypeId) (x : AV) : Option AV :=
  match P.underlying t, x with
  | some .string, .str s => some (.int .i64 s.size)
  | some (.slice _), .tr _ es => some (.int .i64 es.length)
  | some (.slice _), .sl _ _ _ n => some (.int .i64 n)
  | some (.slice _), .nilsl => some (.int .i64 0)
  | _, _ => none

theorem lenA_ok (w : World) {t ty : TypeId} {x r : AV} {u : Value} (hu : VR mu pr hp x u) (h : lenA P t x = some r) : ∃ z, (Builtin.len_ #[t] ty #[u]).run P w = .ok z w ∧ VR mu pr hp r z := by
  unfold lenA at h
  split at h
  case h_5 => simp at h
  all_goals
    rename_i hd
    simp only [Option.some.injEq] at h
    subst h
    cases hu <;> exact ⟨_, by simp [Builtin.len_, run_underlying hd]; rfl, by constructor⟩

def unA (op : UnOp) : AV → Option AV
  | .int k n => match op with
    | .neg => some (.int k (k.wrap (-n)))
    | _ => none
  | .bool b => match op with
    | .not => some (.bool !b)
    | _ => none
  | _ => none

theorem unA_ok (w : World) {op : UnOp} {x r : AV} {u : Value} (hu : VR mu pr hp x u) (h : unA op x = some r) : ∃ z, (Op.unary op u).run P w = .ok z w ∧ VR mu pr hp r z := by
  unfold unA at h
  split at h
  case h_3 => simp at h
  all_goals
    cases hu
    split at h
    case h_2 => simp at h
    case h_1 =>
      simp only [Option.some.injEq] at h
      subst h
      exact ⟨_, by simp [Op.unary, Op.intArith]; rfl, by constructor⟩

def convA (P : Program) (s d : TypeId) (x : AV) : Option AV :=
  match P.underlying s, P.underlying d, x with
  | some _, some (.int k), .int _ n => some (.int k (k.wrap n))
  | some .string, some .string, .str b => some (.str b)
  | _, _, _ => none

theorem convA_ok (w : World) {s d : TypeId} {x r : AV} {u : Value} (hu : VR mu pr hp x u) (h : convA P s d x = some r) : ∃ z, (convert s d u).run P w = .ok z w ∧ VR mu pr hp r z := by
  unfold convA at h
  split at h
  case h_3 => simp at h
  all_goals
    rename_i h1 h2
    cases hu
    simp only [Option.some.injEq] at h
    subst h
    exact ⟨_, by simp [convert, run_underlying h1, run_underlying h2, Conv.intToInt]; rfl, by constructor⟩

def mmA (b : Builtin) : List AV → Option AV
  | [.int k x, .int _ y] => match b with
    | .min => some (.int k (if y < x then y else x))
    | .max => some (.int k (if y > x then y else x))
    | _ => none
  | _ => none

end

/-! ### Rows, cut; bytes as a text -/
/-- A slice's elements. -/
def srcElems (rows : Nm → Option Row) : AV → Option (List (List AV))
  | .nilsl => some []
  | .tr _ es => some es
  | .sl n v off len => match rows n with
    | some r => if r.ver = v ∧ off + len ≤ r.elems.length then some ((r.elems.drop off).take len) else none
    | none => none
  | _ => none

section
variable {P : Program} {mu mu' : Nm → Nat → Option Loc} {pr pr' : Bool → Nat → Prop} {hp hp' : Array Obj} {h : Hp} {w w' : World}
theorem idx_lt {i n s j : Nat} (hi : i < n) (hj : j < s) : i * s + j < n * s := by
  have : (i + 1) * s ≤ n * s := Nat.mul_le_mul_right _ hi
  rw [Nat.add_mul] at this
  omega

theorem CellsR.take {arr : Array Value} {o s : Nat} {elems : List (List AV)} (n : Nat) (h : CellsR mu pr hp arr o s elems) : CellsR mu pr hp arr o s (elems.take n) := by
  have key : ∀ (i : Nat) (e : List AV), (elems.take n)[i]? = some e → elems[i]? = some e := by
    intro i e he
    rw [List.getElem?_take] at he
    split at he
    · exact he
    · simp at he
  exact ⟨fun i e he => h.1 i e (key i e he), fun i e j c he hj => h.2 i e j c (key i e he) hj⟩

theorem CellsR.drop {arr : Array Value} {o s : Nat} {elems : List (List AV)} (n : Nat) (h : CellsR mu pr hp arr o s elems) : CellsR mu pr hp arr (o + n * s) s (elems.drop n) := by
  refine ⟨fun i e he => h.1 (n + i) e (by rw [List.getElem?_drop] at he; exact he), fun i e j c he hj => ?_⟩
  rw [List.getElem?_drop] at he
  obtain ⟨g1, u, g2, g3⟩ := h.2 (n + i) e j c he hj
  exact ⟨g1, u, by rw [← g2]; congr 1; rw [Nat.add_mul]; omega, g3⟩

/-- A row's values, in a list. -/
theorem CellsR.values {arr : Array Value} {s : Nat} : ∀ (elems : List (List AV)) (o : Nat), CellsR mu pr hp arr o s elems → ∃ vs, VRs mu pr hp elems.flatten vs ∧ vs.length = elems.length * s ∧
    ∀ (k : Nat) (u : Value), vs[k]? = some u → arr[o + k]? = some u
  | [], o, _ => ⟨[], .nil, by simp, fun k u h => by simp at h⟩
  | e :: es, o, h => by
    have hes : CellsR mu pr hp arr (o + s) s es := by
      have := h.drop 1
      simpa using this
    obtain ⟨vs, h1, h2, h3⟩ := CellsR.values es (o + s) hes
    have hel : e.length = s := h.1 0 e rfl
    have hget : ∀ (j : Nat) (c : AV), e[j]? = some c → ∃ u, arr[o + j]? = some u ∧ VR mu pr hp c u := by
      intro j c hj
      obtain ⟨_, u, g2, g3⟩ := h.2 0 e j c rfl hj
      exact ⟨u, by simpa using g2, g3⟩
    let us : List Value := (List.range e.length).map fun j => (arr[o + j]?).getD undef
    have hus : VRs mu pr hp e us := ⟨by simp [us], fun j c hj => by
      obtain ⟨u, g1, g2⟩ := hget j c hj
      have := (List.getElem?_eq_some_iff.1 hj).1
      exact ⟨u, by simp [us, this, g1], g2⟩⟩
    refine ⟨us ++ vs, by rw [List.flatten_cons]; exact hus.append h1, by simp [us, hel, h2, Nat.add_mul]; omega, fun k u hk => ?_⟩
    have hul : us.length = s := by simp [us, hel]
    by_cases hks : k < s
    · rw [List.getElem?_append_left (by omega)] at hk
      obtain ⟨u', g1, _⟩ := hget k e[k] (by simp [hel, hks])
      have : us[k]? = some u' := by simp [us, hel, hks, g1]
      rw [this] at hk
      cases hk
      exact g1
    · rw [List.getElem?_append_right (by omega), hul] at hk
      have := h3 _ _ hk
      rw [← this]
      congr 1
      omega

theorem srcElems_ok (R : Rel mu pr h w) {x : AV} {u : Value} {es : List (List AV)} {s : Nat} (hu : VR mu pr w.heap x u) (he : srcElems h.rows x = some es) (hs : ∀ e ∈ es, e.length = s) :
    ∃ a cap, u = .slice a es.length cap ∧ (∀ e ∈ es, ones e = true) ∧ (es ≠ [] → ∃ ad vs, a = some ad ∧ VRs mu pr w.heap es.flatten vs ∧ vs.length = es.length * s ∧ (∀ (j : Nat) (v : Value), vs[j]? = some v → w.cell? (ad.add j) = some v)) := by
  have fin : ∀ {arr : Array Value} {ty : TypeId} {fr : Nat × Nat} {b o esz : Nat} {elems : List (List AV)}, w.heap[b]? = some (.cells arr ty fr) → CellsR mu pr w.heap arr o esz elems → (∀ e ∈ elems, e.length = s) → elems ≠ [] →
      (∀ e ∈ elems, ones e = true) ∧ ∃ vs, VRs mu pr w.heap elems.flatten vs ∧ vs.length = elems.length * s ∧ (∀ (j : Nat) (v : Value), vs[j]? = some v → w.cell? (Addr.add ⟨b, o, none⟩ j) = some v) := by
    intro arr ty fr b o esz elems hb hc hl hne
    obtain ⟨vs, h1, h2, h3⟩ := CellsR.values elems o hc
    have hez : esz = s := by
      cases elems with
      | nil => exact absurd rfl hne
      | cons e es => rw [← hl e (by simp), hc.1 0 e rfl]
    refine ⟨fun e hm => ?_, vs, h1, by rw [h2, hez], fun j v hj => by rw [Addr.add_lit, cell_of_row w b (o + j) arr ty fr hb]; exact h3 j v hj⟩
    obtain ⟨i, hi⟩ := List.mem_iff_getElem?.1 hm
    exact ones_of fun j c hj => (hc.2 i e j c hi hj).1
  cases x with
  | nilsl =>
    simp [srcElems] at he
    subst he
    cases hu
    exact ⟨none, 0, rfl, by simp, fun h => absurd rfl h⟩
  | tr g elems =>
    simp [srcElems] at he
    subst he
    cases hu with
    | tr0 _ a cap => exact ⟨a, cap, rfl, by simp, fun h => absurd rfl h⟩
    | tr _ b o cap esz arr ty fr _ us h1 h2 h3 h4 h5 h6 h7 =>
      have hc : CellsR mu pr w.heap arr o esz elems := ⟨h4, fun i e j c g1 g2 => ⟨h6 i e j c g1 g2, us i j, h5 i e j c g1 g2, h7 i e j c g1 g2⟩⟩
      by_cases hne : elems = []
      · subst hne
        exact ⟨_, cap, rfl, by simp, fun h => absurd rfl h⟩
      · obtain ⟨g1, vs, g2, g3, g4⟩ := fin h2 hc hs hne
        exact ⟨_, cap, rfl, g1, fun _ => ⟨_, vs, rfl, g2, g3, g4⟩⟩
  | sl n ver off len =>
    simp only [srcElems] at he
    split at he
    case h_2 => simp at he
    case h_1 r hrow =>
      split at he
      case isFalse => simp at he
      case isTrue hc =>
        obtain ⟨rfl, c2⟩ := hc
        simp only [Option.some.injEq] at he
        subst he
        cases hu with
        | sl _ _ _ _ cap ao l arr ty fr g1 g2 g3 g4 g5 g6 g7 g8 =>
          obtain ⟨l2, arr2, ty2, k1, k2, k3, k4, k5, k6⟩ := R.row n r hrow
          rw [g1] at k1
          cases k1
          have hlen : ((r.elems.drop off).take len).length = len := by simp; omega
          refine ⟨some ⟨l.b, ao, none⟩, cap, by rw [hlen], ?_, fun hne => ?_⟩
          · by_cases hne : (r.elems.drop off).take len = []
            · rw [hne]; simp
            · exact (fin k3 ((k6.drop off).take len) hs hne).1
          · have hpos : 0 < len := by
              rcases Nat.eq_zero_or_pos len with h0 | h0
              · subst h0; simp at hne
              · exact h0
            obtain ⟨q1, vs, q2, q3, q4⟩ := fin k3 ((k6.drop off).take len) hs hne
            exact ⟨_, vs, rfl, q2, q3, by rw [g8 (by omega)]; exact q4⟩
  | _ => simp [srcElems] at he

/-- The bytes of a slice's elements. -/
def bytesOf : List (List AV) → Option (List Int)
  | [] => some []
  | [.int .u8 n] :: es => (bytesOf es).map (n :: ·)
  | _ => none
def bstr (ns : List Int) : ByteArray := ns.foldl (fun r n => r.push (UInt8.ofNat n.toNat)) ByteArray.empty
def bstrA (P : Program) (rows : Nm → Option Row) (s d : TypeId) (x : AV) : Option AV :=
  match P.underlying s, P.underlying d with
  | some (.slice e), some .string => match P.underlying e with
    | some (.int .u8) => match srcElems rows x with
      | some es => (bytesOf es).map fun ns => .str (bstr ns)
      | none => none
    | _ => none
  | _, _ => none
theorem bytesOf_inv : ∀ {es : List (List AV)} {ns : List Int}, bytesOf es = some ns → es = ns.map fun n => [.int .u8 n]
  | [], ns, h => by simp [bytesOf] at h; subst h; rfl
  | e :: es, ns, h => by
    unfold bytesOf at h
    split at h
    case h_1 he => cases he
    case h_2 n es' he =>
      injection he with h1 h2
      subst h1 h2
      simp only [Option.map_eq_some_iff] at h
      obtain ⟨l, h1, rfl⟩ := h
      rw [bytesOf_inv h1]
      rfl
    case h_3 => cases h
theorem vrs_bytes {ns : List Int} {vs : List Value} (h : VRs mu pr hp (ns.map fun n => AV.int .u8 n) vs) : vs = ns.map (Value.int .u8) := by
  apply List.ext_getElem?
  intro i
  by_cases hi : i < ns.length
  · obtain ⟨u, hu, hv⟩ := h.2 i (.int .u8 ns[i]) (by simp [hi])
    rw [hu]
    cases hv
    simp [hi]
  · have hl := h.1
    simp at hl
    rw [List.getElem?_eq_none (by omega), List.getElem?_eq_none (by simp; omega)]
theorem bstrA_ok (R : Rel mu pr h w) {s d : TypeId} {x r : AV} {u : Value} (hu : VR mu pr w.heap x u) (he : bstrA P h.rows s d x = some r) : ∃ z, (convert s d u).run P w = .ok z w ∧ VR mu pr w.heap r z := by
  unfold bstrA at he
  split at he
  case h_2 => cases he
  case h_1 e h1 h2 =>
    split at he
    case h_2 => cases he
    case h_1 h3 =>
      split at he
      case h_2 => cases he
      case h_1 es h4 =>
        simp only [Option.map_eq_some_iff] at he
        obtain ⟨ns, h5, rfl⟩ := he
        have h6 := bytesOf_inv h5
        obtain ⟨a, cap, rfl, _, h7⟩ := srcElems_ok (s := 1) R hu h4 (fun e he => by rw [h6] at he; simp at he; obtain ⟨n, _, rfl⟩ := he; rfl)
        rw [run_convert_bytes_string w s d e a es.length cap h1 h3 h2]
        refine ⟨.string (bstr ns), ?_, .str _⟩
        have hfl : es.flatten = ns.map fun n => AV.int .u8 n := by
          rw [h6]
          clear h5 h6 h4 h7
          induction ns with
          | nil => rfl
          | cons n ns ih => simpa using ih
        by_cases hne : es = []
        · subst hne
          have hn : ns = [] := by
            cases ns with
            | nil => rfl
            | cons => simp at h6
          subst hn
          cases a with
          | none => simp [Conv.bytesToString, bstr, Sem.run_pure]
          | some ad => exact run_bytesToString w ad 0 cap [] (run_loadCells_list (P := P) w ad [] (fun j v hv => by simp at hv))
        · obtain ⟨ad, vs, rfl, q1, q2, q3⟩ := h7 hne
          rw [hfl] at q1
          have hv := vrs_bytes q1
          have hlen : es.length = (ns.map (Value.int .u8)).length := by rw [h6]; simp
          rw [hv] at q3
          exact run_bytesToString w ad es.length cap ns (by rw [hlen]; exact run_loadCells_list (P := P) w ad _ q3)
end

/-! ### Pieces whose room is cut: only that they are there -/
section
variable {P : Program} {mu : Nm → Nat → Option Loc} {pr : Bool → Nat → Prop}
def sliceM (P : Program) (rows : Nm → Option Row) (t : TypeId) (x l h m : AV) : Option AV := match P.underlying t, x with
  | some (.slice e), .sl n v off len => match tsz P e, rows n, l, h, m with
    | some s, some r, .int _ l, .int _ h, .int _ m => if 0 ≤ l ∧ l ≤ h ∧ h ≤ m ∧ (off : Int) + m ≤ r.elems.length ∧ r.ver = v then some .undef else none
    | _, _, _, _, _ => none
  | _, _ => none
theorem sliceM_ok {h : Hp} {w : World} (R : Rel mu pr h w) {t : TypeId} {x l hh m r : AV} {u ul uh um : Value} (hu : VR mu pr w.heap x u) (hl : VR mu pr w.heap l ul) (hh' : VR mu pr w.heap hh uh) (hm' : VR mu pr w.heap m um)
    (he : sliceM P h.rows t x l hh m = some r) : ∃ z, (Instr.sliceAt t u (some ul) (some uh) (some um)).run P w = .ok z w ∧ VR mu pr w.heap r z := by
  unfold sliceM at he
  split at he
  case h_2 => simp at he
  case h_1 e n v off len hd =>
    split at he
    case h_2 => simp at he
    case h_1 s row _ a _ b _ c hs hrow =>
      split at he
      case isFalse => simp at he
      case isTrue hc =>
        simp only [Option.some.injEq] at he
        subst he
        obtain ⟨c1, c2, c3, c4, c5⟩ := hc
        cases hl
        cases hh'
        cases hm'
        cases hu with
        | sl _ _ _ _ cap ao loc arr ty fr g1 g2 g3 g4 g5 g6 g7 g8 =>
          obtain ⟨l', arr', ty', hm, hnp, hb, he1, he2, _⟩ := R.row n row hrow
          rw [c5, g1] at hm
          cases hm
          have q1 : 0 ≤ c ∧ c ≤ (cap : Int) := ⟨by omega, by omega⟩
          have q2 : 0 ≤ b ∧ b ≤ ((c.toNat : Nat) : Int) := ⟨by omega, by omega⟩
          have q3 : 0 ≤ a ∧ a ≤ ((b.toNat : Nat) : Int) := ⟨by omega, by omega⟩
          exact ⟨_, by simp only [Instr.sliceAt, Instr.slice, run_underlying hd, Instr.sliceBounds, Instr.sliceBound, asIntOf, Sem.run_bind, Sem.run_pure, Result.andThen_ok, if_pos q1, if_pos q2, if_pos q3, run_sizeOf' hs]; rfl, .undef _⟩
theorem sliceM_mono {rows rows' : Nm → Option Row} (hr : ∀ n r, rows n = some r → rows' n = some r) {t : TypeId} {x l h m v : AV} (he : sliceM P rows t x l h m = some v) : sliceM P rows' t x l h m = some v := by
  unfold sliceM at he ⊢
  split at he
  case h_2 => simp at he
  case h_1 e n v off len hd =>
    split at he
    case h_2 => simp at he
    case h_1 s row _ a _ b _ c hs hrow =>
      simp only [hs, hr _ _ hrow]
      exact he
end

section
variable {P : Program} {mu : Nm → Nat → Option Loc} {pr : Bool → Nat → Prop}
def sliceX (P : Program) (rows : Nm → Option Row) (t : TypeId) (x : AV) (lo hi mx : Option AV) : Option AV := match mx with
  | none => sliceA P rows t x lo hi false
  | some m => match lo, hi with
    | some l, some h => sliceM P rows t x l h m
    | _, _ => none
theorem sliceX_ok {h : Hp} {w : World} (R : Rel mu pr h w) {t : TypeId} {x r : AV} {u : Value} {lo hi mx : Option Operand} {ρ : Operand → AV} {σ : Operand → Value} (hρ : ∀ x, VR mu pr w.heap (ρ x) (σ x)) (hu : VR mu pr w.heap x u)
    (he : sliceX P h.rows t x (lo.map ρ) (hi.map ρ) (mx.map ρ) = some r) : ∃ z, (Instr.sliceAt t u (lo.map σ) (hi.map σ) (mx.map σ)).run P w = .ok z w ∧ VR mu pr w.heap r z := by
  cases mx with
  | none => exact sliceA_ok R (mx := none) hρ hu he
  | some m =>
    cases lo with
    | none => simp [sliceX] at he
    | some l =>
      cases hi with
      | none => simp [sliceX] at he
      | some h' => exact sliceM_ok R hu (hρ l) (hρ h') (hρ m) he
end

section
variable {P : Program} {mu : Nm → Nat → Option Loc} {pr : Bool → Nat → Prop} {hp : Array Obj}

def pickA (b : Bool) (x y : AV) : AV := if b then x else y
/-- A quiet operation's value. -/
def evQ (P : Program) (ρ : Operand → AV) (rows : Nm → Option Row) : Op → Option AV
  | .move x | .assign x => some (ρ x)
  | .pick c a b => match ρ c with
    | .bool t => some (pickA t (ρ a) (ρ b))
    | _ => none
  | .load t a => loadA P rows t (ρ a)
  | .nilCheck x => match ρ x with
    | .ptr n v i o => some (.ptr n v i o)
    | .tptr g cs => some (.tptr g cs)
    | .fn f cs => some (.fn f cs)
    | _ => none
  | .binOp op t x y _ => binA P op t (isCst x || isCst y) (ρ x) (ρ y)
  | .unOp op _ x => unA op (ρ x)
  | .convert s d x => match convA P s d (ρ x) with
    | some v => some v
    | none => bstrA P rows s d (ρ x)
  | .field t x f => fieldA P t (ρ x) f
  | .fieldAddr t x f => faddrA P t (ρ x) f
  | .indexAddr t x i => iaddrA P rows t (ρ x) (ρ i)
  | .index t x i => indexA P t (ρ x) (ρ i)
  | .slice t x lo hi mx => sliceX P rows t (ρ x) (lo.map ρ) (hi.map ρ) (mx.map ρ)
  | .extract x i => match ρ x with
    | .tup vs => vs[i]?
    | _ => none
  | .build t parts => buildA P t (parts.toList.map fun p => (p.1, ρ p.2))
  | .makeFunc (.func f) ⟨[]⟩ captured => some (.fn f (captured.toList.map ρ))
  | .call ⟨.builtin .len, ⟨[x]⟩, ⟨[t]⟩⟩ => lenA P t (ρ x)
  | .call ⟨.builtin .min, ⟨[x, y]⟩, _⟩ => mmA .min [ρ x, ρ y]
  | .call ⟨.builtin .max, ⟨[x, y]⟩, _⟩ => mmA .max [ρ x, ρ y]
  | _ => none

theorem VRs.of_map {ρ : Operand → AV} {σ : Operand → Value} (hρ : ∀ x, VR mu pr hp (ρ x) (σ x)) (l : List Operand) : VRs mu pr hp (l.map ρ) (l.map σ) := by
  refine ⟨by simp, fun i c hc => ?_⟩
  simp only [List.getElem?_map, Option.map_eq_some_iff] at hc
  obtain ⟨x, hx, rfl⟩ := hc
  exact ⟨σ x, by simp [hx], hρ x⟩

theorem evQ_ok {h : Hp} {w : World} (R : Rel mu pr h w) {o : Oper} {ρ : Operand → AV} {σ : Operand → Value} (hρ : ∀ x, VR mu pr w.heap (ρ x) (σ x)) {r : AV} (he : evQ P ρ h.rows o.op = some r) :
    ∃ z, (execOp σ o).run P w = .ok (.value z) w ∧ VR mu pr w.heap r z := by
  have lift : ∀ {s : Sem Value} {z : Value}, s.run P w = .ok z w → ((do pure (.value (← s)) : Sem Next)).run P w = .ok (.value z) w := by
    intro s z hs
    simp [hs]
  obtain ⟨dst, op, type, pos, after, guard⟩ := o
  simp only at he
  unfold evQ at he
  split at he
  case h_20 => simp at he
  case h_1 x => simp at he; subst he; exact ⟨σ x, rfl, hρ x⟩
  case h_2 x => simp at he; subst he; exact ⟨σ x, rfl, hρ x⟩
  case h_3 c a b =>
    split at he
    case h_2 => simp at he
    case h_1 t hc =>
      simp at he
      subst he
      have h1 := hρ c
      rw [hc] at h1
      generalize hz : σ c = z at h1
      cases h1
      refine ⟨if t then σ a else σ b, ?_, by unfold pickA; split <;> exact hρ _⟩
      simp [execOp, hz, asBool]
  case h_4 t a => obtain ⟨z, h1, h2⟩ := loadA_ok R (hρ a) he; exact ⟨z, lift h1, h2⟩
  case h_5 x =>
    have h1 := hρ x
    split at he
    case h_4 => simp at he
    all_goals
      rename_i hx
      simp at he
      subst he
      rw [hx] at h1
      generalize hz : σ x = z at h1
      cases h1 <;> exact ⟨_, by simp [execOp, hz]; rfl, by first | (constructor <;> assumption) | (rw [← hx, ← hz]; exact hρ x)⟩
  case h_6 op t x y ty => obtain ⟨z, h1, h2⟩ := binA_ok w (hρ x) (hρ y) he; exact ⟨z, lift h1, h2⟩
  case h_7 op t x => obtain ⟨z, h1, h2⟩ := unA_ok w (hρ x) he; exact ⟨z, lift h1, h2⟩
  case h_8 s d x =>
    split at he
    case h_1 v hv =>
      cases he
      obtain ⟨z, h1, h2⟩ := convA_ok w (hρ x) hv; exact ⟨z, lift h1, h2⟩
    case h_2 => obtain ⟨z, h1, h2⟩ := bstrA_ok R (hρ x) he; exact ⟨z, lift h1, h2⟩
  case h_9 t x f => obtain ⟨z, h1, h2⟩ := fieldA_ok w (hρ x) he; exact ⟨z, lift h1, h2⟩
  case h_10 t x f => obtain ⟨z, h1, h2⟩ := faddrA_ok w (hρ x) he; exact ⟨z, lift h1, h2⟩
  case h_11 t x i => obtain ⟨z, h1, h2⟩ := iaddrA_ok R (hρ x) (hρ i) he; exact ⟨z, lift h1, h2⟩
  case h_12 t x i => obtain ⟨z, h1, h2⟩ := indexA_ok w (hρ x) (hρ i) he; exact ⟨z, lift h1, h2⟩
  case h_13 t x lo hi mx => obtain ⟨z, h1, h2⟩ := sliceX_ok R hρ (hρ x) he; exact ⟨z, lift h1, h2⟩
  case h_14 x i =>
    split at he
    case h_2 => simp at he
    case h_1 vs hx =>
      have h1 := hρ x
      rw [hx] at h1
      generalize hz : σ x = z at h1
      obtain ⟨arr, rfl, hvs⟩ := h1.tup_inv
      obtain ⟨u, hu, hr⟩ := hvs.2 _ _ he
      have hu' : arr[i]? = some u := by simpa using hu
      exact ⟨u, by simp [execOp, hz, Instr.extract, hu'], hr⟩
  case h_15 t parts => obtain ⟨z, h1, h2⟩ := buildA_ok w hρ he; exact ⟨z, lift h1, h2⟩
  case h_16 f captured =>
    simp at he
    subst he
    refine ⟨.func (.func f) #[] (captured.toList.map σ).toArray, ?_, VR.fn_mk (VRs.of_map hρ _)⟩
    have hm : captured.map σ = (captured.toList.map σ).toArray := by apply Array.ext'; simp
    simp [execOp, Instr.makeFunc, hm]
  case h_17 x t =>
    obtain ⟨z, h1, h2⟩ := lenA_ok (ty := type) w (hρ x) he
    exact ⟨z, by simp [execOp, resolve, invoke, builtin, h1], h2⟩
  case h_18 x y ts =>
    have h1 := hρ x
    have h2 := hρ y
    unfold mmA at he
    split at he
    case h_2 => simp at he
    case h_1 k a k' b hl =>
      simp only [List.cons.injEq, and_true] at hl
      rw [hl.1] at h1
      rw [hl.2] at h2
      generalize hz : σ x = z at h1
      generalize hz' : σ y = z' at h2
      cases h1
      cases h2
      simp at he
      subst he
      exact ⟨_, by simp [execOp, resolve, invoke, builtin, hz, hz', run_min_int2]; rfl, by constructor⟩
  case h_19 x y ts =>
    have h1 := hρ x
    have h2 := hρ y
    unfold mmA at he
    split at he
    case h_2 => simp at he
    case h_1 k a k' b hl =>
      simp only [List.cons.injEq, and_true] at hl
      rw [hl.1] at h1
      rw [hl.2] at h2
      generalize hz : σ x = z at h1
      generalize hz' : σ y = z' at h2
      cases h1
      cases h2
      simp at he
      subst he
      exact ⟨_, by simp [execOp, resolve, invoke, builtin, hz, hz', run_max_int2]; rfl, by constructor⟩

end
end Go.Proofs.YtmcmgeedhbgglaaGreatDoor.AM

namespace Go.Proofs.YtmcmgeedhbgglaaGreatDoor.AM
open Go.RowKit

def Hp.put (h : Hp) (n : Nm) (r : Row) : Hp := { h with rows := fun m => if m = n then some r else h.rows m }
def Hp.empty : Hp := ⟨fun _ => none, 0⟩

@[simp] theorem Hp.put_tick (h : Hp) (n : Nm) (r : Row) : (h.put n r).tick = h.tick := Nat.le_antisymm (Nat.le_refl _) (Nat.le_refl _)
theorem Hp.put_rows (h : Hp) (n m : Nm) (r : Row) : (h.put n r).rows m = if m = n then some r else h.rows m := rfl

def muPut (mu : Nm → Nat → Option Loc) (n : Nm) (v : Nat) (l : Loc) : Nm → Nat → Option Loc := fun m u => if m = n ∧ u = v then some l else mu m u

section
variable {P : Program} {mu : Nm → Nat → Option Loc} {pr : Bool → Nat → Prop} {h : Hp} {w w' : World}

theorem Rel.put (R : Rel mu pr h w) (n : Nm) (v esz : Nat) (elems : List (List AV)) (l : Loc) (arr : Array Value) (ty : TypeId)
    (hb : w'.heap[l.b]? = some (.cells arr ty (0, 0))) (he : l.esz = esz) (hr : l.rlen = elems.length) (hc : CellsR mu pr w.heap arr l.o esz elems) (hnp : ∀ c, ¬ pr c l.b)
    (hother : ∀ b, b ≠ l.b → b < w.heap.size → w'.heap[b]? = w.heap[b]?)
    (hsize : ∀ (a : Array Value) (t : TypeId) (fr : Nat × Nat), w.heap[l.b]? = some (.cells a t fr) → arr.size = a.size ∧ t = ty)
    (huniq : ∀ m r k, h.rows m = some r → mu m r.ver = some k → k.b = l.b → m = n)
    (hmu : mu n v = some l ∨ mu n v = none) (hver : ∀ u, v < u → mu n u = none) (htick : n.1 < h.tick) (F : Fr w w') :
    Rel (muPut mu n v l) pr (h.put n ⟨v, esz, elems⟩) w' ∧ Ext mu pr w.heap (muPut mu n v l) pr w'.heap := by
  have X : Ext mu pr w.heap (muPut mu n v l) pr w'.heap := by
    refine ⟨fun m u k hk => ?_, fun c b hb => hb, fun c b hb' => ?_, fun b a t fr hab => ?_⟩
    · unfold muPut
      split
      · rename_i h1
        obtain ⟨rfl, rfl⟩ := h1
        rcases hmu with h2 | h2 <;> rw [hk] at h2
        · exact h2.symm
        · cases h2
      · exact hk
    · exact hother b (fun e => hnp c (e ▸ hb')) (R.lt c b hb')
    · by_cases hbl : b = l.b
      · subst hbl
        obtain ⟨h1, h2⟩ := hsize a t fr hab
        subst h2
        exact ⟨arr, (0, 0), hb, h1⟩
      · have hlt : b < w.heap.size := (Array.getElem?_eq_some_iff.1 hab).1
        exact ⟨a, fr, by rw [hother b hbl hlt]; exact hab, rfl⟩
  refine ⟨⟨fun m r hm => ?_, fun m r m' r' k k' hm hm' hk hk' hkk => ?_, fun t i j u ht => ?_, fun m r u hm hu => ?_, fun c b hb' => Nat.lt_of_lt_of_le (R.lt c b hb') F.size, R.tab.ext X⟩, X⟩
  · rw [Hp.put_rows] at hm
    split at hm
    · rename_i hmn
      subst hmn
      cases hm
      refine ⟨l, arr, ty, by simp [muPut], hnp, hb, he, hr, ?_⟩
      rw [he]
      exact ⟨hc.1, fun i e j c h1 h2 => ⟨(hc.2 i e j c h1 h2).1, let ⟨x, hx, hv⟩ := (hc.2 i e j c h1 h2).2; ⟨x, hx, hv.mono X⟩⟩⟩
    · rename_i hmn
      obtain ⟨k, a, t, h1, h2, h3, h4, h5, h6⟩ := R.row m r hm
      have hne : k.b ≠ l.b := fun e => hmn (huniq m r k hm h1 e)
      refine ⟨k, a, t, X.names _ _ _ h1, h2, ?_, h4, h5, h6.1, fun i e j c g1 g2 => ⟨(h6.2 i e j c g1 g2).1, let ⟨x, hx, hv⟩ := (h6.2 i e j c g1 g2).2; ⟨x, hx, hv.mono X⟩⟩⟩
      rw [hother k.b hne (Array.getElem?_eq_some_iff.1 h3).1]
      exact h3
  · rw [Hp.put_rows] at hm hm'
    have look : ∀ m r k, h.rows m = some r → m ≠ n → muPut mu n v l m r.ver = some k → mu m r.ver = some k := by
      intro m r k _ hmn hk
      unfold muPut at hk
      rwa [if_neg (fun e => hmn e.1)] at hk
    split at hm
    · rename_i hmn
      cases hm
      simp only [muPut, hmn, and_self, if_true, Option.some.injEq] at hk
      subst hk
      split at hm'
      · rename_i hmn'
        rw [hmn, hmn']
      · rename_i hmn'
        rw [hmn, huniq m' r' k' hm' (look m' r' k' hm' hmn' hk') hkk.symm]
    · rename_i hmn
      split at hm'
      · rename_i hmn'
        cases hm'
        simp only [muPut, hmn', and_self, if_true, Option.some.injEq] at hk'
        subst hk'
        rw [hmn', huniq m r k hm (look m r k hm hmn hk) hkk]
      · rename_i hmn'
        exact R.inj m r m' r' k k' hm hm' (look m r k hm hmn hk) (look m' r' k' hm' hmn' hk') hkk
  · unfold muPut
    rw [if_neg (fun e => by have := e.1; rw [← this] at htick; simp at htick; simp only [Hp.put_tick] at ht; omega)]
    exact R.fresh t i j u ht
  · rw [Hp.put_rows] at hm
    unfold muPut
    split at hm
    · rename_i hmn
      cases hm
      rw [if_neg (fun e => by simp at hu; omega), hmn]
      exact hver u hu
    · rename_i hmn
      rw [if_neg (fun e => hmn e.1)]
      exact R.vers m r u hm hu

/-- What a step of one operation gives: a value, and memory that stands for the heap of rows. -/
structure Gives (P : Program) (mu : Nm → Nat → Option Loc) (pr : Bool → Nat → Prop) (w : World) (s : Sem Value) (r : AV) (h' : Hp) (mu' : Nm → Nat → Option Loc) (z : Value) (w' : World) : Prop where
  run : s.run P w = .ok z w'
  val : VR mu' pr w'.heap r z
  rel : Rel mu' pr h' w'
  ext : Ext mu pr w.heap mu' pr w'.heap
  fr : Fr w w'

theorem alloc_heap_new (w : World) (o : Obj) : (w.alloc o).heap[w.heap.size]? = some o := heap_alloc_new w o
theorem alloc_fr (w : World) (o : Obj) : Fr w (w.alloc o) := ⟨rfl, rfl, rfl, by simp⟩

/-- A new row, at a name that is free. -/
theorem Rel.new (R : Rel mu pr h w) (n : Nm) (esz : Nat) (elems : List (List AV)) (arr : Array Value) (ty : TypeId) (hc : CellsR mu pr w.heap arr 0 esz elems) (hfree : ∀ v, mu n v = none) (htick : n.1 < h.tick) :
    Rel (muPut mu n 0 ⟨w.heap.size, 0, esz, elems.length⟩) pr (h.put n ⟨0, esz, elems⟩) (w.alloc (.cells arr ty)) ∧
    Ext mu pr w.heap (muPut mu n 0 ⟨w.heap.size, 0, esz, elems.length⟩) pr (w.alloc (.cells arr ty)).heap := by
  refine R.put n 0 esz elems ⟨w.heap.size, 0, esz, elems.length⟩ arr ty (alloc_heap_new w _) rfl rfl hc (fun c hp => Nat.lt_irrefl _ (R.lt c _ hp)) (fun b hb hlt => Below.heap_alloc w _ b hlt) (fun a t fr ha => ?_) (fun m r k hm hk hkb => ?_)
    (.inr (hfree 0)) (fun u _ => hfree u) htick (alloc_fr w _)
  · simp at ha
  · exfalso
    obtain ⟨k', a, t, h1, h2, h3, _⟩ := R.row m r hm
    rw [hk] at h1
    cases h1
    rw [hkb] at h3
    simp at h3

/-- One element. -/
theorem CellsR.one {hp : Array Obj} {cs : List AV} {arr : Array Value} (h : VRs mu pr hp cs arr.toList) (ho : ones cs = true) : CellsR mu pr hp arr 0 cs.length [cs] := by
  refine ⟨fun i e he => ?_, fun i e j c he hj => ?_⟩
  · cases i with
    | zero => simp at he; rw [he]
    | succ i => simp at he
  · cases i with
    | zero =>
      simp at he
      subst he
      obtain ⟨u, hu, r⟩ := h.2 j c hj
      exact ⟨ones_get ho hj, u, by simpa using hu, r⟩
    | succ i => simp at he

def allocA (P : Program) (t : TypeId) (h : Hp) (n : Nm) : Option (AV × Hp) :=
  match tzero P t with
  | some z => if ones z then some (.ptr n 0 0 0, h.put n ⟨0, z.length, [z]⟩) else none
  | none => none

theorem run_newRow (P : Program) (w : World) (ty : TypeId) (arr : Array Value) : (newRow ty arr).run P w = .ok ⟨w.heap.size, 0, none⟩ (w.alloc (.cells arr ty)) := by
  simp [newRow, newObj, Sem.run]

theorem allocA_ok (R : Rel mu pr h w) {t : TypeId} {n : Nm} {r : AV} {h' : Hp} (hfree : ∀ v, mu n v = none) (htick : n.1 < h.tick) (he : allocA P t h n = some (r, h')) (o : Value) :
    ∃ mu' z w', Gives P mu pr w (Instr.alloc t true o) r h' mu' z w' ∧ ∀ m v, m ≠ n → mu' m v = mu m v := by
  unfold allocA at he
  split at he
  case h_2 => simp at he
  case h_1 zs hz =>
    split at he
    case isFalse => simp at he
    case isTrue ho =>
      simp only [Option.some.injEq, Prod.mk.injEq] at he
      obtain ⟨rfl, rfl⟩ := he
      obtain ⟨v, hv1, hv2, _⟩ := tzero_run (mu := mu) (pr := pr) (hp := w.heap) hz w
      obtain ⟨h1, h2⟩ := R.new n zs.length [zs] v.cells t (.one hv2 ho) hfree htick
      refine ⟨_, .pointer (some ⟨w.heap.size, 0, none⟩), _, ⟨?_, ?_, h1, h2, alloc_fr w _⟩, fun m v hm => by simp [muPut, hm]⟩
      · simp [Instr.alloc, newVar, hv1, run_newRow]
      · have := VR.ptr (mu := muPut mu n 0 ⟨w.heap.size, 0, zs.length, 1⟩) (pr := pr) (hp := (w.alloc (.cells v.cells t)).heap) n 0 0 0 _ (by simp [muPut]; rfl)
        simpa using this

def boxA (x : AV) (h : Hp) (n : Nm) : Option (AV × Hp) :=
  if x.stored then some (.ptr n 0 0 0, h.put n ⟨0, x.cells.length, [x.cells]⟩) else none

theorem boxA_ok (R : Rel mu pr h w) {t : TypeId} {n : Nm} {x r : AV} {u : Value} {h' : Hp} (hu : VR mu pr w.heap x u) (hfree : ∀ v, mu n v = none) (htick : n.1 < h.tick) (he : boxA x h n = some (r, h')) :
    ∃ mu' z w', Gives P mu pr w (Instr.box t u) r h' mu' z w' ∧ ∀ m v, m ≠ n → mu' m v = mu m v := by
  unfold boxA at he
  split at he
  case isFalse => simp at he
  case isTrue hs =>
    simp only [Option.some.injEq, Prod.mk.injEq] at he
    obtain ⟨rfl, rfl⟩ := he
    obtain ⟨k1, k2, k3⟩ := cells_ok hu hs
    obtain ⟨h1, h2⟩ := R.new n x.cells.length [x.cells] u.cells t (.one k1 k2) hfree htick
    refine ⟨_, .pointer (some ⟨w.heap.size, 0, none⟩), _, ⟨?_, ?_, h1, h2, alloc_fr w _⟩, fun m v hm => by simp [muPut, hm]⟩
    · simp [Instr.box, newVar, run_newRow]
    · have := VR.ptr (mu := muPut mu n 0 ⟨w.heap.size, 0, x.cells.length, 1⟩) (pr := pr) (hp := (w.alloc (.cells u.cells t)).heap) n 0 0 0 _ (by simp [muPut]; rfl)
      simpa using this

/-- Elements, one behind the other. -/
theorem CellsR.flat {hp : Array Obj} {esz : Nat} : ∀ (elems : List (List AV)) (vs : List Value), (∀ e ∈ elems, e.length = esz ∧ ones e = true) → VRs mu pr hp elems.flatten vs → CellsR mu pr hp vs.toArray 0 esz elems := by
  intro elems vs hall hv
  have key : ∀ (l : List (List AV)) (i : Nat) (e : List AV) (j : Nat) (c : AV), (∀ e ∈ l, e.length = esz) → l[i]? = some e → e[j]? = some c → l.flatten[i * esz + j]? = some c := by
    intro l
    induction l with
    | nil => intro i e j c _ h; simp at h
    | cons x l ih =>
      intro i e j c hl hi hj
      have hx := hl x (by simp)
      cases i with
      | zero =>
        simp at hi
        subst hi
        have : j < x.length := (List.getElem?_eq_some_iff.1 hj).1
        simp only [List.flatten_cons, Nat.zero_mul, Nat.zero_add]
        rw [List.getElem?_append_left this]
        exact hj
      | succ i =>
        simp only [List.getElem?_cons_succ] at hi
        simp only [List.flatten_cons]
        rw [List.getElem?_append_right (by rw [hx, Nat.add_mul]; omega), hx, show (i + 1) * esz + j - esz = i * esz + j by rw [Nat.add_mul]; omega]
        exact ih i e j c (fun e he => hl e (by simp [he])) hi hj
  refine ⟨fun i e he => (hall e (List.mem_of_getElem? he)).1, fun i e j c he hj => ⟨ones_get (hall e (List.mem_of_getElem? he)).2 hj, ?_⟩⟩
  obtain ⟨u, hu, r⟩ := hv.2 _ c (key elems i e j c (fun e he => (hall e he).1) he hj)
  exact ⟨u, by simpa using hu, r⟩

end
end Go.Proofs.YtmcmgeedhbgglaaGreatDoor.AM

namespace Go.Proofs.YtmcmgeedhbgglaaGreatDoor.AM
open Go.RowKit

def tby (P : Program) (t : TypeId) : Option Nat := (P.info? t).map (·.bytes)
theorem tby_inv {P : Program} {t : TypeId} {n : Nat} (h : tby P t = some n) : ∃ i, P.info? t = some i ∧ i.bytes = n := by
  unfold tby at h
  simpa [Option.map_eq_some_iff] using h
theorem tsz_inv {P : Program} {t : TypeId} {n : Nat} (h : tsz P t = some n) : ∃ i, P.info? t = some i ∧ i.size = n := by
  unfold tsz at h
  simpa [Option.map_eq_some_iff] using h

section
variable {P : Program} {mu : Nm → Nat → Option Loc} {pr : Bool → Nat → Prop} {hp : Array Obj} {h : Hp} {w w' : World}

/-! ### Composite literals of slices -/
def buildSliceA (P : Program) (t : TypeId) (len : Nat) (parts : List (Nat × AV)) (h : Hp) (n : Nm) : Option (AV × Hp) :=
  match telem P t with
  | some e => match tsz P e, tzero P e with
    | some s, some z => if parts.map (·.1) = List.range len ∧ z.length = s ∧ 0 < s ∧ len * s ≤ 16777216 ∧ parts.all (fun p => p.2.stored && p.2.cells.length == s) = true
      then some (.sl n 0 0 len, h.put n ⟨0, s, parts.map fun p => p.2.cells⟩) else none
    | _, _ => none
  | none => none

theorem fill_all (s : Nat) : ∀ (vals : List Value) (k : Nat) (cells : Array Value), (∀ v ∈ vals, v.cells.size = s) → (k + vals.length) * s ≤ cells.size →
    Instr.fill (fun i => some (i * s, s)) cells ((vals.zipIdx k).map fun p => (p.2, p.1)) = some (cells.toList.take (k * s) ++ (vals.flatMap fun v => v.cells.toList) ++ cells.toList.drop ((k + vals.length) * s)).toArray
  | [], k, cells, _, _ => by simp [Instr.fill]
  | v :: vals, k, cells, hv, hl => by
    have hv0 := hv v (by simp)
    simp only [List.length_cons] at hl
    have e1 : k * s + s ≤ cells.size := by
      have : (k + 1) * s ≤ (k + (vals.length + 1)) * s := Nat.mul_le_mul_right _ (by omega)
      rw [Nat.add_mul] at this
      omega
    simp only [List.zipIdx_cons, List.map_cons, Instr.fill]
    rw [if_neg (by simp [hv0]; exact e1), fill_step cells v.cells (k * s) (by rw [hv0]; exact e1), fill_all s vals (k + 1) _ (fun u hu => hv u (by simp [hu])) (by
      simp only [List.size_toArray, List.length_append, List.length_take, List.length_drop, Array.length_toList, hv0]
      have : (k + 1 + vals.length) * s = (k + (vals.length + 1)) * s := by congr 1; omega
      omega)]
    congr 2
    have hlen : (cells.toList.take (k * s)).length = k * s := by simp; omega
    have hlen2 : (cells.toList.take (k * s) ++ v.cells.toList).length = (k + 1) * s := by simp [hv0, Nat.add_mul]; omega
    rw [List.flatMap_cons, List.take_left' hlen2, ← List.append_assoc (cells.toList.take (k * s)) v.cells.toList]
    congr 1
    rw [List.drop_append, List.drop_eq_nil_of_le (by rw [hlen2]; exact Nat.mul_le_mul_right _ (by omega)), List.nil_append, hlen2, List.drop_drop, hv0]
    congr 1
    simp only [List.length_cons, Nat.add_mul, Nat.one_mul]
    omega

theorem VRs.flatMap {ρ : Operand → AV} {σ : Operand → Value} (hρ : ∀ x, VR mu pr hp (ρ x) (σ x)) : ∀ (l : List Operand), (∀ x ∈ l, (ρ x).stored = true) →
    VRs mu pr hp (l.map fun x => (ρ x).cells).flatten (l.flatMap fun x => (σ x).cells.toList)
  | [], _ => .nil
  | x :: l, hs => by
    simp only [List.map_cons, List.flatten_cons, List.flatMap_cons]
    exact (cells_ok (hρ x) (hs x (by simp))).1.append (VRs.flatMap hρ l fun y hy => hs y (by simp [hy]))

theorem VR.newSl (n : Nm) (v b esz len : Nat) (arr : Array Value) (ty : TypeId) (hm : mu n v = some ⟨b, 0, esz, len⟩) (hb : hp[b]? = some (.cells arr ty (0, 0))) (cap : Nat) (hc : len ≤ cap) (hs : cap * esz ≤ arr.size) (hx : cap ≤ maxLen) :
    VR mu pr hp (.sl n v 0 len) (.slice (some ⟨b, 0, none⟩) len cap) :=
  .sl n v 0 len cap 0 ⟨b, 0, esz, len⟩ arr ty (0, 0) hm hb hc (by simp) (by simpa using hc) (by simpa using hs) (by simpa using hx) (fun _ => by simp)

theorem buildSliceA_ok (R : Rel mu pr h w) {ρ : Operand → AV} {σ : Operand → Value} (hρ : ∀ x, VR mu pr w.heap (ρ x) (σ x)) {t : TypeId} {len : Nat} {parts : Array (Nat × Operand)} {n : Nm} {r : AV} {h' : Hp}
    (hfree : ∀ v, mu n v = none) (htick : n.1 < h.tick) (he : buildSliceA P t len (parts.toList.map fun p => (p.1, ρ p.2)) h n = some (r, h')) :
    ∃ mu' z w', Gives P mu pr w (Instr.buildSlice t len (parts.map fun (i, x) => (i, σ x))) r h' mu' z w' ∧ ∀ m v, m ≠ n → mu' m v = mu m v := by
  unfold buildSliceA at he
  split at he
  case h_2 => simp at he
  case h_1 e ht =>
    have hd := telem_inv ht
    split at he
    case h_2 => simp at he
    case h_1 s z hs hz =>
      split at he
      case isFalse => simp at he
      case isTrue hc =>
        simp only [Option.some.injEq, Prod.mk.injEq] at he
        obtain ⟨rfl, rfl⟩ := he
        obtain ⟨c1, c2, c3, c4, c5⟩ := hc
        have hall : ∀ p ∈ parts.toList, (ρ p.2).stored = true ∧ (ρ p.2).cells.length = s := by
          intro p hp
          have := List.all_eq_true.1 c5 (p.1, ρ p.2) (List.mem_map.2 ⟨p, hp, rfl⟩)
          simpa using this
        have hplen : parts.toList.length = len := by
          have := congrArg List.length c1
          simpa using this
        have hfst : parts.toList.map (·.1) = List.range len := by
          have := c1
          simpa [List.map_map, Function.comp_def] using this
        have hzip : (parts.toList.map fun p => (p.1, σ p.2)) = ((parts.toList.map fun p => σ p.2).zipIdx 0).map fun p => (p.2, p.1) := by
          apply List.ext_getElem?
          intro i
          by_cases hi : i < parts.toList.length
          · have hf : (parts.toList.map (·.1))[i]? = (List.range len)[i]? := by rw [hfst]
            rw [List.getElem?_map, List.getElem?_range (by omega)] at hf
            simp only [List.getElem?_map, List.getElem?_zipIdx, List.getElem?_eq_getElem hi, Option.map_some, Option.some.injEq] at hf ⊢
            simp only [Nat.zero_add, hf]
          · rw [List.getElem?_eq_none (by simp; simpa using hi), List.getElem?_eq_none (by simp; simpa using hi)]
        obtain ⟨zv, hz1, hz2, _⟩ := tzero_run (mu := mu) (pr := pr) (hp := w.heap) hz w
        have hzsz : zv.cells.size = s := by have := hz2.1; simp at this; omega
        have hvs : ∀ v ∈ parts.toList.map (fun p => σ p.2), v.cells.size = s := by
          intro v hv
          obtain ⟨p, hp, rfl⟩ := List.mem_map.1 hv
          obtain ⟨k1, _, _⟩ := cells_ok (hρ p.2) (hall p hp).1
          have := k1.1
          rw [(hall p hp).2] at this
          simpa using this
        have hflat := VRs.flatMap hρ (parts.toList.map (·.2)) (fun x hx => by obtain ⟨p, hp, rfl⟩ := List.mem_map.1 hx; exact (hall p hp).1)
        let vs : List Value := parts.toList.flatMap fun p => (σ p.2).cells.toList
        have hflat' : VRs mu pr w.heap (parts.toList.map fun p => (ρ p.2).cells).flatten vs := by
          simpa [List.map_map, Function.comp_def, List.flatMap_map, vs] using hflat
        have hcells : CellsR mu pr w.heap vs.toArray 0 s (parts.toList.map fun p => (ρ p.2).cells) := by
          refine .flat _ _ (fun e he => ?_) hflat'
          obtain ⟨p, hp, rfl⟩ := List.mem_map.1 he
          exact ⟨(hall p hp).2, (cells_ok (hρ p.2) (hall p hp).1).2.1⟩
        obtain ⟨h1, h2⟩ := R.new n s _ vs.toArray e hcells hfree htick
        have hvl : vs.length = len * s := by
          rw [hflat'.1]
          have : ∀ (l : List (Nat × Operand)), (∀ p ∈ l, (ρ p.2).cells.length = s) → (l.map fun p => (ρ p.2).cells).flatten.length = l.length * s := by
            intro l
            induction l with
            | nil => simp
            | cons p l ih =>
              intro hl
              simp only [List.map_cons, List.flatten_cons, List.length_append, List.length_cons, hl p (by simp), ih fun q hq => hl q (by simp [hq]), Nat.add_mul]
              omega
          rw [this _ fun p hp => (hall p hp).2, hplen]
        refine ⟨_, .slice (some ⟨w.heap.size, 0, none⟩) len len, _, ⟨?_, ?_, by simpa [List.map_map, Function.comp_def] using h1, by simpa [List.map_map, Function.comp_def] using h2, alloc_fr w _⟩, fun m v hm => by simp [muPut, hm]⟩
        · have hfill : Instr.fill (fun i => some (i * s, s)) ((Array.range (len * s)).map (fun x => zv.cells[x % zv.cells.size]!)) (parts.toList.map fun p => (p.1, σ p.2)) = some vs.toArray := by
            rw [hzip, fill_all s _ 0 _ hvs (by simp [← hplen])]
            have e0 : (List.drop (len * s) ((Array.range (len * s)).map (fun x => zv.cells[x % zv.cells.size]!)).toList) = [] := by simp
            simp only [Nat.zero_mul, List.take_zero, List.nil_append, Nat.zero_add, List.length_map, hplen, e0, List.append_nil, List.flatMap_map, vs]
          have hpos : len = 0 ∨ len * s ≠ 0 := by
            rcases Nat.eq_zero_or_pos len with h | h
            · exact .inl h
            · exact .inr (Nat.ne_of_gt (Nat.mul_pos h c3))
          rcases hpos with h0 | h0
          · subst h0
            have hpn : parts.toList = [] := List.eq_nil_of_length_eq_zero hplen
            have hvn : vs.toArray = #[] := by simp [vs, hpn]
            have hpn' : parts = #[] := by apply Array.ext'; simpa using hpn
            rw [hvn]
            subst hpn'
            have hr0 : Array.range 0 = #[] := by apply Array.ext'; simp
            simp [Instr.buildSlice, run_underlying hd, run_sizeOf' hs, Instr.fill, run_newRow, hr0]
          · have hpm : (parts.map fun (x : Nat × Operand) => match x with | (i, x) => (i, σ x)).toList = parts.toList.map fun p => (p.1, σ p.2) := by simp
            simp only [Instr.buildSlice, Sem.run_bind, run_underlying hd, Result.andThen_ok, run_sizeOf' hs]
            rw [if_neg (by omega), if_neg h0]
            simp only [Sem.run_bind, Sem.run_pure, Result.andThen_ok, hz1, hpm, hfill, run_newRow]
        · refine .newSl n 0 w.heap.size s len vs.toArray e (by simp [muPut]; simpa using hplen) (alloc_heap_new w _) len (Nat.le_refl _) (by simp [hvl]) ?_
          unfold maxLen
          have : len ≤ len * s := Nat.le_mul_of_pos_right _ c3
          omega

/-! ### make -/
def small : Int → Bool := fun c => decide (0 ≤ c) && decide (c ≤ 4294967296)

def makeSliceA (P : Program) (t : TypeId) (l c : AV) (h : Hp) (n : Nm) : Option (AV × Hp) :=
  match telem P t, l, c with
  | some e, .int _ l, .int _ c => match tsz P e, tby P e, tzero P e with
    | some s, some b, some z => if 0 ≤ l ∧ l ≤ c ∧ c ≤ 4294967296 ∧ b ≤ 32768 ∧ 0 < s ∧ z.length = s ∧ ones z = true
      then some (.sl n 0 0 l.toNat, h.put n ⟨0, s, List.replicate c.toNat z⟩) else none
    | _, _, _ => none
  | _, _, _ => none

theorem wrap64_small {n : Int} (h0 : 0 ≤ n) (h1 : n ≤ 4294967296) : IntKind.i64.wrap n = n := by
  simp only [IntKind.wrap, IntKind.bits, IntKind.signed]
  simp
  omega

theorem makeSliceA_ok (R : Rel mu pr h w) {t : TypeId} {l c : AV} {ul uc : Value} {n : Nm} {r : AV} {h' : Hp} (hl : VR mu pr w.heap l ul) (hcv : VR mu pr w.heap c uc)
    (hfree : ∀ v, mu n v = none) (htick : n.1 < h.tick) (he : makeSliceA P t l c h n = some (r, h')) :
    ∃ mu' z w', Gives P mu pr w (Instr.makeSlice t ul uc) r h' mu' z w' ∧ ∀ m v, m ≠ n → mu' m v = mu m v := by
  unfold makeSliceA at he
  split at he
  case h_2 => simp at he
  case h_1 e kl l kc c ht =>
    have hd := telem_inv ht
    split at he
    case h_2 => simp at he
    case h_1 s b z hs hb hz =>
      split at he
      case isFalse => simp at he
      case isTrue hcnd =>
        simp only [Option.some.injEq, Prod.mk.injEq] at he
        obtain ⟨rfl, rfl⟩ := he
        obtain ⟨c1, c2, c3, c4, c5, c6, c7⟩ := hcnd
        cases hl
        cases hcv
        obtain ⟨i, hi, hib⟩ := tby_inv hb
        obtain ⟨zv, hz1, hz2, _⟩ := tzero_run (mu := mu) (pr := pr) (hp := w.heap) hz w
        have hzsz : zv.cells.size = s := by have := hz2.1; simp at this; omega
        let arr : Array Value := (Array.range (c.toNat * s)).map fun x => zv.cells[x % zv.cells.size]!
        have hget : ∀ (i : Nat) (e : List AV) (j : Nat) (x : AV), (List.replicate c.toNat z)[i]? = some e → e[j]? = some x → x.one = true ∧ ∃ u, arr[0 + i * s + j]? = some u ∧ VR mu pr w.heap x u := by
          intro i e j x h1 h2
          rw [List.getElem?_replicate] at h1
          split at h1
          case isFalse => simp at h1
          case isTrue hi' =>
            simp only [Option.some.injEq] at h1
            subst h1
            obtain ⟨u, hu, hr⟩ := hz2.2 j x h2
            have hj : j < s := by have := (List.getElem?_eq_some_iff.1 h2).1; omega
            refine ⟨ones_get c7 h2, u, ?_, hr⟩
            have hlt : i * s + j < c.toNat * s := by
              have : (i + 1) * s ≤ c.toNat * s := Nat.mul_le_mul_right _ hi'
              rw [Nat.add_mul] at this
              omega
            have hm : (i * s + j) % s = j := by rw [Nat.mul_comm, Nat.mul_add_mod, Nat.mod_eq_of_lt hj]
            have hu' : zv.cells[j]? = some u := by simpa using hu
            simp only [arr, Nat.zero_add, Array.getElem?_map, Array.getElem?_range, hlt, if_true, Option.map_some, hzsz, hm]
            rw [getElem!_def, hu']
        have hcells : CellsR mu pr w.heap arr 0 s (List.replicate c.toNat z) := by
          refine ⟨fun i e he => ?_, hget⟩
          rw [List.getElem?_replicate] at he
          split at he
          · simp at he; rw [← he, c6]
          · simp at he
        obtain ⟨h1, h2⟩ := R.new n s _ arr e hcells hfree htick
        have hbig : ¬ ((b : Int) * c > 2 ^ 48) := by
          have h3 : (b : Int) * c ≤ 32768 * 4294967296 := Int.mul_le_mul (by omega) c3 (by omega) (by omega)
          have : (2 : Int) ^ 48 = 281474976710656 := by decide
          omega
        refine ⟨_, .slice (some ⟨w.heap.size, 0, none⟩) l.toNat c.toNat, _, ⟨?_, ?_, h1, h2, alloc_fr w _⟩, fun m v hm => by simp [muPut, hm]⟩
        · have hwl := wrap64_small c1 (by omega : l ≤ 4294967296)
          have hwc := wrap64_small (by omega : 0 ≤ c) c3
          have hnot : ((decide (c < 0) || decide ((b : Int) * c > 2 ^ 48) || decide (l < 0) || decide (l > c)) = true) = False := by
            simp only [Bool.or_eq_true, decide_eq_true_eq, eq_iff_iff, iff_false]
            omega
          have hti : (typeInfo e).run P w = .ok i w := by simp [typeInfo, hi]
          have harr0 : c.toNat * s = 0 → (Array.range (c.toNat * s)).map (fun x => (#[] : Array Value)[x % (#[] : Array Value).size]!) = arr := by
            intro h0
            apply Array.ext'
            simp [arr, h0]
          simp only [Instr.makeSlice, Sem.run_bind, run_underlying hd, Result.andThen_ok, asInt, asIntOf, Sem.run_pure, hti, hwl, hwc, hib]
          simp only [hnot, if_false, Sem.run_bind, run_askRoom, Result.andThen_ok, run_sizeOf' hs]
          split
          · rename_i h0
            simp only [Sem.run_bind, Sem.run_pure, Result.andThen_ok, harr0 h0, run_newRow]
          · simp only [Sem.run_bind, Sem.run_pure, Result.andThen_ok, hz1, run_newRow, arr]
        · refine .sl n 0 0 l.toNat c.toNat 0 ⟨w.heap.size, 0, s, c.toNat⟩ arr e (0, 0) (by simp [muPut]) (alloc_heap_new w _) (by omega) (by simp; omega) (by simp) (by simp [arr]) ?_ (fun _ => by simp)
          unfold maxLen
          omega

end
end Go.Proofs.YtmcmgeedhbgglaaGreatDoor.AM

namespace Go.Proofs.YtmcmgeedhbgglaaGreatDoor.AM
open Go.RowKit

section
variable {P : Program} {mu mu' : Nm → Nat → Option Loc} {pr pr' : Bool → Nat → Prop} {hp hp' : Array Obj} {h : Hp} {w w' : World}

/-! ### Rows, cut and put together -/
theorem CellsR.congr {arr arr' : Array Value} {o s : Nat} {elems : List (List AV)} (h : CellsR mu pr hp arr o s elems) (he : ∀ k, o ≤ k → k < o + elems.length * s → arr'[k]? = arr[k]?) : CellsR mu pr hp arr' o s elems := by
  refine ⟨h.1, fun i e j c h1 h2 => ?_⟩
  obtain ⟨g1, u, g2, g3⟩ := h.2 i e j c h1 h2
  have hj : j < s := by rw [← h.1 i e h1]; exact (List.getElem?_eq_some_iff.1 h2).1
  have := idx_lt (List.getElem?_eq_some_iff.1 h1).1 hj
  exact ⟨g1, u, by rw [he _ (by omega) (by omega)]; exact g2, g3⟩

theorem CellsR.mono {arr : Array Value} {o s : Nat} {elems : List (List AV)} (x : Ext mu pr hp mu' pr' hp') (h : CellsR mu pr hp arr o s elems) : CellsR mu' pr' hp' arr o s elems :=
  ⟨h.1, fun i e j c h1 h2 => let ⟨g1, u, g2, g3⟩ := h.2 i e j c h1 h2; ⟨g1, u, g2, g3.mono x⟩⟩

theorem CellsR.append {arr : Array Value} {o s : Nat} {as1 bs : List (List AV)} (h : CellsR mu pr hp arr o s as1) (k : CellsR mu pr hp arr (o + as1.length * s) s bs) : CellsR mu pr hp arr o s (as1 ++ bs) := by
  have key : ∀ (i : Nat) (e : List AV), (as1 ++ bs)[i]? = some e → as1[i]? = some e ∨ (as1.length ≤ i ∧ bs[i - as1.length]? = some e) := by
    intro i e he
    by_cases hi : i < as1.length
    · rw [List.getElem?_append_left hi] at he; exact .inl he
    · rw [List.getElem?_append_right (by omega)] at he; exact .inr ⟨by omega, he⟩
  refine ⟨fun i e he => ?_, fun i e j c he hj => ?_⟩
  · rcases key i e he with h1 | ⟨_, h1⟩
    · exact h.1 i e h1
    · exact k.1 _ e h1
  · rcases key i e he with h1 | ⟨h0, h1⟩
    · exact h.2 i e j c h1 hj
    · obtain ⟨g1, u, g2, g3⟩ := k.2 _ e j c h1 hj
      refine ⟨g1, u, ?_, g3⟩
      rw [← g2]
      congr 1
      have : as1.length * s + (i - as1.length) * s = i * s := by rw [← Nat.add_mul]; congr 1; omega
      omega

theorem CellsR.ofVs {arr : Array Value} {o s : Nat} {elems : List (List AV)} {vs : List Value} (hall : ∀ e ∈ elems, e.length = s ∧ ones e = true) (hv : VRs mu pr hp elems.flatten vs)
    (he : ∀ (k : Nat) (u : Value), vs[k]? = some u → arr[o + k]? = some u) : CellsR mu pr hp arr o s elems := by
  have hf := CellsR.flat elems vs hall hv
  refine ⟨hf.1, fun i e j c h1 h2 => ?_⟩
  obtain ⟨g1, u, g2, g3⟩ := hf.2 i e j c h1 h2
  have : o + i * s + j = o + (0 + i * s + j) := by omega
  exact ⟨g1, u, by rw [this]; exact he _ _ (by simpa using g2), g3⟩

theorem splice_get {arr : Array Value} {S : Nat} {vs : List Value} (hl : S + vs.length ≤ arr.size) (k : Nat) :
    (arr.toList.take S ++ vs ++ arr.toList.drop (S + vs.length)).toArray[k]? = if k < S then arr[k]? else if k < S + vs.length then vs[k - S]? else arr[k]? := by
  have h1 : (arr.toList.take S).length = S := by simp; omega
  simp only [List.getElem?_toArray, List.append_assoc]
  split
  · rename_i hk
    rw [List.getElem?_append_left (by rw [h1]; exact hk), List.getElem?_take, if_pos hk]
    simp
  · rename_i hk
    rw [List.getElem?_append_right (by rw [h1]; omega), h1]
    split
    · rw [List.getElem?_append_left (by omega)]
    · rw [List.getElem?_append_right (by omega), List.getElem?_drop]
      have : S + vs.length + (k - S - vs.length) = k := by omega
      rw [this]
      simp

theorem size_splice {arr : Array Value} {S : Nat} {vs : List Value} (hl : S + vs.length ≤ arr.size) : (arr.toList.take S ++ vs ++ arr.toList.drop (S + vs.length)).toArray.size = arr.size := by
  simp
  omega

theorem setRow_fr (w : World) (g : Nat) (cs : Array Value) : Fr w (w.setRow g cs) := ⟨rfl, rfl, rfl, by simp⟩

/-- A row is written in its own block (its version the same, or a new one). -/
theorem Rel.write (R : Rel mu pr h w) {n : Nm} {r : Row} (hrow : h.rows n = some r) {l : Loc} (hl : mu n r.ver = some l) {arr arr' : Array Value} {ty : TypeId} (hb : w.heap[l.b]? = some (.cells arr ty (0, 0))) (hs : arr'.size = arr.size)
    (htick : n.1 < h.tick) {v' : Nat} {l' : Loc} (hlb : l'.b = l.b) (he : l'.esz = r.esz) {elems : List (List AV)} (hr : l'.rlen = elems.length) (hc : CellsR mu pr w.heap arr' l'.o r.esz elems)
    (hv : (v' = r.ver ∧ l' = l) ∨ r.ver < v') :
    Rel (muPut mu n v' l') pr (h.put n ⟨v', r.esz, elems⟩) (w.setRow l.b arr') ∧ Ext mu pr w.heap (muPut mu n v' l') pr (w.setRow l.b arr').heap ∧ Fr w (w.setRow l.b arr') := by
  obtain ⟨l2, a2, t2, g1, g2, g3, g4, g5, g6⟩ := R.row n r hrow
  rw [hl] at g1
  cases g1
  have hF := setRow_fr w l.b arr'
  obtain ⟨h1, h2⟩ := R.put (w' := w.setRow l.b arr') n v' r.esz elems l' arr' ty (by rw [hlb]; exact setRow_heap w l.b arr arr' ty (0, 0) hb) he hr hc (by rw [hlb]; exact g2)
    (fun b hbb hlt => setRow_other w l.b b arr' (by rw [← hlb]; exact hbb)) (fun a t fr ha => by rw [hlb, hb] at ha; cases ha; exact ⟨hs, rfl⟩)
    (fun m q k hm hk hkb => R.inj m q n r k l hm hrow hk hl (by rw [hkb, hlb]))
    (by rcases hv with ⟨rfl, rfl⟩ | hv
        · exact .inl hl
        · exact .inr (R.vers n r v' hrow hv))
    (fun u hu => R.vers n r u hrow (by rcases hv with ⟨rfl, _⟩ | hv <;> omega)) htick hF
  exact ⟨h1, h2, hF⟩

/-! ### A store -/
def storeA (P : Program) (t : TypeId) (p x : AV) (h : Hp) : Option Hp :=
  match p, tsz P t with
  | .ptr n v i off, some s => match h.rows n with
    | some r => match r.elems[i]? with
      | some e => if r.ver = v ∧ x.stored = true ∧ x.cells.length = s ∧ 0 < s ∧ off + s ≤ e.length ∧ n.1 < h.tick then some (h.put n ⟨r.ver, r.esz, r.elems.set i (setCs e off x.cells)⟩) else none
      | none => none
    | none => none
  | _, _ => none

theorem storeA_ok (R : Rel mu pr h w) {t : TypeId} {p x : AV} {u v : Value} {h' : Hp} (hu : VR mu pr w.heap p u) (hv : VR mu pr w.heap x v) (he : storeA P t p x h = some h') :
    ∃ mu' w', (Instr.storeAt t u v).run P w = .ok () w' ∧ Rel mu' pr h' w' ∧ Ext mu pr w.heap mu' pr w'.heap ∧ Fr w w' ∧ ∀ n v, mu' n v = mu n v := by
  unfold storeA at he
  split at he
  case h_2 => simp at he
  case h_1 n ver i off s hs =>
    split at he
    case h_2 => simp at he
    case h_1 r hrow =>
      split at he
      case h_2 => simp at he
      case h_1 e hel =>
        split at he
        case isFalse => simp at he
        case isTrue hc =>
          simp only [Option.some.injEq] at he
          subst he
          obtain ⟨rfl, c2, c3, c0, c4, c5⟩ := hc
          cases hu with
          | ptr _ _ _ _ l hl =>
            obtain ⟨l2, arr, ty, g1, g2, g3, g4, g5, g6⟩ := R.row n r hrow
            rw [hl] at g1
            cases g1
            obtain ⟨k1, k2, k3⟩ := cells_ok hv c2
            have hvl : v.cells.toList.length = s := by rw [k1.1, c3]
            have hesz : e.length = l.esz := g6.1 i e hel
            have hbase : ∀ j, j < l.esz → l.o + i * l.esz + j < arr.size := by
              intro j hj
              obtain ⟨_, u, q, _⟩ := g6.2 i e j e[j] hel (by simp [hesz, hj])
              exact (Array.getElem?_eq_some_iff.1 q).1
            have hfit : l.o + i * l.esz + off + v.cells.toList.length ≤ arr.size := by
              have := hbase (off + s - 1) (by omega)
              omega
            let arr' : Array Value := (arr.toList.take (l.o + i * l.esz + off) ++ v.cells.toList ++ arr.toList.drop (l.o + i * l.esz + off + v.cells.toList.length)).toArray
            have hget : ∀ k, arr'[k]? = _ := fun k => splice_get (arr := arr) (S := l.o + i * l.esz + off) (vs := v.cells.toList) hfit k
            have hil : i < r.elems.length := (List.getElem?_eq_some_iff.1 hel).1
            have hsl : (setCs e off x.cells).length = l.esz := by
              simp only [setCs, List.length_append, List.length_take, List.length_drop, c3]
              omega
            have hcells : CellsR mu pr w.heap arr' l.o r.esz (r.elems.set i (setCs e off x.cells)) := by
              rw [← g4]
              refine ⟨fun i' e1 he1 => ?_, fun i' e1 j c he1 hj => ?_⟩
              · by_cases hii : i' = i
                · subst hii
                  rw [List.getElem?_set_self hil] at he1
                  cases he1
                  exact hsl
                · rw [List.getElem?_set_ne (Ne.symm hii)] at he1
                  exact g6.1 i' e1 he1
              · by_cases hii : i' = i
                · subst hii
                  rw [List.getElem?_set_self hil] at he1
                  cases he1
                  have hj' := hj
                  unfold setCs at hj'
                  by_cases hj1 : j < off
                  · rw [List.append_assoc, List.getElem?_append_left (by simp; omega), List.getElem?_take, if_pos hj1] at hj'
                    obtain ⟨q1, u, q2, q3⟩ := g6.2 i' e j c hel hj'
                    exact ⟨q1, u, by rw [hget, if_pos (by omega)]; exact q2, q3⟩
                  · by_cases hj2 : j < off + s
                    · rw [List.append_assoc, List.getElem?_append_right (by simp; omega), List.getElem?_append_left (by simp; omega)] at hj'
                      have e0 : (e.take off).length = off := by simp; omega
                      rw [e0] at hj'
                      obtain ⟨u, q2, q3⟩ := k1.2 _ c hj'
                      refine ⟨ones_get k2 hj', u, ?_, q3⟩
                      rw [hget, if_neg (by omega), if_pos (by omega), ← q2]
                      congr 1
                      omega
                    · rw [List.append_assoc, List.getElem?_append_right (by simp; omega), List.getElem?_append_right (by simp; omega), List.getElem?_drop] at hj'
                      have e0 : (e.take off).length = off := by simp; omega
                      rw [e0, c3] at hj'
                      have e1 : off + s + (j - off - s) = j := by omega
                      rw [e1] at hj'
                      obtain ⟨q1, u, q2, q3⟩ := g6.2 i' e j c hel hj'
                      exact ⟨q1, u, by rw [hget, if_neg (by omega), if_neg (by omega)]; exact q2, q3⟩
                · rw [List.getElem?_set_ne (Ne.symm hii)] at he1
                  obtain ⟨q1, u, q2, q3⟩ := g6.2 i' e1 j c he1 hj
                  have hjl : j < l.esz := by rw [← g6.1 i' e1 he1]; exact (List.getElem?_eq_some_iff.1 hj).1
                  refine ⟨q1, u, ?_, q3⟩
                  rw [hget]
                  rcases Nat.lt_or_gt_of_ne hii with hlt | hgt
                  · have := idx_lt hlt hjl
                    rw [if_pos (by omega)]
                    exact q2
                  · have h5 : (i + 1) * l.esz ≤ i' * l.esz := Nat.mul_le_mul_right _ hgt
                    rw [Nat.add_mul] at h5
                    rw [if_neg (by omega), if_neg (by omega)]
                    exact q2
            obtain ⟨z1, z2, z3⟩ := R.write hrow hl g3 (size_splice hfit) c5 (v' := r.ver) (l' := l) rfl g4 (by simp [g5]) hcells (.inl ⟨rfl, rfl⟩)
            have hmu : muPut mu n r.ver l = mu := by
              funext m q
              unfold muPut
              split
              · rename_i hm
                rw [hm.1, hm.2, hl]
              · rfl
            rw [hmu] at z1 z2
            refine ⟨mu, _, ?_, z1, z2, z3, fun _ _ => rfl⟩
            have hst := run_storeCells_at P l.b (l.o + i * l.esz + off) ty v.cells.toList 0 arr w g3 (by simpa using hfit) (List.all_eq_true.1 k3)
            simp only [Nat.add_zero] at hst
            have hsz : v.cells.size = s := by simpa using hvl
            simp only [Instr.storeAt, Instr.sureAddr, Sem.run_bind, Sem.run_pure, Result.andThen_ok, storeVar, run_sizeOf' hs]
            rw [if_neg (by simp [hsz])]
            exact hst

end
end Go.Proofs.YtmcmgeedhbgglaaGreatDoor.AM

namespace Go.Proofs.YtmcmgeedhbgglaaGreatDoor.AM
open Go.RowKit

section
variable {P : Program} {mu mu' : Nm → Nat → Option Loc} {pr pr' : Bool → Nat → Prop} {hp hp' : Array Obj} {h : Hp} {w w' : World}

def appendA (P : Program) (t : TypeId) (d x : AV) (h : Hp) (n : Nm) : Option (AV × Hp) :=
  match telem P t, srcElems h.rows x with
  | some e, some es => match tsz P e, tby P e, tzero P e with
    | some s, some b, some z => if 0 < s ∧ b ≤ 32768 ∧ z.length = s ∧ es.all (fun e => e.length == s) = true then match d with
        | .nilsl => if es = [] then some (.nilsl, h) else if es.length ≤ 4294967296 then some (.sl n 0 0 es.length, h.put n ⟨0, s, es⟩) else none
        | .sl m v off len => match h.rows m with
          | some r => if r.ver = v ∧ r.esz = s ∧ off + len ≤ r.elems.length ∧ len + es.length ≤ 4294967296 ∧ m.1 < h.tick then
              if es = [] then some (.sl m v off len, h)
              else if off + (len + es.length) ≤ r.elems.length then some (.sl m v off (len + es.length), h.put m ⟨v, s, r.elems.take (off + len) ++ es ++ r.elems.drop (off + (len + es.length))⟩)
              else some (.sl m (v + 1) 0 (len + es.length), h.put m ⟨v + 1, s, (r.elems.drop off).take len ++ es⟩)
            else none
          | none => none
        | _ => none
      else none
    | _, _, _ => none
  | _, _ => none

theorem run_append_zero (t ty e : TypeId) (i : TypeInfo) (ht : P.underlying t = some (.slice e)) (hi : P.info? e = some i) (base a : Option Addr) (sLen sCap c : Nat) (hcap : sLen ≤ sCap) (w : World) :
    (Builtin.append_ #[t, t] ty #[.slice base sLen sCap, .slice a 0 c]).run P w = .ok (.slice base sLen sCap) w := by
  have hf : (Builtin.firstCells i.size 0 (.slice a 0 c)).run P w = .ok #[] w := by
    cases a <;> simp [Builtin.firstCells, loadCells, loadCellsFrom]
  cases base <;> simp [Builtin.append_, run_underlying ht, sizeOf, typeInfo, hi, Builtin.lenOf, hcap, hf, storeCells]

theorem run_append_place (t ty e : TypeId) (i : TypeInfo) (ht : P.underlying t = some (.slice e)) (hi : P.info? e = some i)
    (g o sLen sCap : Nat) (cur : Array Value) (tt : TypeId) (w : World) (hg : w.heap[g]? = some (.cells cur tt (0, 0)))
    (a : Addr) (m c : Nat) (news : List Value) (hl : news.length = m * i.size) (hnews : ∀ j u, news[j]? = some u → w.cell? (a.add j) = some u) (h1 : ∀ u ∈ news, u.oneCell' = true)
    (hroom : sLen + m ≤ sCap) (hfit : o + sLen * i.size + news.length ≤ cur.size) :
    (Builtin.append_ #[t, t] ty #[.slice (some ⟨g, o, none⟩) sLen sCap, .slice (some a) m c]).run P w =
      .ok (.slice (some ⟨g, o, none⟩) (sLen + m) sCap) (w.setRow g (cur.toList.take (o + sLen * i.size) ++ news ++ cur.toList.drop (o + sLen * i.size + news.length)).toArray) := by
  have hf := run_firstCells_some (P := P) w i.size m a m c news hl hnews
  have hst := run_storeCells_at P g (o + sLen * i.size) tt news 0 cur w hg (by simpa using hfit) h1
  simp only [Nat.add_zero] at hst
  simp [Builtin.append_, run_underlying ht, sizeOf, typeInfo, hi, Builtin.lenOf, hroom, hf, Addr.add_lit, hst]

theorem drew_alloc_fr (w : World) (o : Obj) : Fr w (w.drew.alloc o) := ⟨rfl, rfl, rfl, by show w.heap.size ≤ (w.heap.push o).size; simp⟩

theorem flatten_len {s : Nat} : ∀ (es : List (List AV)), (∀ e ∈ es, e.length = s) → es.flatten.length = es.length * s
  | [], _ => by simp
  | e :: es, h => by
    simp only [List.flatten_cons, List.length_append, List.length_cons, h e (by simp), flatten_len es fun q hq => h q (by simp [hq]), Nat.add_mul]
    omega

theorem VRs.oneAll {cs : List AV} {vs : List Value} (h : VRs mu pr hp cs vs) (ho : ones cs = true) : ∀ u ∈ vs, u.oneCell' = true := by
  intro u hu
  obtain ⟨i, hi⟩ := List.mem_iff_getElem?.1 hu
  have hlt : i < cs.length := by rw [← h.1]; exact (List.getElem?_eq_some_iff.1 hi).1
  obtain ⟨u', hu', r⟩ := h.2 i cs[i] (by simp [hlt])
  rw [hi] at hu'
  cases hu'
  exact r.oneCell (ones_get ho (i := i) (by simp [hlt]))

theorem ones_flatten {es : List (List AV)} (h : ∀ e ∈ es, ones e = true) : ones es.flatten = true := by
  simp only [ones, List.all_eq_true, List.mem_flatten] at *
  rintro x ⟨l, hl, hx⟩
  exact h l hl x hx

theorem appendA_ok (R : Rel mu pr h w) {t ty : TypeId} {d x : AV} {u v : Value} {n : Nm} {r : AV} {h' : Hp} (hu : VR mu pr w.heap d u) (hv : VR mu pr w.heap x v)
    (hfree : ∀ v, mu n v = none) (htick : n.1 < h.tick) (he : appendA P t d x h n = some (r, h')) :
    ∃ mu' z w', Gives P mu pr w (Builtin.append_ #[t, t] ty #[u, v]) r h' mu' z w' ∧ ∀ m', m' ≠ n → (∀ v, mu m' v = none) → ∀ v, mu' m' v = none := by
  unfold appendA at he
  split at he
  case h_2 => simp at he
  case h_1 e es ht hsrc =>
    have hd := telem_inv ht
    split at he
    case h_2 => simp at he
    case h_1 s b z hs hb hz =>
      split at he
      case isFalse => simp at he
      case isTrue hc =>
        obtain ⟨c1, c2, c3, c4⟩ := hc
        have hels : ∀ e ∈ es, e.length = s := by simpa using c4
        obtain ⟨i, hi, hisz⟩ := tsz_inv hs
        have hiby : i.bytes = b := by
          obtain ⟨i', hi', hb'⟩ := tby_inv hb
          rw [hi] at hi'
          cases hi'
          exact hb'
        obtain ⟨zv, hz1, hz2, hz3⟩ := tzero_run (mu := mu) (pr := pr) (hp := w.heap) hz w
        have hzero := hz3 i hi
        have hzsz : zv.cells.size = s := by have := hz2.1; simp at this; omega
        obtain ⟨a, ca, rfl, hones, hsome⟩ := srcElems_ok R hv hsrc hels
        have hfits : ∀ need, need ≤ 4294967296 → need * i.bytes ≤ 140737488355328 := by
          intro need hn
          rw [hiby]
          have : need * b ≤ 4294967296 * 32768 := Nat.mul_le_mul hn c2
          omega
        split at he
        case h_3 => simp at he
        case h_1 =>
          split at he
          case isTrue hnil =>
            simp only [Option.some.injEq, Prod.mk.injEq] at he
            obtain ⟨rfl, rfl⟩ := he
            subst hnil
            cases hu
            exact ⟨mu, _, w, ⟨run_append_zero t ty e i hd hi none a 0 0 ca (Nat.le_refl 0) w, .nilsl, R, .refl, .refl w⟩, fun _ _ h => h⟩
          case isFalse hne =>
            split at he
            case isFalse => simp at he
            case isTrue hlen =>
              simp only [Option.some.injEq, Prod.mk.injEq] at he
              obtain ⟨rfl, rfl⟩ := he
              cases hu
              obtain ⟨ad, vs, rfl, q1, q2, q3⟩ := hsome hne
              have hpos : 0 < es.length := List.length_pos_iff.2 hne
              have hr := run_append_nil (P := P) w t ty e i zv hd hi hzero ad es.length ca vs (by rw [q2, hisz]) q3 hpos (by omega) (by have := hfits es.length hlen; omega)
              have hge := grownCap_ge w es.length 0 e
              have hcm := grownCap_le_maxLen w es.length 0 e (by unfold maxLen; omega)
              let arr : Array Value := vs.toArray ++ Builtin.zeroCells zv.cells (grownCap w es.length 0 e - es.length)
              have hvsz : vs.length = es.length * s := q2
              have hcells : CellsR mu pr w.heap arr 0 s es := by
                refine .ofVs (fun e he => ⟨hels e he, hones e he⟩) q1 (fun k u hk => ?_)
                have hlt := (List.getElem?_eq_some_iff.1 hk).1
                simp only [arr, Nat.zero_add]
                rw [Array.getElem?_append_left (by simpa using hlt)]
                simpa using hk
              have hasz : arr.size = grownCap w es.length 0 e * s := by
                simp only [arr, Array.size_append, List.size_toArray, size_zeroCells, hzsz, hvsz, ← Nat.add_mul]
                congr 1
                omega
              have R' : Rel mu pr h w.drew := ⟨R.row, R.inj, R.fresh, R.vers, R.lt, R.tab⟩
              obtain ⟨h1, h2⟩ := R'.new n s es arr e hcells hfree htick
              refine ⟨_, _, _, ⟨hr, ?_, h1, h2, drew_alloc_fr w _⟩, fun m' hm hf v => by simp [muPut, hm, hf]⟩
              exact .newSl n 0 w.heap.size s es.length arr e (by simp [muPut]) (alloc_heap_new w.drew _) _ hge (by rw [hasz]; exact Nat.le_refl _) hcm
        case h_2 m v off len =>
          split at he
          case h_2 => simp at he
          case h_1 row hrow =>
            split at he
            case isFalse => simp at he
            case isTrue hcc =>
              obtain ⟨rfl, d2, d3, d4, d5⟩ := hcc
              cases hu with
              | sl _ _ _ _ cap ao l arr0 ty0 fr0 g1 g2 g3 g4 g5 g6 g7 g8 =>
                obtain ⟨l2, arr, tyr, k1, k2, k3, k4, k5, k6⟩ := R.row m row hrow
                rw [g1] at k1
                cases k1
                rw [k3] at g2
                simp only [Option.some.injEq, Obj.cells.injEq] at g2
                obtain ⟨rfl, rfl, rfl⟩ := g2
                have hesz : l.esz = s := k4.trans d2
                split at he
                case isTrue hnil =>
                  simp only [Option.some.injEq, Prod.mk.injEq] at he
                  obtain ⟨rfl, rfl⟩ := he
                  subst hnil
                  exact ⟨mu, _, w, ⟨run_append_zero t ty e i hd hi _ a len cap ca g3 w, .sl m row.ver off len cap ao l arr tyr (0, 0) g1 k3 g3 g4 g5 g6 g7 g8, R, .refl, .refl w⟩, fun _ _ h => h⟩
                case isFalse hne =>
                  obtain ⟨ad, vs, rfl, q1, q2, q3⟩ := hsome hne
                  have hfr : ∀ (v' : Nat) (l' : Loc) (m' : Nm), m' ≠ n → (∀ v, mu m' v = none) → ∀ v, muPut mu m v' l' m' v = none := by
                    intro v' l' m' _ hf v
                    unfold muPut
                    rw [if_neg (fun e => by have := hf row.ver; rw [e.1, g1] at this; cases this)]
                    exact hf v
                  have hpos : 0 < es.length := List.length_pos_iff.2 hne
                  have hone : ∀ u ∈ vs, u.oneCell' = true := q1.oneAll (ones_flatten hones)
                  have hnewlen : vs.length = es.length * s := q2
                  -- in place
                  have place : len + es.length ≤ cap → ∃ arr', arr'.size = arr.size ∧ (∀ k, arr'[k]? = if k < l.o + (off + len) * s then arr[k]? else if k < l.o + (off + len) * s + vs.length then vs[k - (l.o + (off + len) * s)]? else arr[k]?) ∧
                      ao = l.o + off * s ∧ (Builtin.append_ #[t, t] ty #[.slice (some ⟨l.b, ao, none⟩) len cap, .slice (some ad) es.length ca]).run P w = .ok (.slice (some ⟨l.b, ao, none⟩) (len + es.length) cap) (w.setRow l.b arr') := by
                    intro hroom
                    have hao := g8 (by omega)
                    rw [hesz] at hao
                    have hS : ao + len * s = l.o + (off + len) * s := by rw [hao, Nat.add_mul]; omega
                    have hfit : l.o + (off + len) * s + vs.length ≤ arr.size := by
                      have h1 : (off + len) * s + es.length * s ≤ (off + cap) * s := by rw [← Nat.add_mul]; exact Nat.mul_le_mul_right _ (by omega)
                      rw [hesz] at g6
                      omega
                    have hr := run_append_place (P := P) t ty e i hd hi l.b ao len cap arr tyr w k3 ad es.length ca vs (by rw [q2, hisz]) q3 hone hroom (by rw [hisz, hS]; exact hfit)
                    rw [hisz, hS] at hr
                    exact ⟨_, size_splice hfit, splice_get hfit, hao, hr⟩
                  -- cells behind, where it goes in place
                  have hnews : ∀ (arr' : Array Value) (S : Nat), (∀ k, arr'[k]? = if k < S then arr[k]? else if k < S + vs.length then vs[k - S]? else arr[k]?) → CellsR mu pr w.heap arr' S s es := by
                    intro arr' S hg
                    refine .ofVs (fun e he => ⟨hels e he, hones e he⟩) q1 (fun k u hk => ?_)
                    have hlt := (List.getElem?_eq_some_iff.1 hk).1
                    rw [hg, if_neg (by omega), if_pos (by omega), ← hk]
                    congr 1
                    omega
                  split at he
                  case isTrue hroomA =>
                    simp only [Option.some.injEq, Prod.mk.injEq] at he
                    obtain ⟨rfl, rfl⟩ := he
                    obtain ⟨arr', p1, p2, p3, p4⟩ := place (by omega)
                    have hcells : CellsR mu pr w.heap arr' l.o row.esz (row.elems.take (off + len) ++ es ++ row.elems.drop (off + (len + es.length))) := by
                      rw [d2]
                      rw [hesz] at k6
                      have e1 : (row.elems.take (off + len)).length = off + len := by simp; omega
                      have A := (k6.take (off + len)).congr (arr' := arr') (fun k hk1 hk2 => by
                        rw [e1] at hk2
                        rw [p2, if_pos hk2])
                      have B := A.append (bs := es) (by rw [e1]; exact hnews arr' _ p2)
                      refine B.append ?_
                      have e2 : (row.elems.take (off + len) ++ es).length = off + (len + es.length) := by simp; omega
                      rw [e2]
                      refine (k6.drop _).congr (fun k hk1 hk2 => ?_)
                      have : (off + (len + es.length)) * s = (off + len) * s + es.length * s := by rw [← Nat.add_mul]; congr 1; omega
                      rw [p2, if_neg (by omega), if_neg (by omega)]
                    obtain ⟨z1, z2, z3⟩ := R.write hrow g1 k3 p1 d5 (v' := row.ver) (l' := l) rfl k4 (by simp; omega) hcells (.inl ⟨rfl, rfl⟩)
                    have hmu : muPut mu m row.ver l = mu := by
                      funext q x
                      unfold muPut
                      split
                      · rename_i hm
                        rw [hm.1, hm.2, g1]
                      · rfl
                    rw [hmu, d2] at z1
                    rw [hmu] at z2
                    refine ⟨mu, _, _, ⟨p4, ?_, z1, z2, z3⟩, fun _ _ h => h⟩
                    exact .sl m row.ver off _ cap ao l arr' tyr (0, 0) g1 (setRow_heap w l.b arr arr' tyr (0, 0) k3) (by omega) (by omega) g5 (by rw [p1]; exact g6) g7 g8
                  case isFalse hroomA =>
                    simp only [Option.some.injEq, Prod.mk.injEq] at he
                    obtain ⟨rfl, rfl⟩ := he
                    have hkeep : (row.elems.drop off).take len ++ es = (row.elems.drop off).take len ++ es := rfl
                    have e1 : ((row.elems.drop off).take len).length = len := by simp; omega
                    by_cases hroom : len + es.length ≤ cap
                    · obtain ⟨arr', p1, p2, p3, p4⟩ := place hroom
                      have hcells : CellsR mu pr w.heap arr' (l.o + off * s) row.esz ((row.elems.drop off).take len ++ es) := by
                        rw [d2]
                        rw [hesz] at k6
                        have A := ((k6.drop off).take len).congr (arr' := arr') (fun k hk1 hk2 => by
                          rw [e1] at hk2
                          rw [p2, if_pos (by rw [Nat.add_mul]; omega)])
                        refine A.append ?_
                        rw [e1, Nat.add_assoc, ← Nat.add_mul]
                        exact hnews arr' _ p2
                      obtain ⟨z1, z2, z3⟩ := R.write hrow g1 k3 p1 d5 (v' := row.ver + 1) (l' := ⟨l.b, l.o + off * s, s, len + es.length⟩) rfl (by simp [d2]) (by simp; omega) hcells (.inr (by omega))
                      rw [d2] at z1
                      refine ⟨_, _, _, ⟨p4, ?_, z1, z2, z3⟩, hfr _ _⟩
                      refine .sl m (row.ver + 1) 0 _ cap ao ⟨l.b, l.o + off * s, s, len + es.length⟩ arr' tyr (0, 0) (by simp [muPut]) (setRow_heap w l.b arr arr' tyr (0, 0) k3) hroom (by simp) (by simpa using hroom) ?_ (by omega) (fun _ => by simp [p3])
                      rw [p1]
                      rw [hesz, Nat.add_mul] at g6
                      simp only [Nat.zero_add]
                      omega
                    · -- a new array
                      obtain ⟨ovs, o1, o2, o3⟩ := CellsR.values _ _ ((k6.drop off).take len)
                      have o2' : ovs.length = len * s := by rw [o2, e1, hesz]
                      have hao : 0 < len → ao = l.o + off * l.esz := fun hl0 => g8 (by omega)
                      have hold : ∀ (j : Nat) (v : Value), ovs[j]? = some v → w.cell? (Addr.add ⟨l.b, ao, none⟩ j) = some v := by
                        intro j v hj
                        have hlt := (List.getElem?_eq_some_iff.1 hj).1
                        have hl0 : 0 < len := by
                          rcases Nat.eq_zero_or_pos len with h0 | h0
                          · rw [o2', h0] at hlt; simp at hlt
                          · exact h0
                        rw [Addr.add_lit, cell_of_row w l.b _ arr tyr (0, 0) k3, hao hl0]
                        exact o3 j v hj
                      have hr := run_append_grow (P := P) w t ty e i zv hd hi hzero ⟨l.b, ao, none⟩ len cap ovs (by rw [o2', hisz]) hold ad es.length ca vs (by rw [q2, hisz]) q3 (by omega) (by omega) (growslice_fits (by omega) (hfits _ d4))
                      have hge := grownCap_ge w (len + es.length) cap e
                      have hcm := grownCap_le_maxLen w (len + es.length) cap e (by unfold maxLen; omega)
                      let arr' : Array Value := ovs.toArray ++ vs.toArray ++ Builtin.zeroCells zv.cells (grownCap w (len + es.length) cap e - (len + es.length))
                      have hall : ∀ e ∈ (row.elems.drop off).take len ++ es, e.length = s ∧ ones e = true := by
                        intro q hq
                        rcases List.mem_append.1 hq with hq | hq
                        · obtain ⟨j, hj⟩ := List.mem_iff_getElem?.1 hq
                          have := ((k6.drop off).take len)
                          exact ⟨by rw [← hesz]; exact this.1 j q hj, ones_of fun a c ha => (this.2 j q a c hj ha).1⟩
                        · exact ⟨hels q hq, hones q hq⟩
                      have hcells : CellsR mu pr w.heap arr' 0 s ((row.elems.drop off).take len ++ es) := by
                        refine .ofVs hall (by rw [List.flatten_append]; exact o1.append q1) (fun k u hk => ?_)
                        have hlt := (List.getElem?_eq_some_iff.1 hk).1
                        simp only [arr', Nat.zero_add]
                        rw [Array.getElem?_append_left (by simpa using hlt)]
                        simpa using hk
                      have hasz : arr'.size = grownCap w (len + es.length) cap e * s := by
                        simp only [arr', Array.size_append, List.size_toArray, size_zeroCells, hzsz, hnewlen, o2', ← Nat.add_mul]
                        congr 1
                        omega
                      obtain ⟨h1, h2⟩ := R.put (w' := w.drew.alloc (.cells arr' e)) m (row.ver + 1) s ((row.elems.drop off).take len ++ es) ⟨w.heap.size, 0, s, len + es.length⟩ arr' e (alloc_heap_new w.drew _) rfl (by simp; omega) hcells
                        (fun c hp => Nat.lt_irrefl _ (R.lt c _ hp)) (fun b hb hlt => Below.heap_alloc w.drew _ b hlt) (fun a t fr ha => by simp at ha) (fun q x k hm hk hkb => by
                          exfalso
                          obtain ⟨k', a, t, f1, f2, f3, _⟩ := R.row q x hm
                          rw [hk] at f1
                          cases f1
                          rw [hkb] at f3
                          simp at f3) (.inr (R.vers m row _ hrow (by omega))) (fun u hu => R.vers m row u hrow (by omega)) d5 (drew_alloc_fr w _)
                      refine ⟨_, _, _, ⟨hr, ?_, h1, h2, drew_alloc_fr w _⟩, hfr _ _⟩
                      exact .newSl m (row.ver + 1) w.heap.size s (len + es.length) arr' e (by simp [muPut]) (alloc_heap_new w.drew _) _ hge (by rw [hasz]; exact Nat.le_refl _) hcm

/-! ### copy, clear -/
/-- Elements of a slice are replaced, from its first on. -/
def overA (rows : Nm → Option Row) (tick : Nat) (s : Nat) (d : AV) (es : List (List AV)) : Option (Nm × Row) :=
  match d with
  | .sl m v off len => match rows m with
    | some r => if r.ver = v ∧ r.esz = s ∧ off + len ≤ r.elems.length ∧ es.length ≤ len ∧ m.1 < tick then some (m, ⟨v, s, r.elems.take off ++ es ++ r.elems.drop (off + es.length)⟩) else none
    | none => none
  | _ => none

theorem overA_ok (R : Rel mu pr h w) {d : AV} {u : Value} {s : Nat} {es : List (List AV)} {m : Nm} {q : Row} (hu : VR mu pr w.heap d u) (he : overA h.rows h.tick s d es = some (m, q)) (hs : ∀ e ∈ es, e.length = s) (hones : ∀ e ∈ es, ones e = true) (hne : es ≠ []) (h0 : 0 < s)
    {vs : List Value} (hv : VRs mu pr w.heap es.flatten vs) :
    ∃ mu' w' a n c, u = .slice (some a) n c ∧ es.length ≤ n ∧ (storeCells a vs).run P w = .ok () w' ∧ Rel mu' pr (h.put m q) w' ∧ Ext mu pr w.heap mu' pr w'.heap ∧ Fr w w' ∧ ∀ n v, mu' n v = mu n v := by
  unfold overA at he
  split at he
  case h_2 => simp at he
  case h_1 m' v off len =>
    split at he
    case h_2 => simp at he
    case h_1 row hrow =>
      split at he
      case isFalse => simp at he
      case isTrue hc =>
        obtain ⟨rfl, d2, d3, d4, d5⟩ := hc
        simp only [Option.some.injEq, Prod.mk.injEq] at he
        obtain ⟨rfl, rfl⟩ := he
        cases hu with
        | sl _ _ _ _ cap ao l arr0 ty0 fr0 g1 g2 g3 g4 g5 g6 g7 g8 =>
          obtain ⟨l2, arr, tyr, k1, k2, k3, k4, k5, k6⟩ := R.row m' row hrow
          rw [g1] at k1
          cases k1
          rw [k3] at g2
          simp only [Option.some.injEq, Obj.cells.injEq] at g2
          obtain ⟨rfl, rfl, rfl⟩ := g2
          have hesz : l.esz = s := k4.trans d2
          have hpos : 0 < es.length := List.length_pos_iff.2 hne
          have hao := g8 (by omega)
          have hvl : vs.length = es.length * s := by rw [hv.1, flatten_len es hs]
          have hfit : ao + vs.length ≤ arr.size := by
            rw [hao, hvl, ← hesz]
            have : off * l.esz + es.length * l.esz ≤ (off + cap) * l.esz := by rw [← Nat.add_mul]; exact Nat.mul_le_mul_right _ (by omega)
            omega
          let arr' : Array Value := (arr.toList.take ao ++ vs ++ arr.toList.drop (ao + vs.length)).toArray
          have p2 : ∀ k, arr'[k]? = _ := fun k => splice_get hfit k
          have hcells : CellsR mu pr w.heap arr' l.o row.esz (row.elems.take off ++ es ++ row.elems.drop (off + es.length)) := by
            rw [d2]
            rw [hesz] at k6 hao
            have e1 : (row.elems.take off).length = off := by simp; omega
            have A := (k6.take off).congr (arr' := arr') (fun k hk1 hk2 => by
              rw [e1] at hk2
              rw [p2, if_pos (by omega)])
            have B := A.append (bs := es) (by
              rw [e1, ← hao]
              refine .ofVs (fun e he => ⟨hs e he, hones e he⟩) hv (fun k u hk => ?_)
              have hlt := (List.getElem?_eq_some_iff.1 hk).1
              rw [p2, if_neg (by omega), if_pos (by omega), ← hk]
              congr 1
              omega)
            refine B.append ?_
            have e2 : (row.elems.take off ++ es).length = off + es.length := by simp; omega
            rw [e2]
            refine (k6.drop _).congr (fun k hk1 hk2 => ?_)
            rw [Nat.add_mul] at hk1
            rw [p2, if_neg (by omega), if_neg (by omega)]
          obtain ⟨z1, z2, z3⟩ := R.write hrow g1 k3 (size_splice hfit) d5 (v' := row.ver) (l' := l) rfl k4 (by simp; omega) hcells (.inl ⟨rfl, rfl⟩)
          have hmu : muPut mu m' row.ver l = mu := by
            funext q x
            unfold muPut
            split
            · rename_i hm
              rw [hm.1, hm.2, g1]
            · rfl
          rw [hmu, d2] at z1
          rw [hmu] at z2
          have hst := run_storeCells_at P l.b ao tyr vs 0 arr w k3 (by simpa using hfit) (hv.oneAll (ones_flatten hones))
          simp only [Nat.add_zero] at hst
          exact ⟨mu, _, _, _, _, rfl, by omega, hst, z1, z2, z3, fun _ _ => rfl⟩

def lenOfA : AV → Option Nat
  | .nilsl => some 0
  | .tr _ es => some es.length
  | .sl _ _ _ n => some n
  | _ => none

theorem lenOfA_ok {a : AV} {u : Value} {n : Nat} (hu : VR mu pr hp a u) (h : lenOfA a = some n) : ∃ ad c, u = .slice ad n c := by
  cases a <;> simp [lenOfA] at h <;> subst h <;> cases hu <;> exact ⟨_, _, rfl⟩

def copyA (P : Program) (t : TypeId) (d x : AV) (h : Hp) : Option (AV × Hp) :=
  match telem P t, lenOfA d, srcElems h.rows x with
  | some e, some n, some es => match tsz P e with
    | some s => if es.all (fun e => e.length == s) = true ∧ 0 < s then
        if es.take n = [] then some (.int .i64 0, h) else match overA h.rows h.tick s d (es.take n) with
          | some (m, q) => some (.int .i64 (es.take n).length, h.put m q)
          | none => none
      else none
    | none => none
  | _, _, _ => none

theorem copyA_ok (R : Rel mu pr h w) {t t' ty : TypeId} {d x : AV} {u v : Value} {r : AV} {h' : Hp} (hu : VR mu pr w.heap d u) (hv : VR mu pr w.heap x v) (he : copyA P t d x h = some (r, h')) :
    ∃ mu' z w', Gives P mu pr w (Builtin.copy_ #[t, t'] ty #[u, v]) r h' mu' z w' ∧ ∀ n v, mu' n v = mu n v := by
  unfold copyA at he
  split at he
  case h_2 => simp at he
  case h_1 e n es ht hn hsrc =>
    have hd := telem_inv ht
    split at he
    case h_2 => simp at he
    case h_1 s hs =>
      split at he
      case isFalse => simp at he
      case isTrue hc =>
        have hels : ∀ e ∈ es, e.length = s := by simpa using hc.1
        obtain ⟨a, ca, rfl, hones, hsome⟩ := srcElems_ok R hv hsrc hels
        obtain ⟨ad, cd, rfl⟩ := lenOfA_ok hu hn
        have hmin : Nat.min es.length n = (es.take n).length := by simp [Nat.min_comm]
        split at he
        case isTrue hnil =>
          simp only [Option.some.injEq, Prod.mk.injEq] at he
          obtain ⟨rfl, rfl⟩ := he
          have h0 : Nat.min es.length n = 0 := by rw [hmin, hnil]; rfl
          have hf : (Builtin.firstCells s 0 (.slice a es.length ca)).run P w = .ok #[] w := by
            cases a <;> simp [Builtin.firstCells, loadCells, loadCellsFrom]
          refine ⟨mu, .int .i64 0, w, ⟨?_, .int _ _, R, .refl, .refl w⟩, fun _ _ => rfl⟩
          cases ad <;> simp [Builtin.copy_, run_underlying hd, Builtin.lenOf, h0, run_sizeOf' hs, hf, storeCells, goInt]
        case isFalse hne =>
          split at he
          case h_2 => simp at he
          case h_1 m q hov =>
            simp only [Option.some.injEq, Prod.mk.injEq] at he
            obtain ⟨rfl, rfl⟩ := he
            have hesne : es ≠ [] := fun h => hne (by rw [h]; simp)
            obtain ⟨ax, vs, rfl, q1, q2, q3⟩ := hsome hesne
            have htake : ∀ (l : List (List AV)) (n : Nat), (∀ e ∈ l, e.length = s) → (l.take n).flatten = l.flatten.take (n * s) := by
              intro l
              induction l with
              | nil => intro n _; simp
              | cons e l ih =>
                intro n hl
                cases n with
                | zero => simp
                | succ n =>
                  have h1 := hl e (by simp)
                  simp only [List.take_succ_cons, List.flatten_cons, ih n fun q hq => hl q (by simp [hq])]
                  have h2 : e.take ((n + 1) * s) = e := List.take_of_length_le (by rw [h1, Nat.add_mul]; omega)
                  have h3 : (n + 1) * s - s = n * s := by rw [Nat.add_mul]; omega
                  rw [List.take_append, h2, h1, h3]
            have hvt : VRs mu pr w.heap (es.take n).flatten (vs.take (n * s)) := by rw [htake es n hels]; exact q1.take _
            obtain ⟨mu', w', a', n', c', hue, hle, hst, z1, z2, z3, z4⟩ := overA_ok (P := P) R hu hov (fun e he => hels e (List.mem_of_mem_take he)) (fun e he => hones e (List.mem_of_mem_take he)) hne hc.2 hvt
            cases hue
            have hfl : (vs.take (n * s)).length = Nat.min es.length n * s := by
              rw [hvt.1, flatten_len _ fun e he => hels e (List.mem_of_mem_take he), hmin]
            have hf := run_firstCells_some (P := P) w s (Nat.min es.length n) ax es.length ca (vs.take (n * s)) hfl (fun j v hj => q3 j v (by
              rw [List.getElem?_take] at hj
              split at hj
              · exact hj
              · simp at hj))
            refine ⟨mu', .int .i64 (es.take n).length, w', ⟨?_, .int _ _, z1, z2, z3⟩, z4⟩
            simp only [Builtin.copy_]
            simp only [Array.getElem?_eq_getElem, List.getElem?_toArray, List.getElem?_cons_zero, List.getElem?_cons_succ, Sem.run_bind, run_underlying hd, Result.andThen_ok, Builtin.lenOf, Sem.run_pure, run_sizeOf' hs]
            rw [hf]
            simp only [Result.andThen_ok, hst, hmin, goInt]

theorem flatten_get {α : Type} {s : Nat} : ∀ (l : List (List α)) (i : Nat) (e : List α) (j : Nat) (c : α), (∀ e ∈ l, e.length = s) → l[i]? = some e → e[j]? = some c → l.flatten[i * s + j]? = some c
  | [], i, e, j, c, _, h, _ => by simp at h
  | x :: l, i, e, j, c, hl, hi, hj => by
    have hx := hl x (by simp)
    cases i with
    | zero =>
      simp at hi
      subst hi
      have : j < x.length := (List.getElem?_eq_some_iff.1 hj).1
      simp only [List.flatten_cons, Nat.zero_mul, Nat.zero_add]
      rw [List.getElem?_append_left this]
      exact hj
    | succ i =>
      simp only [List.getElem?_cons_succ] at hi
      simp only [List.flatten_cons]
      rw [List.getElem?_append_right (by rw [hx, Nat.add_mul]; omega), hx, show (i + 1) * s + j - s = i * s + j by rw [Nat.add_mul]; omega]
      exact flatten_get l i e j c (fun e he => hl e (by simp [he])) hi hj

theorem zeroCells_flat (z : Array Value) (n : Nat) (h0 : 0 < z.size) : (Builtin.zeroCells z n).toList = (List.replicate n z.toList).flatten := by
  have hl : (List.replicate n z.toList).flatten.length = n * z.size := by simp
  apply List.ext_getElem?
  intro k
  by_cases hk : k < n * z.size
  · have hm : k % z.size < z.size := Nat.mod_lt _ h0
    have hd : k / z.size < n := by rw [Nat.div_lt_iff_lt_mul h0]; exact hk
    have hz : z[k % z.size]? = some z[k % z.size] := by simp [hm]
    have h1 := flatten_get (s := z.size) (List.replicate n z.toList) (k / z.size) z.toList (k % z.size) z[k % z.size] (fun e he => by rw [(List.mem_replicate.1 he).2]; simp) (by simp [hd]) (by simp [hm])
    rw [show k / z.size * z.size + k % z.size = k by rw [Nat.mul_comm]; exact Nat.div_add_mod k z.size] at h1
    rw [h1]
    simp only [Builtin.zeroCells, Array.toList_map, Array.toList_range, List.getElem?_map, List.getElem?_range hk, Option.map_some]
    rw [getElem!_def, hz]
  · rw [List.getElem?_eq_none (by simp [Builtin.zeroCells]; omega), List.getElem?_eq_none (by rw [hl]; omega)]

def clearA (P : Program) (t : TypeId) (d : AV) (h : Hp) : Option Hp :=
  match telem P t, lenOfA d with
  | some e, some n => if n = 0 then some h else match tsz P e, tzero P e with
    | some s, some z => if z.length = s ∧ 0 < s ∧ ones z = true then match overA h.rows h.tick s d (List.replicate n z) with
        | some (m, q) => some (h.put m q)
        | none => none
      else none
    | _, _ => none
  | _, _ => none

theorem clearA_ok (R : Rel mu pr h w) {t ty : TypeId} {d : AV} {u : Value} {h' : Hp} (hu : VR mu pr w.heap d u) (he : clearA P t d h = some h') :
    ∃ mu' w', (Builtin.clear_ #[t] ty #[u]).run P w = .ok (.tuple #[]) w' ∧ Rel mu' pr h' w' ∧ Ext mu pr w.heap mu' pr w'.heap ∧ Fr w w' ∧ ∀ n v, mu' n v = mu n v := by
  unfold clearA at he
  split at he
  case h_2 => simp at he
  case h_1 e n ht hn =>
    have hd := telem_inv ht
    obtain ⟨ad, cd, rfl⟩ := lenOfA_ok hu hn
    split at he
    case isTrue h0 =>
      simp only [Option.some.injEq] at he
      subst he
      subst h0
      refine ⟨mu, w, ?_, R, .refl, .refl w, fun _ _ => rfl⟩
      cases ad <;> simp [Builtin.clear_, run_underlying hd]
    case isFalse h0 =>
      split at he
      case h_2 => simp at he
      case h_1 s z hs hz =>
        split at he
        case isFalse => simp at he
        case isTrue hc =>
          split at he
          case h_2 => simp at he
          case h_1 m q hov =>
            simp only [Option.some.injEq] at he
            subst he
            obtain ⟨zv, hz1, hz2, _⟩ := tzero_run (mu := mu) (pr := pr) (hp := w.heap) hz w
            have hzsz : zv.cells.size = s := by have := hz2.1; simp at this; omega
            have hrep : ∀ n, VRs mu pr w.heap (List.replicate n z).flatten (List.replicate n zv.cells.toList).flatten := by
              intro n
              induction n with
              | zero => exact .nil
              | succ n ih => simp only [List.replicate_succ, List.flatten_cons]; exact hz2.append ih
            obtain ⟨mu', w', a', n', c', hue, hle, hst, z1, z2, z3, z4⟩ := overA_ok (P := P) R hu hov (fun e he => by rw [(List.mem_replicate.1 he).2, hc.1]) (fun e he => by rw [(List.mem_replicate.1 he).2]; exact hc.2.2)
              (fun h => h0 (by simpa using h)) hc.2.1 (hrep n)
            cases hue
            refine ⟨mu', w', ?_, z1, z2, z3, z4⟩
            have hzc : (Builtin.zeroCells zv.cells n).toList = (List.replicate n zv.cells.toList).flatten := zeroCells_flat zv.cells n (by omega)
            cases n with
            | zero => exact absurd rfl h0
            | succ k =>
              simp [Builtin.clear_, run_underlying hd, hz1, hzc, hst]

end
end Go.Proofs.YtmcmgeedhbgglaaGreatDoor.AM

namespace Go.Proofs.YtmcmgeedhbgglaaGreatDoor.AM
open Go.RowKit

/-- 'a' read as a tree 't'; c: whether what is lent may be read. -/
inductive DR (c : Bool) (rows : Nm → Option Row) : AV → AV → Prop
  | int (k : IntKind) (n : Int) : DR c rows (.int k n) (.int k n)
  | bool (b : Bool) : DR c rows (.bool b) (.bool b)
  | str (s : ByteArray) : DR c rows (.str s) (.str s)
  | nilp : DR c rows .nilp .nilp
  | nilif : DR c rows .nilif .nilif
  | errv : DR c rows .errv .errv
  | nilsl : DR c rows .nilsl (.tr c [])
  | tr0 (b : Bool) : DR c rows (.tr b []) (.tr c [])
  | tr (b : Bool) (es ts : List (List AV)) : (b = true → c = true) → ts.length = es.length → (∀ (i : Nat) (e t : List AV), es[i]? = some e → ts[i]? = some t → t.length = e.length) →
      (∀ (i : Nat) (e t : List AV) (j : Nat) (x y : AV), es[i]? = some e → ts[i]? = some t → e[j]? = some x → t[j]? = some y → DR c rows x y) → DR c rows (.tr b es) (.tr c ts)
  | sl (n : Nm) (v off len : Nat) (r : Row) (ts : List (List AV)) : rows n = some r → r.ver = v → off + len ≤ r.elems.length → ts.length = len →
      (∀ (i : Nat) (e t : List AV), r.elems[off + i]? = some e → ts[i]? = some t → t.length = e.length) →
      (∀ (i : Nat) (e t : List AV) (j : Nat) (x y : AV), r.elems[off + i]? = some e → ts[i]? = some t → e[j]? = some x → t[j]? = some y → DR c rows x y) → DR c rows (.sl n v off len) (.tr c ts)
  | ptr (n : Nm) (v i off : Nat) (r : Row) (e ts : List AV) : rows n = some r → r.ver = v → r.elems[i]? = some e → ts.length = e.length - off →
      (∀ (j : Nat) (x y : AV), e[off + j]? = some x → ts[j]? = some y → DR c rows x y) → DR c rows (.ptr n v i off) (.tptr c ts)
  | tptr (b : Bool) (cs ts : List AV) : (b = true → c = true) → ts.length = cs.length → (∀ (j : Nat) (x y : AV), cs[j]? = some x → ts[j]? = some y → DR c rows x y) → DR c rows (.tptr b cs) (.tptr c ts)
  | agg (cs ts : List AV) : ts.length = cs.length → (∀ (j : Nat) (x y : AV), cs[j]? = some x → ts[j]? = some y → DR c rows x y) → DR c rows (.agg cs) (.agg ts)
  | tup (cs ts : List AV) : ts.length = cs.length → (∀ (j : Nat) (x y : AV), cs[j]? = some x → ts[j]? = some y → DR c rows x y) → DR c rows (.tup cs) (.tup ts)
  | fn (f : FuncId) (cs ts : List AV) : ts.length = cs.length → (∀ (j : Nat) (x y : AV), cs[j]? = some x → ts[j]? = some y → DR c rows x y) → DR c rows (.fn f cs) (.fn f ts)

theorem DR.one {c : Bool} {rows : Nm → Option Row} {a t : AV} (h : DR c rows a t) (ho : a.one = true) : t.one = true := by
  cases h <;> first | rfl | simp [AV.one] at ho

/-- In a greater heap the same. -/
theorem DR.mono {c : Bool} {rows rows' : Nm → Option Row} (hr : ∀ n r, rows n = some r → rows' n = some r) {a t : AV} (h : DR c rows a t) : DR c rows' a t := by
  induction h with
  | int k n => exact .int k n
  | bool b => exact .bool b
  | str s => exact .str s
  | nilp => exact .nilp
  | nilif => exact .nilif
  | errv => exact .errv
  | nilsl => exact .nilsl
  | tr0 b => exact .tr0 b
  | tr b es ts h1 h2 h3 _ ih => exact .tr b es ts h1 h2 h3 ih
  | sl n v off len r ts h1 h2 h3 h4 h5 _ ih => exact .sl n v off len r ts (hr _ _ h1) h2 h3 h4 h5 ih
  | ptr n v i off r e ts h1 h2 h3 h4 _ ih => exact .ptr n v i off r e ts (hr _ _ h1) h2 h3 h4 ih
  | tptr b cs ts h1 h2 _ ih => exact .tptr b cs ts h1 h2 ih
  | agg cs ts h1 _ ih => exact .agg cs ts h1 ih
  | tup cs ts h1 _ ih => exact .tup cs ts h1 ih
  | fn f cs ts h1 _ ih => exact .fn f cs ts h1 ih

section
variable {P : Program} {mu mu' : Nm → Nat → Option Loc} {pr pr' : Bool → Nat → Prop} {hp hp' : Array Obj} {h h' : Hp} {w w' : World}

theorem lt_get {α : Type} {l : List α} {i : Nat} {x : α} (h : l[i]? = some x) : i < l.length := (List.getElem?_eq_some_iff.1 h).1
theorem get_of_len {α β : Type} {l : List α} {m : List β} (hl : m.length = l.length) {i : Nat} {x : β} (h : m[i]? = some x) : ∃ y, l[i]? = some y :=
  ⟨l[i]'(by rw [← hl]; exact lt_get h), by simp⟩

/-- The tree stands for the same value, where the blocks that are read count as kept there. -/
theorem DR.ok {c : Bool} (R : Rel mu pr h w) (hpr : ∀ b k, pr b k → (b = true → c = true) → pr' c k) (hrow : ∀ n r l, h.rows n = some r → mu n r.ver = some l → pr' c l.b)
    {a t : AV} (hd : DR c h.rows a t) : ∀ {u : Value}, VR mu pr w.heap a u → VR mu' pr' w.heap t u := by
  induction hd with
  | int k n => intro u hu; cases hu; exact .int k n
  | bool b => intro u hu; cases hu; exact .bool b
  | str s => intro u hu; cases hu; exact .str s
  | nilp => intro u hu; cases hu; exact .nilp
  | nilif => intro u hu; cases hu; exact .nilif
  | errv => intro u hu; cases hu; exact .errv _ _
  | nilsl => intro u hu; cases hu; exact .tr0 _ _ _
  | tr0 b =>
    intro u hu
    cases hu with
    | tr0 => exact .tr0 _ _ _
    | tr => exact .tr0 _ _ _
  | tr b es ts h1 h2 h3 h4 ih =>
    intro u hu
    cases hu with
    | tr0 g a cap =>
      have : ts = [] := List.eq_nil_of_length_eq_zero (by simpa using h2)
      subst this
      exact .tr0 _ _ _
    | tr g bk o cap esz arr ty fr _ us g1 g2 g3 g4 g5 g6 g7 =>
      rw [← h2]
      refine .tr c bk o cap esz arr ty fr ts us (hpr _ _ g1 h1) g2 (by omega) (fun i t hi => ?_) (fun i t j y hi hj => ?_) (fun i t j y hi hj => ?_) (fun i t j y hi hj => ?_) <;>
        obtain ⟨e, he⟩ := get_of_len h2 hi
      · rw [h3 i e t he hi]; exact g4 i e he
      all_goals obtain ⟨x, hx⟩ := get_of_len (h3 i e t he hi) hj
      · exact g5 i e j x he hx
      · exact (h4 i e t j x y he hi hx hj).one (g6 i e j x he hx)
      · exact ih i e t j x y he hi hx hj (g7 i e j x he hx)
  | sl n v off len r ts h1 h2 h3 h4 h5 h6 ih =>
    intro u hu
    cases hu with
    | sl _ _ _ _ cap ao l arr0 ty0 fr0 g1 g2 g3 g4 g5 g6 g7 g8 =>
      obtain ⟨l2, arr, ty, k1, k2, k3, k4, k5, k6⟩ := R.row n r h1
      rw [h2, g1] at k1
      cases k1
      rcases Nat.eq_zero_or_pos len with h0 | h0
      · subst h0
        have : ts = [] := List.eq_nil_of_length_eq_zero h4
        subst this
        exact .tr0 _ _ _
      · rw [g8 (by omega)]
        have hget : ∀ (i : Nat) (t : List AV), ts[i]? = some t → ∃ e, r.elems[off + i]? = some e := fun i t hi => ⟨r.elems[off + i]'(by have := lt_get hi; omega), by simp⟩
        have key : ∀ (i : Nat) (e : List AV) (j : Nat) (x : AV), r.elems[off + i]? = some e → e[j]? = some x → x.one = true ∧ ∃ u, arr[l.o + off * l.esz + i * l.esz + j]? = some u ∧ VR mu pr w.heap x u := by
          intro i e j x he hx
          obtain ⟨q1, u, q2, q3⟩ := k6.2 (off + i) e j x he hx
          exact ⟨q1, u, by rw [← q2, Nat.add_mul]; congr 1; omega, q3⟩
        have htl : ts.length = len := h4
        have hl' : ts.length ≤ cap := by omega
        have hfin := VR.tr (mu := mu') (pr := pr') (hp := w.heap) c l.b (l.o + off * l.esz) cap l.esz arr ty (0, 0) ts (fun i j => (arr[l.o + off * l.esz + i * l.esz + j]?).getD undef) (hrow n r l h1 (by rw [h2]; exact g1)) k3 hl'
          (fun i t hi => by obtain ⟨e, he⟩ := hget i t hi; rw [h5 i e t he hi]; exact k6.1 _ e he)
          (fun i t j y hi hj => by
            obtain ⟨e, he⟩ := hget i t hi
            obtain ⟨x, hx⟩ := get_of_len (h5 i e t he hi) hj
            obtain ⟨_, u, q2, _⟩ := key i e j x he hx
            simp [q2])
          (fun i t j y hi hj => by
            obtain ⟨e, he⟩ := hget i t hi
            obtain ⟨x, hx⟩ := get_of_len (h5 i e t he hi) hj
            exact (h6 i e t j x y he hi hx hj).one (key i e j x he hx).1)
          (fun i t j y hi hj => by
            obtain ⟨e, he⟩ := hget i t hi
            obtain ⟨x, hx⟩ := get_of_len (h5 i e t he hi) hj
            obtain ⟨_, u, q2, q3⟩ := key i e j x he hx
            simp only [q2, Option.getD_some]
            exact ih i e t j x y he hi hx hj q3)
        rw [htl] at hfin
        exact hfin
  | ptr n v i off r e ts h1 h2 h3 h4 h5 ih =>
    intro u hu
    cases hu with
    | ptr _ _ _ _ l hl =>
      obtain ⟨l2, arr, ty, k1, k2, k3, k4, k5, k6⟩ := R.row n r h1
      rw [h2, hl] at k1
      cases k1
      have key : ∀ (j : Nat) (x : AV), e[j]? = some x → x.one = true ∧ ∃ u, arr[l.o + i * l.esz + j]? = some u ∧ VR mu pr w.heap x u := fun j x hx => k6.2 i e j x h3 hx
      have hget : ∀ (j : Nat) (y : AV), ts[j]? = some y → ∃ x, e[off + j]? = some x := fun j y hj => ⟨e[off + j]'(by have := lt_get hj; omega), by simp⟩
      refine .tptr c l.b _ arr ty (0, 0) ts (fun j => (arr[l.o + i * l.esz + off + j]?).getD undef) (hrow n r l h1 (by rw [h2]; exact hl)) k3 (fun j y hj => ?_) (fun j y hj => ?_) (fun j y hj => ?_) <;>
        obtain ⟨x, hx⟩ := hget j y hj <;> obtain ⟨q1, u, q2, q3⟩ := key _ x hx <;> rw [← Nat.add_assoc] at q2
      · simp [q2]
      · exact (h5 j x y hx hj).one q1
      · simp only [q2, Option.getD_some]
        exact ih j x y hx hj q3
  | tptr b cs ts h1 h2 h3 ih =>
    intro u hu
    cases hu with
    | tptr g bk o arr ty fr _ us g1 g2 g3 g4 g5 =>
      refine .tptr c bk o arr ty fr ts us (hpr _ _ g1 h1) g2 (fun j y hj => ?_) (fun j y hj => ?_) (fun j y hj => ?_) <;> obtain ⟨x, hx⟩ := get_of_len h2 hj
      · exact g3 j x hx
      · exact (h3 j x y hx hj).one (g4 j x hx)
      · exact ih j x y hx hj (g5 j x hx)
  | agg cs ts h1 h2 ih =>
    intro u hu
    cases hu with
    | agg _ carr us g1 g2 g3 g4 =>
      refine .agg ts carr us (by rw [g1, h1]) (fun j y hj => ?_) (fun j y hj => ?_) (fun j y hj => ?_) <;> obtain ⟨x, hx⟩ := get_of_len h1 hj
      · exact g2 j x hx
      · exact (h2 j x y hx hj).one (g3 j x hx)
      · exact ih j x y hx hj (g4 j x hx)
  | tup cs ts h1 h2 ih =>
    intro u hu
    cases hu with
    | tup _ carr us g1 g2 g3 =>
      refine .tup ts carr us (by rw [g1, h1]) (fun j y hj => ?_) (fun j y hj => ?_) <;> obtain ⟨x, hx⟩ := get_of_len h1 hj
      · exact g2 j x hx
      · exact ih j x y hx hj (g3 j x hx)
  | fn f cs ts h1 h2 ih =>
    intro u hu
    cases hu with
    | fn _ _ carr us g1 g2 g3 =>
      refine .fn f ts carr us (by rw [g1, h1]) (fun j y hj => ?_) (fun j y hj => ?_) <;> obtain ⟨x, hx⟩ := get_of_len h1 hj
      · exact g2 j x hx
      · exact ih j x y hx hj (g3 j x hx)

/-- Nothing lent in it. -/
inductive Cl : AV → Prop
  | undef : Cl .undef
  | int (k : IntKind) (n : Int) : Cl (.int k n)
  | bool (b : Bool) : Cl (.bool b)
  | str (s : ByteArray) : Cl (.str s)
  | nilp : Cl .nilp
  | nilif : Cl .nilif
  | errv : Cl .errv
  | nilsl : Cl .nilsl
  | tr0 (b : Bool) : Cl (.tr b [])
  | tr (es : List (List AV)) : (∀ (i : Nat) (e : List AV) (j : Nat) (x : AV), es[i]? = some e → e[j]? = some x → Cl x) → Cl (.tr false es)
  | sl (n : Nm) (v off len : Nat) : Cl (.sl n v off len)
  | ptr (n : Nm) (v i off : Nat) : Cl (.ptr n v i off)
  | tptr (cs : List AV) : (∀ (j : Nat) (x : AV), cs[j]? = some x → Cl x) → Cl (.tptr false cs)
  | agg (cs : List AV) : (∀ (j : Nat) (x : AV), cs[j]? = some x → Cl x) → Cl (.agg cs)
  | tup (cs : List AV) : (∀ (j : Nat) (x : AV), cs[j]? = some x → Cl x) → Cl (.tup cs)
  | fn (f : FuncId) (cs : List AV) : (∀ (j : Nat) (x : AV), cs[j]? = some x → Cl x) → Cl (.fn f cs)

theorem Cl.ok (hpr : ∀ k, pr false k → pr' false k) (hmu : ∀ n v l, mu n v = some l → mu' n v = some l) {a : AV} (hc : Cl a) : ∀ {u : Value}, VR mu pr hp a u → VR mu' pr' hp a u := by
  induction hc with
  | undef => intro u _; exact .undef u
  | int k n => intro u hu; cases hu; exact .int k n
  | bool b => intro u hu; cases hu; exact .bool b
  | str s => intro u hu; cases hu; exact .str s
  | nilp => intro u hu; cases hu; exact .nilp
  | nilif => intro u hu; cases hu; exact .nilif
  | errv => intro u hu; cases hu; exact .errv _ _
  | nilsl => intro u hu; cases hu; exact .nilsl
  | tr0 b =>
    intro u hu
    cases hu with
    | tr0 => exact .tr0 _ _ _
    | tr => exact .tr0 _ _ _
  | tr es _ ih =>
    intro u hu
    cases hu with
    | tr0 => exact .tr0 _ _ _
    | tr g b o cap esz arr ty fr _ us g1 g2 g3 g4 g5 g6 g7 => exact .tr false b o cap esz arr ty fr es us (hpr _ g1) g2 g3 g4 g5 g6 (fun i e j x hi hj => ih i e j x hi hj (g7 i e j x hi hj))
  | sl n v off len =>
    intro u hu
    cases hu with
    | sl _ _ _ _ cap ao l arr ty fr g1 g2 g3 g4 g5 g6 g7 g8 => exact .sl n v off len cap ao l arr ty fr (hmu _ _ _ g1) g2 g3 g4 g5 g6 g7 g8
  | ptr n v i off =>
    intro u hu
    cases hu with
    | ptr _ _ _ _ l hl => exact .ptr n v i off l (hmu _ _ _ hl)
  | tptr cs _ ih =>
    intro u hu
    cases hu with
    | tptr g b o arr ty fr _ us g1 g2 g3 g4 g5 => exact .tptr false b o arr ty fr cs us (hpr _ g1) g2 g3 g4 (fun j x hj => ih j x hj (g5 j x hj))
  | agg cs _ ih =>
    intro u hu
    cases hu with
    | agg _ carr us g1 g2 g3 g4 => exact .agg cs carr us g1 g2 g3 (fun j x hj => ih j x hj (g4 j x hj))
  | tup cs _ ih =>
    intro u hu
    cases hu with
    | tup _ carr us g1 g2 g3 => exact .tup cs carr us g1 g2 (fun j x hj => ih j x hj (g3 j x hj))
  | fn f cs _ ih =>
    intro u hu
    cases hu with
    | fn _ _ carr us g1 g2 g3 => exact .fn f cs carr us g1 g2 (fun j x hj => ih j x hj (g3 j x hj))

def ClRow (r : Row) : Prop := ∀ (i : Nat) (e : List AV) (j : Nat) (x : AV), r.elems[i]? = some e → e[j]? = some x → Cl x

/-- What a step leaves ('B': names below that tick that are free stay free). -/
structure AfterB (B : Nat) (mu : Nm → Nat → Option Loc) (pr : Bool → Nat → Prop) (h : Hp) (w : World) (mu' : Nm → Nat → Option Loc) (pr' : Bool → Nat → Prop) (h' : Hp) (w' : World) : Prop where
  rel : Rel mu' pr' h' w'
  ext : Ext mu pr w.heap mu' pr' w'.heap
  fr : Fr w w'
  grow : ∀ b, pr' false b → pr false b ∨ w.heap.size ≤ b
  tru : ∀ b, pr' true b → pr true b
  names : ∀ n, n.1 < B → (∀ v, mu n v = none) → ∀ v, mu' n v = none
  tick : h.tick ≤ h'.tick

def After (mu : Nm → Nat → Option Loc) (pr : Bool → Nat → Prop) (h : Hp) (w : World) (mu' : Nm → Nat → Option Loc) (pr' : Bool → Nat → Prop) (h' : Hp) (w' : World) : Prop := AfterB h.tick mu pr h w mu' pr' h' w'

theorem AfterB.refl (B : Nat) (R : Rel mu pr h w) : AfterB B mu pr h w mu pr h w := ⟨R, .refl, .refl w, fun b hb => .inl hb, fun b hb => hb, fun n _ hn => hn, Nat.le_refl _⟩

theorem AfterB.trans {B : Nat} {mu'' : Nm → Nat → Option Loc} {pr'' : Bool → Nat → Prop} {h'' : Hp} {w'' : World} (x : AfterB B mu pr h w mu' pr' h' w') (y : AfterB B mu' pr' h' w' mu'' pr'' h'' w'') : AfterB B mu pr h w mu'' pr'' h'' w'' := by
  refine ⟨y.rel, x.ext.trans y.ext, x.fr.trans y.fr, fun b hb => ?_, fun b hb => x.tru b (y.tru b hb), fun n hn hf => y.names n hn (x.names n hn hf), Nat.le_trans x.tick y.tick⟩
  rcases y.grow b hb with h1 | h1
  · exact x.grow b h1
  · exact .inr (Nat.le_trans x.fr.size h1)

theorem AfterB.lower {B B' : Nat} (hB : B' ≤ B) (x : AfterB B mu pr h w mu' pr' h' w') : AfterB B' mu pr h w mu' pr' h' w' :=
  ⟨x.rel, x.ext, x.fr, x.grow, x.tru, fun n hn hf => x.names n (Nat.lt_of_lt_of_le hn hB) hf, x.tick⟩

end
end Go.Proofs.YtmcmgeedhbgglaaGreatDoor.AM

namespace Go.Proofs.YtmcmgeedhbgglaaGreatDoor.AM
open Go.RowKit

/-- How a function is called: over the caller's rows; with its arguments lent and its result's rows handed over; with its arguments lent and its result as a tree. -/
inductive Mode where
  | heap | fresh | tree
  deriving DecidableEq

/-- What calls do: function, arguments, rows, what is asked of the result. -/
abbrev CS := FuncId → List AV → Hp → (AV → Hp → Prop) → Prop

def Hp.mt (t : Nat) : Hp := ⟨fun _ => none, t⟩

def DRs (c : Bool) (rows : Nm → Option Row) (as1 ts : List AV) : Prop := ts.length = as1.length ∧ ∀ (i : Nat) (a t : AV), as1[i]? = some a → ts[i]? = some t → DR c rows a t

def treeW (C : CS) (g : FuncId) (rows : Nm → Option Row) (args : List AV) (tick : Nat) (K : AV → Prop) : Prop :=
  ∃ targs r, DRs true rows args targs ∧ C g targs (.mt tick) (fun v h' => DR false h'.rows v r) ∧ K r

def Hp.join (h : Hp) (hs : Nm → Option Row) (tick : Nat) : Hp := ⟨fun n => if n.1 < h.tick then h.rows n else hs n, tick⟩

def freshW (C : CS) (g : FuncId) (args : List AV) (h : Hp) (K : AV → Hp → Prop) : Prop :=
  ∃ targs, DRs true h.rows args targs ∧ C g targs (.mt h.tick) (fun v h' => (∀ n r, h'.rows n = some r → h.tick ≤ n.1) → h.tick ≤ h'.tick → ∃ hs : Nm → Option Row, (∀ n r, hs n = some r → h'.rows n = some r ∧ ClRow r) ∧ Cl v ∧ K v (h.join hs h'.tick))

def callW (M : FuncId → Mode) (C : CS) (g : FuncId) (args : List AV) (h : Hp) (K : AV → Hp → Prop) : Prop :=
  match M g with
  | .heap => C g args h K
  | .fresh => freshW C g args h K ∨ treeW C g h.rows args h.tick (fun r => K r h)
  | .tree => treeW C g h.rows args h.tick (fun r => K r h)

/-- A variable's value (or constant, or function). -/
def opd (σ : Nat → AV) : Operand → AV
  | .tmp t => σ t
  | .const v => avc v
  | .func f => .fn f []
  | .global _ => .undef

def putA (dst : Option Tmp) (v : AV) (σ : Nat → AV) : Nat → AV :=
  match dst with
  | some d => fun t => if t = d then v else σ t
  | none => σ

/-- Whether a guarded operation is carried out. -/
def wantedA (all : Array Oper) (σ : Nat → AV) (o : Oper) : Option Bool :=
  match o.guard with
  | none => some true
  | some (j, want) => match all[j]? with
    | some o' => match o'.dst with
      | some d => match σ d with
        | .bool b => some (b == want)
        | .tup [] => some false
        | _ => none
      | none => none
    | none => none

/-- Operations on memory that need no call. -/
def memA (P : Program) (n : Nm) (ρ : Operand → AV) (h : Hp) : Op → Option (AV × Hp)
  | .alloc t => allocA P t h n
  | .box _ x => boxA (ρ x) h n
  | .buildSlice t len parts => buildSliceA P t len (parts.toList.map fun p => (p.1, ρ p.2)) h n
  | .makeSlice t l c => makeSliceA P t (ρ l) (ρ c) h n
  | .store t a x => match storeA P t (ρ a) (ρ x) h with
    | some h' => some (.tup [], h')
    | none => none
  | .call ⟨.builtin .append, ⟨[s, x]⟩, ⟨[t, t']⟩⟩ => if t = t' then appendA P t (ρ s) (ρ x) h n else none
  | .call ⟨.builtin .copy, ⟨[d, x]⟩, ⟨[t, _]⟩⟩ => copyA P t (ρ d) (ρ x) h
  | .call ⟨.builtin .clear, ⟨[d]⟩, ⟨[t]⟩⟩ => match clearA P t (ρ d) h with
    | some h' => some (.tup [], h')
    | none => none
  | _ => none

/-- One operation. -/
def stepW (P : Program) (M : FuncId → Mode) (C : CS) (n : Nm) (o : Oper) (σ : Nat → AV) (h : Hp) (K : AV → Hp → Prop) : Prop :=
  match evQ P (opd σ) h.rows o.op with
  | some v => K v h
  | none => match memA P n (opd σ) h o.op with
    | some (v, h') => K v h'
    | none => match o.op with
      | .call ⟨.value f, args, _⟩ => match opd σ f with
        | .fn g cap => callW M C g (args.toList.map (opd σ) ++ cap) h K
        | _ => False
      | _ => False

def wpOps (P : Program) (M : FuncId → Mode) (C : CS) (all : Array Oper) (T : Nat) : List Oper → Nat → (Nat → AV) → Hp → ((Nat → AV) → Hp → Prop) → Prop
  | [], _, σ, h, K => K σ h
  | o :: rest, i, σ, h, K => match wantedA all σ o with
    | some true => stepW P M C (T, i, 0) o σ h (fun v h' => wpOps P M C all T rest (i + 1) (putA o.dst v σ) h' K)
    | some false => wpOps P M C all T rest (i + 1) (putA o.dst (.tup []) σ) h K
    | none => False

inductive Ex where
  | normal
  | exit (id : Nat)
  | ret

def Hp.next (h : Hp) : Hp := { h with tick := h.tick + 1 }

/-- The code's weakest precondition ('D': what a region that draws its order asks). -/
def wpC (P : Program) (M : FuncId → Mode) (C : CS) (D : Array Oper → (Nat → AV) → Hp → ((Nat → AV) → Hp → Prop) → Prop) : Code → (Nat → AV) → Hp → (Ex → (Nat → AV) → Hp → Prop) → Prop
  | .skip, σ, h, K => K .normal σ h
  | .region _ ops false, σ, h, K => wpOps P M C ops h.tick ops.toList 0 σ h.next (fun σ' h' => K .normal σ' h')
  | .region _ ops true, σ, h, K => D ops σ h (fun σ' h' => K .normal σ' h')
  | .seq a b, σ, h, K => wpC P M C D a σ h (fun e σ' h' => match e with
    | .normal => wpC P M C D b σ' h' K
    | e => K e σ' h')
  | .cond c a b, σ, h, K => match opd σ c with
    | .bool t => if t = true then wpC P M C D a σ h K else wpC P M C D b σ h K
    | _ => False
  | .block id a, σ, h, K => wpC P M C D a σ h (fun e σ' h' => match e with
    | .exit j => if j = id then K .normal σ' h' else K (.exit j) σ' h'
    | e => K e σ' h')
  | .loop a, σ, h, K => ∀ I : (Nat → AV) → Hp → Prop, (∀ σ h, wpC P M C D a σ h (fun e σ' h' => match e with
    | .normal => I σ' h'
    | e => K e σ' h') → I σ h) → I σ h
  | .exit id, σ, h, K => K (.exit id) σ h
  | .ret, σ, h, K => K .ret σ h
  | _, _, _, _ => False

/-- A function's result. -/
def resA (P : Program) (h : Hp) (σ : Nat → AV) : List ResultVar → Option (List AV)
  | [] => some []
  | .tmp t :: rs => match resA P h σ rs with
    | some vs => some (σ t :: vs)
    | none => none
  | .cell a t :: rs => match loadA P h.rows t (σ a), resA P h σ rs with
    | some v, some vs => some (v :: vs)
    | _, _ => none

def resV : List AV → AV
  | [v] => v
  | vs => .tup vs

def resW (P : Program) (fn : Func) (h : Hp) (σ : Nat → AV) (K : AV → Hp → Prop) : Prop :=
  match resA P h σ fn.results.toList with
  | some vs => K (resV vs) h
  | none => False

def dstOk (N : Nat) (dst : Option Tmp) : Bool := match dst with | some d => d < N | none => true

/-- Every temporary that is written is there. -/
def codeOk (n : Nat) : Code → Bool
  | .region _ ops _ => ops.toList.all fun o => dstOk n o.dst
  | .seq a b => codeOk n a && codeOk n b
  | .cond _ a b => codeOk n a && codeOk n b
  | .block _ a => codeOk n a
  | .loop a => codeOk n a
  | _ => true

/-- A function's body, from its arguments. -/
def wpF (P : Program) (M : FuncId → Mode) (C : CS) (D : Array Oper → (Nat → AV) → Hp → ((Nat → AV) → Hp → Prop) → Prop) (f : FuncId) (args : List AV) (h : Hp) (K : AV → Hp → Prop) : Prop :=
  ∃ fn c, P.funcs[f]? = some fn ∧ fn.body = some c ∧ (codeOk fn.ntmps c && !(fn.name == "runtime.NumGoroutine")) = true ∧ args.length ≤ fn.ntmps ∧
    wpC P M C D c (fun i => args.getD i (.tup [])) h (fun e σ h' => match e with
      | .exit _ => False
      | _ => resW P fn h' σ K)

/-! ### More is asked of less -/
section
variable {P : Program} {M : FuncId → Mode} {C C' : CS} {D D' : Array Oper → (Nat → AV) → Hp → ((Nat → AV) → Hp → Prop) → Prop}

def CS.le (C C' : CS) : Prop := ∀ f args h (K K' : AV → Hp → Prop), (∀ v h', K v h' → K' v h') → C f args h K → C' f args h K'
def Dle (D D' : Array Oper → (Nat → AV) → Hp → ((Nat → AV) → Hp → Prop) → Prop) : Prop := ∀ ops σ h (K K' : (Nat → AV) → Hp → Prop), (∀ σ' h', K σ' h' → K' σ' h') → D ops σ h K → D' ops σ h K'

theorem treeW_mono (hC : CS.le C C') {g : FuncId} {rows : Nm → Option Row} {args : List AV} {t : Nat} {K K' : AV → Prop} (hK : ∀ v, K v → K' v) (h : treeW C g rows args t K) : treeW C' g rows args t K' := by
  obtain ⟨ta, r, h1, h2, h3⟩ := h
  exact ⟨ta, r, h1, hC _ _ _ _ _ (fun _ _ h => h) h2, hK _ h3⟩

theorem callW_mono (hC : CS.le C C') {g : FuncId} {args : List AV} {h : Hp} {K K' : AV → Hp → Prop} (hK : ∀ v h', K v h' → K' v h') (hw : callW M C g args h K) : callW M C' g args h K' := by
  unfold callW at *
  split at hw
  · exact hC _ _ _ _ _ hK hw
  · rcases hw with hw | hw
    rotate_left
    · exact .inr (treeW_mono hC (fun r hr => hK _ _ hr) hw)
    obtain ⟨ta, h1, h2⟩ := hw
    exact .inl ⟨ta, h1, hC _ _ _ _ _ (fun v h' p l1 l2 => let ⟨hs, a, b, c⟩ := p l1 l2; ⟨hs, a, b, hK _ _ c⟩) h2⟩
  · exact treeW_mono hC (fun r hr => hK _ _ hr) hw

theorem stepW_mono (hC : CS.le C C') {n : Nm} {o : Oper} {σ : Nat → AV} {h : Hp} {K K' : AV → Hp → Prop} (hK : ∀ v h', K v h' → K' v h') (hw : stepW P M C n o σ h K) : stepW P M C' n o σ h K' := by
  unfold stepW at *
  split at hw
  · exact hK _ _ hw
  · split at hw
    · exact hK _ _ hw
    · split at hw
      · split at hw
        · exact callW_mono hC hK hw
        · exact hw
      · exact hw

theorem wpOps_mono (hC : CS.le C C') {all : Array Oper} {T : Nat} : ∀ (l : List Oper) (i : Nat) (σ : Nat → AV) (h : Hp) (K K' : (Nat → AV) → Hp → Prop), (∀ σ' h', K σ' h' → K' σ' h') → wpOps P M C all T l i σ h K → wpOps P M C' all T l i σ h K'
  | [], _, _, _, _, _, hK, h => hK _ _ h
  | o :: l, i, σ, h, K, K', hK, hw => by
    unfold wpOps at *
    split at hw
    · exact stepW_mono hC (fun v h' hr => wpOps_mono hC l _ _ _ _ _ hK hr) hw
    · exact wpOps_mono hC l _ _ _ _ _ hK hw
    · exact hw

theorem wpC_mono (hC : CS.le C C') (hD : Dle D D') : ∀ (c : Code) (σ : Nat → AV) (h : Hp) (K K' : Ex → (Nat → AV) → Hp → Prop), (∀ e σ' h', K e σ' h' → K' e σ' h') → wpC P M C D c σ h K → wpC P M C' D' c σ h K' := by
  intro c
  induction c with
  | skip => intro σ h K K' hK hw; exact hK _ _ _ hw
  | region id ops d =>
    intro σ h K K' hK hw
    cases d
    · exact wpOps_mono hC _ _ _ _ _ _ (fun _ _ hr => hK _ _ _ hr) hw
    · exact hD _ _ _ _ _ (fun _ _ hr => hK _ _ _ hr) hw
  | seq a b iha ihb =>
    intro σ h K K' hK hw
    refine iha _ _ _ _ (fun e σ' h' hr => ?_) hw
    cases e
    · exact ihb _ _ _ _ hK hr
    · exact hK _ _ _ hr
    · exact hK _ _ _ hr
  | cond c a b iha ihb =>
    intro σ h K K' hK hw
    simp only [wpC] at *
    split at hw
    · split at hw
      · rename_i ht; rw [if_pos ht]; exact iha _ _ _ _ hK hw
      · rename_i ht; rw [if_neg ht]; exact ihb _ _ _ _ hK hw
    · exact hw
  | block id a iha =>
    intro σ h K K' hK hw
    refine iha _ _ _ _ (fun e σ' h' hr => ?_) hw
    cases e with
    | normal => exact hK _ _ _ hr
    | exit j =>
      simp only at *
      split at hr
      · rename_i hj; rw [if_pos hj]; exact hK _ _ _ hr
      · rename_i hj; rw [if_neg hj]; exact hK _ _ _ hr
    | ret => exact hK _ _ _ hr
  | loop a iha =>
    intro σ h K K' hK hw I hI
    refine hw I fun σ h hb => hI σ h (iha _ _ _ _ (fun e σ' h' hr => ?_) hb)
    cases e
    · exact hr
    · exact hK _ _ _ hr
    · exact hK _ _ _ hr
  | exit id => intro σ h K K' hK hw; exact hK _ _ _ hw
  | ret => intro σ h K K' hK hw; exact hK _ _ _ hw
  | _ => intro σ h K K' hK hw; exact hw.elim

theorem resW_mono {fn : Func} {h : Hp} {σ : Nat → AV} {K K' : AV → Hp → Prop} (hK : ∀ v h', K v h' → K' v h') (hw : resW P fn h σ K) : resW P fn h σ K' := by
  unfold resW at *
  cases hr : resA P h σ fn.results.toList with
  | none => rw [hr] at hw; exact hw
  | some vs => rw [hr] at hw; exact hK _ _ hw

theorem wpF_mono (hC : CS.le C C') (hD : Dle D D') {f : FuncId} {args : List AV} {h : Hp} {K K' : AV → Hp → Prop} (hK : ∀ v h', K v h' → K' v h') (hw : wpF P M C D f args h K) : wpF P M C' D' f args h K' := by
  obtain ⟨fn, c, h1, h2, h3, h4, h5⟩ := hw
  refine ⟨fn, c, h1, h2, h3, h4, wpC_mono hC hD _ _ _ _ _ (fun e σ' h' hr => ?_) h5⟩
  cases e
  · exact resW_mono hK hr
  · exact hr
  · exact resW_mono hK hr

/-- A loop, unrolled once. -/
theorem wpC_loop (hD : Dle D D) (hC : CS.le C C) {a : Code} {σ : Nat → AV} {h : Hp} {K : Ex → (Nat → AV) → Hp → Prop}
    (hw : wpC P M C D a σ h (fun e σ' h' => match e with | .normal => wpC P M C D (.loop a) σ' h' K | e => K e σ' h')) : wpC P M C D (.loop a) σ h K := by
  intro I hI
  refine hI σ h (wpC_mono hC hD _ _ _ _ _ (fun e σ' h' hr => ?_) hw)
  cases e
  · exact hr I hI
  · exact hr
  · exact hr

end
end Go.Proofs.YtmcmgeedhbgglaaGreatDoor.AM

namespace Go.Proofs.YtmcmgeedhbgglaaGreatDoor.AM
open Go.RowKit

section
variable {P : Program} {mu mu' : Nm → Nat → Option Loc} {pr pr' : Bool → Nat → Prop} {hp hp' : Array Obj} {h h' : Hp} {w w' : World}

theorem Gives.afterB {s : Sem Value} {r : AV} {z : Value} {B : Nat} (g : Gives P mu pr w s r h' mu' z w') (htick : h.tick ≤ h'.tick) (hn : ∀ n, n.1 < B → (∀ v, mu n v = none) → ∀ v, mu' n v = none) :
    AfterB B mu pr h w mu' pr h' w' := ⟨g.rel, g.ext, g.fr, fun b hb => .inl hb, fun b hb => hb, hn, htick⟩

theorem allocA_tick {t : TypeId} {n : Nm} {r : AV} (he : allocA P t h n = some (r, h')) : h'.tick = h.tick := by
  unfold allocA at he
  split at he
  · split at he
    · cases he; rfl
    · cases he
  · cases he
theorem boxA_tick {x : AV} {n : Nm} {r : AV} (he : boxA x h n = some (r, h')) : h'.tick = h.tick := by
  unfold boxA at he
  split at he
  · cases he; rfl
  · cases he
theorem buildSliceA_tick {t : TypeId} {len : Nat} {ps : List (Nat × AV)} {n : Nm} {r : AV} (he : buildSliceA P t len ps h n = some (r, h')) : h'.tick = h.tick := by
  unfold buildSliceA at he
  (repeat' split at he) <;> first | (cases he; done) | (cases he; rfl)
theorem makeSliceA_tick {t : TypeId} {l c : AV} {n : Nm} {r : AV} (he : makeSliceA P t l c h n = some (r, h')) : h'.tick = h.tick := by
  unfold makeSliceA at he
  (repeat' split at he) <;> first | (cases he; done) | (cases he; rfl)
theorem storeA_tick {t : TypeId} {p x : AV} (he : storeA P t p x h = some h') : h'.tick = h.tick := by
  unfold storeA at he
  (repeat' split at he) <;> first | (cases he; done) | (cases he; rfl)
theorem appendA_tick {t : TypeId} {d x : AV} {n : Nm} {r : AV} (he : appendA P t d x h n = some (r, h')) : h'.tick = h.tick := by
  unfold appendA at he
  (repeat' split at he) <;> first | (cases he; done) | (cases he; rfl)
theorem copyA_tick {t : TypeId} {d x : AV} {r : AV} (he : copyA P t d x h = some (r, h')) : h'.tick = h.tick := by
  unfold copyA at he
  (repeat' split at he) <;> first | (cases he; done) | (cases he; rfl)
theorem clearA_tick {t : TypeId} {d : AV} (he : clearA P t d h = some h') : h'.tick = h.tick := by
  unfold clearA at he
  (repeat' split at he) <;> first | (cases he; done) | (cases he; rfl)

/-- What an operation hands on. -/
def gives (nx : Next) (z : Value) : Prop := nx = .value z ∨ (nx = .skip ∧ z = undef)

theorem memA_ok (R : Rel mu pr h w) {o : Oper} {ρ : Operand → AV} {σ : Operand → Value} (hρ : ∀ x, VR mu pr w.heap (ρ x) (σ x)) {n : Nm} (hfree : ∀ v, mu n v = none) (htick : n.1 < h.tick) {r : AV}
    (he : memA P n ρ h o.op = some (r, h')) : ∃ mu' z w' nx, (execOp σ o).run P w = .ok nx w' ∧ gives nx z ∧ VR mu' pr w'.heap r z ∧ AfterB 0 mu pr h w mu' pr h' w' ∧ ∀ m, m ≠ n → (∀ v, mu m v = none) → ∀ v, mu' m v = none := by
  have lift : ∀ {s : Sem Value} {z : Value} {w' : World}, s.run P w = .ok z w' → ((do pure (.value (← s)) : Sem Next)).run P w = .ok (.value z) w' := by
    intro s z w' hs
    simp [hs]
  have same : ∀ {mu' : Nm → Nat → Option Loc}, (∀ m v, m ≠ n → mu' m v = mu m v) → ∀ m, m ≠ n → (∀ v, mu m v = none) → ∀ v, mu' m v = none := fun hm m hmn hf v => by rw [hm m v hmn]; exact hf v
  have same' : ∀ {mu' : Nm → Nat → Option Loc}, (∀ m v, mu' m v = mu m v) → ∀ m, m ≠ n → (∀ v, mu m v = none) → ∀ v, mu' m v = none := fun hm m hmn hf v => by rw [hm m v]; exact hf v
  obtain ⟨dst, op, type, pos, after, guard⟩ := o
  simp only at he
  unfold memA at he
  split at he
  case h_9 => cases he
  case h_1 t =>
    obtain ⟨mu', z, w', g, hm⟩ := allocA_ok R hfree htick he (.tuple #[])
    exact ⟨mu', z, w', _, lift g.run, .inl rfl, g.val, g.afterB (by rw [allocA_tick he]; exact Nat.le_refl _) (fun n hn => by omega), same hm⟩
  case h_2 t x =>
    obtain ⟨mu', z, w', g, hm⟩ := boxA_ok (t := t) R (hρ x) hfree htick he
    exact ⟨mu', z, w', _, lift g.run, .inl rfl, g.val, g.afterB (by rw [boxA_tick he]; exact Nat.le_refl _) (fun n hn => by omega), same hm⟩
  case h_3 t len parts =>
    obtain ⟨mu', z, w', g, hm⟩ := buildSliceA_ok R hρ hfree htick he
    exact ⟨mu', z, w', _, lift g.run, .inl rfl, g.val, g.afterB (by rw [buildSliceA_tick he]; exact Nat.le_refl _) (fun n hn => by omega), same hm⟩
  case h_4 t l c =>
    obtain ⟨mu', z, w', g, hm⟩ := makeSliceA_ok R (hρ l) (hρ c) hfree htick he
    exact ⟨mu', z, w', _, lift g.run, .inl rfl, g.val, g.afterB (by rw [makeSliceA_tick he]; exact Nat.le_refl _) (fun n hn => by omega), same hm⟩
  case h_5 t a x =>
    split at he
    case h_2 => cases he
    case h_1 h1 hs =>
      cases he
      obtain ⟨mu', w', g1, g2, g3, g4, g5⟩ := storeA_ok R (hρ a) (hρ x) hs
      refine ⟨mu', undef, w', .skip, by simp [execOp, g1], .inr ⟨rfl, rfl⟩, VR.tup_mk .nil, ⟨g2, g3, g4, fun b hb => .inl hb, fun b hb => hb, fun n hn => by omega, by rw [storeA_tick hs]; exact Nat.le_refl _⟩, same' g5⟩
  case h_6 s x t t' =>
    split at he
    case isFalse => cases he
    case isTrue ht =>
      subst ht
      obtain ⟨mu', z, w', g, hm⟩ := appendA_ok (ty := type) R (hρ s) (hρ x) hfree htick he
      exact ⟨mu', z, w', .value z, by simp [execOp, resolve, invoke, builtin, g.run], .inl rfl, g.val, g.afterB (by rw [appendA_tick he]; exact Nat.le_refl _) (fun n hn => by omega), hm⟩
  case h_7 d x t t' =>
    obtain ⟨mu', z, w', g, hm⟩ := copyA_ok (t' := t') (ty := type) R (hρ d) (hρ x) he
    exact ⟨mu', z, w', .value z, by simp [execOp, resolve, invoke, builtin, g.run], .inl rfl, g.val, g.afterB (by rw [copyA_tick he]; exact Nat.le_refl _) (fun n hn => by omega), same' hm⟩
  case h_8 d t =>
    split at he
    case h_2 => cases he
    case h_1 h1 hs =>
      cases he
      obtain ⟨mu', w', g1, g2, g3, g4, g5⟩ := clearA_ok (ty := type) R (hρ d) hs
      refine ⟨mu', .tuple #[], w', .value (.tuple #[]), by simp [execOp, resolve, invoke, builtin, g1], .inl rfl, VR.tup_mk .nil, ⟨g2, g3, g4, fun b hb => .inl hb, fun b hb => hb, fun n hn => by omega, by rw [clearA_tick hs]; exact Nat.le_refl _⟩, same' g5⟩

/-! ### Environments -/
def EnvR (mu : Nm → Nat → Option Loc) (pr : Bool → Nat → Prop) (hp : Array Obj) (σ : Nat → AV) (a : Act) (N : Nat) : Prop := a.tmps.size = N ∧ ∀ t, VR mu pr hp (σ t) (a.tmps.getD t undef)

theorem EnvR.mono (x : Ext mu pr hp mu' pr' hp') {σ : Nat → AV} {a : Act} {N : Nat} (e : EnvR mu pr hp σ a N) : EnvR mu' pr' hp' σ a N := ⟨e.1, fun t => (e.2 t).mono x⟩

theorem EnvR.opd {σ : Nat → AV} {a : Act} {N : Nat} (e : EnvR mu pr hp σ a N) (x : Operand) : VR mu pr hp (opd σ x) (a.eval x) := by
  cases x with
  | tmp t => exact e.2 t
  | const v => exact avc_ok v
  | global g => exact .undef _
  | func f => exact VR.fn_mk (cs := []) (vs := []) .nil

theorem EnvR.put {σ : Nat → AV} {a : Act} {N : Nat} (e : EnvR mu pr hp σ a N) {dst : Option Tmp} (hd : dstOk N dst = true) {v : AV} {z : Value} (hv : VR mu pr hp v z) : EnvR mu pr hp (putA dst v σ) (a.put dst z) N := by
  cases dst with
  | none => exact e
  | some d =>
    simp only [dstOk, decide_eq_true_eq] at hd
    refine ⟨by simp [Act.put, e.1], fun t => ?_⟩
    have h1 := e.1
    by_cases ht : t = d
    · subst ht
      have : (a.put (some t) z).tmps.getD t undef = z := by simp [Act.put, Array.getD, h1, hd]
      rw [this]
      simpa [putA] using hv
    · have : (a.put (some d) z).tmps.getD t undef = a.tmps.getD t undef := by
        simp only [Act.put, Array.getD_eq_getD_getElem?]
        rw [Array.getElem?_setIfInBounds_ne (Ne.symm ht)]
      rw [this]
      simpa [putA, ht] using e.2 t

theorem wantedA_ok {σ : Nat → AV} {a : Act} {N : Nat} (e : EnvR mu pr hp σ a N) {all : Array Oper} (hall : ∀ (j : Nat) (o : Oper), all[j]? = some o → dstOk N o.dst = true) {o : Oper} {b : Bool} (hw : wantedA all σ o = some b) :
    Region.wanted o (yielded all a.tmps) = b := by
  unfold wantedA at hw
  unfold Region.wanted
  split at hw
  case h_1 hg => rw [hg]; simpa using hw
  case h_2 j want hg =>
    rw [hg]
    simp only
    split at hw
    case h_2 => cases hw
    case h_1 o' ho' =>
      split at hw
      case h_2 => cases hw
      case h_1 d hd =>
        have hlt : d < a.tmps.size := by
          have := hall j o' ho'
          rw [hd] at this
          rw [e.1]
          simpa [dstOk] using this
        have hv := e.2 d
        have hget : a.tmps[d]? = some (a.tmps.getD d undef) := by simp [Array.getD, hlt]
        split at hw
        case h_3 => cases hw
        case h_1 bb hb =>
          rw [hb] at hv
          generalize hz : a.tmps.getD d undef = z at hv
          cases hv
          simp only [Option.some.injEq] at hw
          simp [yielded, ho', hd, hget, hz, ← hw]
        case h_2 hb =>
          rw [hb] at hv
          obtain ⟨arr, hz, _⟩ := hv.tup_inv
          simp only [Option.some.injEq] at hw
          simp [yielded, ho', hd, hget, hz, ← hw]

/-! ### Calls -/
/-- What the model's call must do. -/
def Sound (P : Program) : CS := fun f args h K =>
  (∃ fn, P.funcs[f]? = some fn ∧ fn.body.isNone = false ∧ (fn.name == "runtime.NumGoroutine") = false) ∧
  ∀ (mu : Nm → Nat → Option Loc) (pr : Bool → Nat → Prop) (w : World) (vs : List Value), Rel mu pr h w → VRs mu pr w.heap args vs →
    Calls P f vs.toArray w fun e w' => ∃ z v h' mu' pr', e = .returned z ∧ K v h' ∧ VR mu' pr' w'.heap v z ∧ After mu pr h w mu' pr' h' w'

theorem Rel.mt (P : Program) (w : World) (t : Nat) (pr : Bool → Nat → Prop) (hl : ∀ c b, pr c b → b < w.heap.size) (ht : Tab pr w.heap) : Rel (fun _ _ => none) pr (.mt t) w :=
  ⟨fun n r hr => by simp [Hp.mt] at hr, fun n r n' r' l l' hr => by simp [Hp.mt] at hr, fun _ _ _ _ _ => rfl, fun n r v hr => by simp [Hp.mt] at hr, hl, ht⟩

/-- What a callee may count on: what was kept is kept, and all else that is there is lent. -/
def prLent (pr : Bool → Nat → Prop) (size : Nat) : Bool → Nat → Prop := fun c b => if c then b < size else pr false b

theorem prLent_lt (R : Rel mu pr h w) : ∀ c b, prLent pr w.heap.size c b → b < w.heap.size := by
  intro c b hb
  cases c
  · exact R.lt false b hb
  · exact hb

theorem prLent_tab (R : Rel mu pr h w) : Tab (prLent pr w.heap.size) w.heap := fun b arr hm => ⟨by show b < w.heap.size; exact R.lt true b (R.tab b arr hm).1, (R.tab b arr hm).2⟩
theorem DRs.ok (R : Rel mu pr h w) {args targs : List AV} (hd : DRs true h.rows args targs) {vs : List Value} (hv : VRs mu pr w.heap args vs) : VRs (fun _ _ => none) (prLent pr w.heap.size) w.heap targs vs := by
  refine ⟨by rw [hv.1, hd.1], fun i t ht => ?_⟩
  obtain ⟨x, hx⟩ := get_of_len hd.1 ht
  obtain ⟨u, hu, hr⟩ := hv.2 i x hx
  refine ⟨u, hu, (hd.2 i x t hx ht).ok R (fun b k hb _ => ?_) (fun n r l hn hl => ?_) hr⟩
  · show k < w.heap.size
    exact R.lt b k hb
  · show l.b < w.heap.size
    obtain ⟨l', arr, ty, h1, _, h3, _⟩ := R.row n r hn
    rw [hl] at h1
    cases h1
    exact (Array.getElem?_eq_some_iff.1 h3).1

/-- A callee that was lent all: what there was is as it was. -/
theorem lent_same {mu1 : Nm → Nat → Option Loc} {pr1 : Bool → Nat → Prop} {t : Nat} {h1 : Hp} {w1 : World} (A : After (fun _ _ => none) (prLent pr w.heap.size) (.mt t) w mu1 pr1 h1 w1) {b : Nat} (hb : b < w.heap.size) : w1.heap[b]? = w.heap[b]? :=
  A.ext.same true b hb

theorem lent_new {mu1 : Nm → Nat → Option Loc} {pr1 : Bool → Nat → Prop} {t : Nat} {h1 : Hp} {w1 : World} (A : After (fun _ _ => none) (prLent pr w.heap.size) (.mt t) w mu1 pr1 h1 w1) {n : Nm} {r : Row} {l : Loc} (hn : h1.rows n = some r) (hl : mu1 n r.ver = some l) : w.heap.size ≤ l.b := by
  obtain ⟨l', arr, ty, g1, g2, _⟩ := A.rel.row n r hn
  rw [hl] at g1
  cases g1
  have := g2 true
  rcases Nat.lt_or_ge l.b w.heap.size with hlt | hge
  · exact absurd (A.ext.keep true l.b hlt) this
  · exact hge

/-- Behind a call whose result is taken as a tree. -/
theorem tree_after (R : Rel mu pr h w) {mu1 : Nm → Nat → Option Loc} {pr1 : Bool → Nat → Prop} {t : Nat} {h1 : Hp} {w1 : World} (A : After (fun _ _ => none) (prLent pr w.heap.size) (.mt t) w mu1 pr1 h1 w1) {v r : AV} {z : Value} (hv : VR mu1 pr1 w1.heap v z) (hd : DR false h1.rows v r) :
    ∃ pr', VR mu pr' w1.heap r z ∧ AfterB h.tick mu pr h w mu pr' h w1 := by
  let pr' : Bool → Nat → Prop := fun c b => pr c b ∨ (c = false ∧ w.heap.size ≤ b ∧ b < w1.heap.size)
  have X : Ext mu pr w.heap mu pr' w1.heap := by
    refine ⟨fun _ _ _ h => h, fun c b hb => .inl hb, fun c b hb => lent_same A (R.lt c b hb), fun b arr ty fr hb => ?_⟩
    exact ⟨arr, fr, by rw [lent_same A (Array.getElem?_eq_some_iff.1 hb).1]; exact hb, rfl⟩
  refine ⟨pr', ?_, ⟨⟨fun n q hn => ?_, R.inj, R.fresh, R.vers, fun c b hb => ?_, R.tab.ext X⟩, X, A.fr, fun b hb => ?_, fun b hb => ?_, fun n _ hn => hn, Nat.le_refl _⟩⟩
  · refine hd.ok (mu' := mu) (pr' := pr') A.rel (fun b k hb hc => ?_) (fun n q l hn hl => ?_) hv
    · have hb0 : b = false := by cases b <;> simp_all
      subst hb0
      rcases A.grow k hb with h2 | h2
      · exact .inl h2
      · exact .inr ⟨rfl, h2, A.rel.lt false k hb⟩
    · have h2 := lent_new A hn hl
      obtain ⟨l', arr, ty, g1, _, g3, _⟩ := A.rel.row n q hn
      rw [hl] at g1
      cases g1
      exact .inr ⟨rfl, h2, (Array.getElem?_eq_some_iff.1 g3).1⟩
  · obtain ⟨l, arr, ty, g1, g2, g3, g4, g5, g6⟩ := R.row n q hn
    have hlt := (Array.getElem?_eq_some_iff.1 g3).1
    exact ⟨l, arr, ty, g1, fun c hc => by
      rcases hc with hc | ⟨_, hc, _⟩
      · exact g2 c hc
      · omega, by rw [lent_same A hlt]; exact g3, g4, g5, g6.mono X⟩
  · rcases hb with hb | ⟨_, _, hb⟩
    · exact Nat.lt_of_lt_of_le (R.lt c b hb) A.fr.size
    · exact hb
  · rcases hb with hb | ⟨_, hb, _⟩
    · exact .inl hb
    · exact .inr hb
  · rcases hb with hb | ⟨hb, _⟩
    · exact hb
    · cases hb

/-- Behind a call whose result's rows are handed over. -/
theorem fresh_after (R : Rel mu pr h w) {mu1 : Nm → Nat → Option Loc} {pr1 : Bool → Nat → Prop} {h1 : Hp} {w1 : World} (A : After (fun _ _ => none) (prLent pr w.heap.size) (.mt h.tick) w mu1 pr1 h1 w1) {v : AV} {z : Value} (hv : VR mu1 pr1 w1.heap v z) (hc : Cl v)
    {hs : Nm → Option Row} (hsub : ∀ n r, hs n = some r → h1.rows n = some r ∧ ClRow r) :
    ∃ mu' pr', VR mu' pr' w1.heap v z ∧ AfterB h.tick mu pr h w mu' pr' (h.join hs h1.tick) w1 := by
  let mu' : Nm → Nat → Option Loc := fun n v => if n.1 < h.tick then mu n v else mu1 n v
  let pr' : Bool → Nat → Prop := fun c b => if c then pr true b else pr1 false b
  have htick : h.tick ≤ h1.tick := A.tick
  have hmu1 : ∀ n v l, mu1 n v = some l → mu' n v = some l := by
    intro n v l hl
    show (if n.1 < h.tick then mu n v else mu1 n v) = some l
    split
    · rename_i hn
      have := A.names n hn (fun _ => rfl) v
      rw [hl] at this
      cases this
    · exact hl
  have hmu : ∀ n v l, mu n v = some l → mu' n v = some l := by
    intro n v l hl
    show (if n.1 < h.tick then mu n v else mu1 n v) = some l
    split
    · exact hl
    · rename_i hn
      have := R.fresh n.1 n.2.1 n.2.2 v (by omega)
      rw [show (n.1, n.2.1, n.2.2) = n from rfl, hl] at this
      cases this
  have X : Ext mu pr w.heap mu' pr' w1.heap := by
    refine ⟨hmu, fun c b hb => ?_, fun c b hb => lent_same A (R.lt c b hb), fun b arr ty fr hb => ?_⟩
    · cases c
      · exact A.ext.keep false b hb
      · exact hb
    · exact ⟨arr, fr, by rw [lent_same A (Array.getElem?_eq_some_iff.1 hb).1]; exact hb, rfl⟩
  have hold : ∀ n r, h.rows n = some r → n.1 < h.tick := by
    intro n r hn
    obtain ⟨l, arr, ty, g1, _⟩ := R.row n r hn
    rcases Nat.lt_or_ge n.1 h.tick with hlt | hge
    · exact hlt
    · have := R.fresh n.1 n.2.1 n.2.2 r.ver hge
      rw [show (n.1, n.2.1, n.2.2) = n from rfl, g1] at this
      cases this
  have hnewn : ∀ n r, hs n = some r → ¬ n.1 < h.tick := by
    intro n r hn hlt
    obtain ⟨l, arr, ty, g1, _⟩ := A.rel.row n r (hsub n r hn).1
    have := A.names n hlt (fun _ => rfl) r.ver
    rw [g1] at this
    cases this
  have hpr1 : ∀ k, pr1 false k → pr' false k := fun k hk => hk
  refine ⟨mu', pr', hc.ok hpr1 hmu1 hv, ⟨⟨fun n r hn => ?_, fun n r n' r' l l' hn hn' hl hl' hll => ?_, fun t i j v ht => ?_, fun n r v hn hv => ?_, fun c b hb => ?_, R.tab.ext X⟩, X, A.fr, fun b hb => ?_, fun b hb => hb, fun n hn hf v => ?_, htick⟩⟩
  · simp only [Hp.join] at hn
    split at hn
    · obtain ⟨l, arr, ty, g1, g2, g3, g4, g5, g6⟩ := R.row n r hn
      have hlt := (Array.getElem?_eq_some_iff.1 g3).1
      refine ⟨l, arr, ty, hmu _ _ _ g1, fun c hc => ?_, by rw [lent_same A hlt]; exact g3, g4, g5, g6.mono X⟩
      cases c
      · rcases A.grow l.b hc with h2 | h2
        · exact g2 false h2
        · omega
      · exact g2 true hc
    · obtain ⟨hn1, hcl⟩ := hsub n r hn
      obtain ⟨l, arr, ty, g1, g2, g3, g4, g5, g6⟩ := A.rel.row n r hn1
      have hge := lent_new A hn1 g1
      refine ⟨l, arr, ty, hmu1 _ _ _ g1, fun c hc => ?_, g3, g4, g5, g6.1, fun i e j c he hj => ?_⟩
      · cases c
        · exact g2 false hc
        · have := R.lt true l.b hc; omega
      · obtain ⟨q1, u, q2, q3⟩ := g6.2 i e j c he hj
        exact ⟨q1, u, q2, (hcl i e j c he hj).ok hpr1 hmu1 q3⟩
  · simp only [Hp.join] at hn hn'
    simp only [mu'] at hl hl'
    split at hn <;> rename_i hnlt <;> split at hn' <;> rename_i hnlt'
    · rw [if_pos hnlt] at hl
      rw [if_pos hnlt'] at hl'
      exact R.inj n r n' r' l l' hn hn' hl hl' hll
    · rw [if_pos hnlt] at hl
      rw [if_neg hnlt'] at hl'
      exfalso
      have h2 := lent_new A (hsub n' r' hn').1 hl'
      obtain ⟨k, arr, ty, g1, _, g3, _⟩ := R.row n r hn
      rw [hl] at g1
      cases g1
      have := (Array.getElem?_eq_some_iff.1 g3).1
      omega
    · rw [if_neg hnlt] at hl
      rw [if_pos hnlt'] at hl'
      exfalso
      have h2 := lent_new A (hsub n r hn).1 hl
      obtain ⟨k, arr, ty, g1, _, g3, _⟩ := R.row n' r' hn'
      rw [hl'] at g1
      cases g1
      have := (Array.getElem?_eq_some_iff.1 g3).1
      omega
    · rw [if_neg hnlt] at hl
      rw [if_neg hnlt'] at hl'
      exact A.rel.inj n r n' r' l l' (hsub n r hn).1 (hsub n' r' hn').1 hl hl' hll
  · show (if t < h.tick then mu (t, i, j) v else mu1 (t, i, j) v) = none
    have ht' : h1.tick ≤ t := ht
    rw [if_neg (by omega)]
    exact A.rel.fresh t i j v ht'
  · simp only [Hp.join] at hn
    show (if n.1 < h.tick then mu n v else mu1 n v) = none
    split at hn
    · rename_i hlt
      rw [if_pos hlt]
      exact R.vers n r v hn hv
    · rename_i hlt
      rw [if_neg hlt]
      exact A.rel.vers n r v (hsub n r hn).1 hv
  · cases c
    · exact A.rel.lt false b hb
    · exact Nat.lt_of_lt_of_le (R.lt true b hb) A.fr.size
  · exact A.grow b hb
  · show (if n.1 < h.tick then mu n v else mu1 n v) = none
    rw [if_pos hn]
    exact hf v

end
end Go.Proofs.YtmcmgeedhbgglaaGreatDoor.AM

namespace Go.Proofs.YtmcmgeedhbgglaaGreatDoor.AM
open Go.RowKit

section
variable {P : Program} {M : FuncId → Mode} {mu mu' : Nm → Nat → Option Loc} {pr pr' : Bool → Nat → Prop} {hp hp' : Array Obj} {h h' : Hp} {w w' : World}

/-- A call, over rows that stand for memory. -/
theorem callW_ok {g : FuncId} {args : List AV} {K : AV → Hp → Prop} (hw : callW M (Sound P) g args h K) (R : Rel mu pr h w) {vs : List Value} (hv : VRs mu pr w.heap args vs) :
    (∃ fn, P.funcs[g]? = some fn ∧ fn.body.isNone = false ∧ (fn.name == "runtime.NumGoroutine") = false) ∧
    Calls P g vs.toArray w fun e w' => ∃ z v h' mu' pr', e = .returned z ∧ K v h' ∧ VR mu' pr' w'.heap v z ∧ After mu pr h w mu' pr' h' w' := by
  unfold callW at hw
  split at hw
  · exact ⟨hw.1, hw.2 mu pr w vs R hv⟩
  · rcases hw with hw | hw
    rotate_left
    · obtain ⟨targs, r, h1, ⟨h2, h3⟩, h4⟩ := hw
      refine ⟨h2, (h3 _ _ w vs (Rel.mt P w h.tick _ (prLent_lt R) (prLent_tab R)) (h1.ok R hv)).mono ?_⟩
      rintro e w1 ⟨z, v, hc, mu1, pr1, rfl, hd, hvz, A⟩
      obtain ⟨pr', g1, g2⟩ := tree_after R A hvz hd
      exact ⟨z, r, h, mu, pr', rfl, h4, g1, g2⟩
    obtain ⟨targs, h1, h2, h3⟩ := hw
    refine ⟨h2, (h3 _ _ w vs (Rel.mt P w h.tick _ (prLent_lt R) (prLent_tab R)) (h1.ok R hv)).mono ?_⟩
    rintro e w1 ⟨z, v, hc, mu1, pr1, rfl, hk, hvz, A⟩
    obtain ⟨hs, q1, q2, q3⟩ := hk (fun n r hr => by
      obtain ⟨l, _, _, hl, _⟩ := A.rel.row n r hr
      rcases Nat.lt_or_ge n.1 h.tick with hn | hn
      · have := A.names n hn (fun _ => rfl) r.ver
        rw [hl] at this
        cases this
      · exact hn) A.tick
    obtain ⟨mu', pr', g1, g2⟩ := fresh_after R A hvz q2 q1
    exact ⟨z, v, _, mu', pr', rfl, q3, g1, g2⟩
  · obtain ⟨targs, r, h1, ⟨h2, h3⟩, h4⟩ := hw
    refine ⟨h2, (h3 _ _ w vs (Rel.mt P w h.tick _ (prLent_lt R) (prLent_tab R)) (h1.ok R hv)).mono ?_⟩
    rintro e w1 ⟨z, v, hc, mu1, pr1, rfl, hd, hvz, A⟩
    obtain ⟨pr', g1, g2⟩ := tree_after R A hvz hd
    exact ⟨z, r, h, mu, pr', rfl, h4, g1, g2⟩

/-- What an operation's run gives for 'Oper.wp'. -/
theorem Oper.wp_gives {o : Oper} {a : Act} {nx : Next} {z : Value} {next : Act → World → Prop} {Q : Exit → Act → World → Prop} (hr : (execOp a.eval o).run P w = .ok nx w') (hg : gives nx z) (hn : next (a.put o.dst z) w') : o.wp P a w next Q := by
  unfold Oper.wp
  rw [hr]
  rcases hg with rfl | ⟨rfl, rfl⟩
  · exact hn
  · exact hn

theorem stepW_ok {N : Nat} {n : Nm} {o : Oper} {σ : Nat → AV} {a : Act} {K : AV → Hp → Prop} {next : Act → World → Prop} {Q : Exit → Act → World → Prop} (hw : stepW P M (Sound P) n o σ h K) (E : EnvR mu pr w.heap σ a N) (R : Rel mu pr h w)
    (hfree : ∀ v, mu n v = none) (htick : n.1 < h.tick)
    (hnext : ∀ v z h' mu' pr' w', K v h' → VR mu' pr' w'.heap v z → AfterB n.1 mu pr h w mu' pr' h' w' → (∀ m, m.1 = n.1 → m ≠ n → (∀ v, mu m v = none) → ∀ v, mu' m v = none) → next (a.put o.dst z) w') : o.wp P a w next Q := by
  unfold stepW at hw
  split at hw
  case h_1 v hv =>
    obtain ⟨z, h1, h2⟩ := evQ_ok R E.opd hv
    exact Oper.wp_gives h1 (.inl rfl) (hnext v z h mu pr w hw h2 (.refl _ R) (fun m _ _ hf => hf))
  case h_2 =>
    split at hw
    case h_1 v h1 hv =>
      obtain ⟨mu', z, w', nx, g1, g2, g3, g4, g5⟩ := memA_ok R E.opd hfree htick hv
      exact Oper.wp_gives g1 g2 (hnext v z h1 mu' pr w' hw g3 ⟨g4.rel, g4.ext, g4.fr, g4.grow, g4.tru, fun m hm hf => g5 m (fun e => by rw [e] at hm; omega) hf, g4.tick⟩ (fun m _ hm hf => g5 m hm hf))
    case h_2 =>
      split at hw
      case h_2 => exact hw.elim
      case h_1 f args ts hop =>
        split at hw
        case h_2 => exact hw.elim
        case h_1 g cap hf =>
          have hv := E.opd f
          rw [hf] at hv
          obtain ⟨arr, hfe, hcap⟩ := hv.fn_inv
          have hargs := (VRs.of_map E.opd args.toList).append hcap
          obtain ⟨⟨fn, c1, c2, c3⟩, hcall⟩ := callW_ok hw R hargs
          have hrun : (execOp a.eval o).run P w = .ok (.enter g (args.toList.map a.eval ++ arr.toList).toArray) w := by
            have hm : args.map a.eval ++ arr = (args.toList.map a.eval ++ arr.toList).toArray := by apply Array.ext'; simp
            simp only [execOp, hop, resolve, hfe, Deferred.ofValue, Sem.run_bind, Sem.run_pure, Result.andThen_ok, invoke, callFunc, run_program, c1, c2, c3]
            simp [hm]
          unfold Oper.wp
          rw [hrun, Oper.upon_enter]
          refine hcall.mono ?_
          rintro e w1 ⟨z, v, h1, mu', pr', rfl, hk, hvz, A⟩
          exact hnext v z h1 mu' pr' w1 hk hvz (AfterB.lower (Nat.le_of_lt htick) A) (fun m hm _ hfm => A.names m (by rw [hm]; exact htick) hfm)

theorem Act.put_defers' (a : Act) (dst : Option Tmp) (v : Value) : (a.put dst v).defers = a.defers := by cases dst <;> rfl

theorem wpOps_ok {N : Nat} {all : Array Oper} (hall : ∀ (j : Nat) (o : Oper), all[j]? = some o → dstOk N o.dst = true) {T : Nat} {Q : Exit → Act → World → Prop} :
    ∀ (l : List Oper) (k : Nat) (σ : Nat → AV) (h : Hp) (K : (Nat → AV) → Hp → Prop) (mu : Nm → Nat → Option Loc) (pr : Bool → Nat → Prop) (w : World) (a : Act),
    (∀ j, l[j]? = all[k + j]?) → wpOps P M (Sound P) all T l k σ h K → EnvR mu pr w.heap σ a N → Rel mu pr h w → T < h.tick → (∀ i j v, k ≤ i → mu (T, i, j) v = none) →
    (∀ σ' h' mu' pr' w' a', K σ' h' → EnvR mu' pr' w'.heap σ' a' N → AfterB T mu pr h w mu' pr' h' w' → a'.defers = a.defers → Q .normal a' w') → Go.wpOps P all Q (List.range' k l.length) a w
  | [], k, σ, h, K, mu, pr, w, a, hl, hw, E, R, hT, hf, hQ => hQ σ h mu pr w a hw E (.refl _ R) rfl
  | o :: l, k, σ, h, K, mu, pr, w, a, hl, hw, E, R, hT, hf, hQ => by
    have ho : all[k]? = some o := by have := hl 0; simpa using this.symm
    have hl' : ∀ j, l[j]? = all[k + 1 + j]? := fun j => by rw [show k + 1 + j = k + (j + 1) by omega, ← hl (j + 1)]; rfl
    rw [List.length_cons, List.range'_succ]
    unfold Go.wpOps
    simp only [ho]
    unfold wpOps at hw
    split at hw
    case h_3 => exact hw.elim
    case h_1 hwt =>
      rw [wantedA_ok E hall hwt, if_pos rfl]
      left
      refine stepW_ok hw E R (fun v => hf k 0 v (Nat.le_refl k)) hT (fun v z h' mu' pr' w' hk hv A hfr => ?_)
      refine wpOps_ok hall l (k + 1) _ h' K mu' pr' w' _ hl' hk ((E.mono A.ext).put (hall k o ho) hv) A.rel (Nat.lt_of_lt_of_le hT A.tick) (fun i j v hi => ?_) (fun σ' h'' mu'' pr'' w'' a' hk' E' A' hd => ?_)
      · exact hfr (T, i, j) rfl (fun e => by cases e; omega) (fun v => hf i j v (by omega)) v
      · exact hQ σ' h'' mu'' pr'' w'' a' hk' E' (A.trans A') (hd.trans (Act.put_defers' _ _ _))
    case h_2 hwt =>
      rw [wantedA_ok E hall hwt, if_neg (by simp)]
      refine wpOps_ok hall l (k + 1) _ h K mu pr w _ hl' hw (E.put (hall k o ho) (VR.tup_mk .nil)) R hT (fun i j v hi => hf i j v (by omega)) (fun σ' h'' mu'' pr'' w'' a' hk' E' A' hd => ?_)
      exact hQ σ' h'' mu'' pr'' w'' a' hk' E' A' (hd.trans (Act.put_defers' _ _ _))

theorem Rel.next (R : Rel mu pr h w) : Rel mu pr h.next w := ⟨R.row, R.inj, fun t i j v ht => R.fresh t i j v (by have : h.tick + 1 ≤ t := ht; omega), R.vers, R.lt, R.tab⟩

theorem After.trans {mu'' : Nm → Nat → Option Loc} {pr'' : Bool → Nat → Prop} {h'' : Hp} {w'' : World} (x : After mu pr h w mu' pr' h' w') (y : After mu' pr' h' w' mu'' pr'' h'' w'') : After mu pr h w mu'' pr'' h'' w'' :=
  AfterB.trans x (AfterB.lower x.tick y)

/-! ### Loops -/
/-- From the head of a loop's round on. -/
def LoopWp (P : Program) (c : Code) (Q : Exit → Act → World → Prop) (a : Act) (w : World) : Prop :=
  ∀ (b : Frame) (k : List Item) (cs : List Frame), ∃ e a' w', Q e a' w' ∧ Arrives P (lone (b.at a (.code c :: .inLoop c :: k)) cs w) b k cs e a' w'

theorem LoopWp.wp {c : Code} {Q : Exit → Act → World → Prop} {a : Act} (hl : LoopWp P c Q a w) : (Code.loop c).wp P Q a w := by
  intro b k cs
  obtain ⟨e, a', w', hq, harr⟩ := hl b k cs
  exact ⟨e, a', w', hq, .of_steps (.one step_loop) harr⟩

theorem LoopWp.round {c : Code} {Q : Exit → Act → World → Prop} {a : Act} (hl : c.wp P (Exit.then (LoopWp P c Q) Q) a w) : LoopWp P c Q a w := by
  intro b k cs
  obtain ⟨e, a₁, w₁, hq, harr⟩ := hl b (.inLoop c :: k) cs
  cases e with
  | normal =>
    obtain ⟨e₂, a₂, w₂, hq₂, harr₂⟩ := hq b k cs
    exact ⟨e₂, a₂, w₂, hq₂, .of_steps (Steps.trans harr (.one step_inLoop)) harr₂⟩
  | exit id => exact ⟨_, a₁, w₁, hq, .pass (x := .inLoop c) rfl (fun _ _ => .inl (by simp)) harr⟩
  | goto l => exact ⟨_, a₁, w₁, hq, .pass (x := .inLoop c) rfl (fun _ _ => .inl (by simp)) harr⟩
  | ret => exact ⟨_, a₁, w₁, hq, .pass (x := .inLoop c) rfl (fun _ _ => .inl (by simp)) harr⟩
  | panic ch => exact ⟨_, a₁, w₁, hq, .pass (x := .inLoop c) rfl (fun _ _ => .inl (by simp)) harr⟩
  | outgrown => exact ⟨_, a₁, w₁, hq, .pass (x := .inLoop c) rfl (fun _ _ => .inl (by simp)) harr⟩

def exOf : Ex → Exit
  | .normal => .normal
  | .exit id => .exit id
  | .ret => .ret

/-- What a region that draws its order asks is enough. -/
def DrawOk (P : Program) (D : Array Oper → (Nat → AV) → Hp → ((Nat → AV) → Hp → Prop) → Prop) : Prop :=
  ∀ (id : Nat) (ops : Array Oper) (σ : Nat → AV) (h : Hp) (K : (Nat → AV) → Hp → Prop) (N : Nat), D ops σ h K → (∀ (j : Nat) (o : Oper), ops[j]? = some o → dstOk N o.dst = true) →
  ∀ (mu : Nm → Nat → Option Loc) (pr : Bool → Nat → Prop) (w : World) (a : Act) (Q : Exit → Act → World → Prop), EnvR mu pr w.heap σ a N → Rel mu pr h w →
  (∀ σ' h' mu' pr' w' a', K σ' h' → EnvR mu' pr' w'.heap σ' a' N → After mu pr h w mu' pr' h' w' → a'.defers = a.defers → Q .normal a' w') → (Code.region id ops true).wp P Q a w

theorem wpC_ok {D : Array Oper → (Nat → AV) → Hp → ((Nat → AV) → Hp → Prop) → Prop} (hD : DrawOk P D) {N : Nat} : ∀ (c : Code) (σ : Nat → AV) (h : Hp) (K : Ex → (Nat → AV) → Hp → Prop), wpC P M (Sound P) D c σ h K → codeOk N c = true →
    ∀ (mu : Nm → Nat → Option Loc) (pr : Bool → Nat → Prop) (w : World) (a : Act) (Q : Exit → Act → World → Prop), EnvR mu pr w.heap σ a N → Rel mu pr h w →
    (∀ e σ' h' mu' pr' w' a', K e σ' h' → EnvR mu' pr' w'.heap σ' a' N → After mu pr h w mu' pr' h' w' → a'.defers = a.defers → Q (exOf e) a' w') → c.wp P Q a w := by
  intro c
  induction c with
  | skip => intro σ h K hw _ mu pr w a Q E R hQ; exact wp_skip (hQ .normal σ h mu pr w a hw E (.refl _ R) rfl)
  | exit id => intro σ h K hw _ mu pr w a Q E R hQ; exact wp_exit (hQ (.exit id) σ h mu pr w a hw E (.refl _ R) rfl)
  | ret => intro σ h K hw _ mu pr w a Q E R hQ; exact wp_ret (hQ .ret σ h mu pr w a hw E (.refl _ R) rfl)
  | region id ops d =>
    intro σ h K hw hc mu pr w a Q E R hQ
    have hall : ∀ (j : Nat) (o : Oper), ops[j]? = some o → dstOk N o.dst = true := by
      intro j o ho
      have := List.all_eq_true.1 hc o (by rw [← Array.getElem?_toList] at ho; exact List.mem_of_getElem? ho)
      exact this
    cases d
    · refine wp_region ?_
      have h1 := wpOps_ok (Q := Q) hall ops.toList 0 σ h.next _ mu pr w a (fun j => by simp) hw E R.next (Nat.lt_succ_self _) (fun i j v _ => R.fresh h.tick i j v (Nat.le_refl _)) (fun σ' h' mu' pr' w' a' hk E' A hd =>
        hQ .normal σ' h' mu' pr' w' a' hk E' ⟨A.rel, A.ext, A.fr, A.grow, A.tru, A.names, Nat.le_trans (Nat.le_succ _) A.tick⟩ hd)
      rw [List.range_eq_range']
      simpa using h1
    · exact hD id ops σ h _ N hw hall mu pr w a Q E R (fun σ' h' mu' pr' w' a' hk E' A hd => hQ .normal σ' h' mu' pr' w' a' hk E' A hd)
  | seq x y ihx ihy =>
    intro σ h K hw hc mu pr w a Q E R hQ
    simp only [codeOk, Bool.and_eq_true] at hc
    refine wp_seq (ihx σ h _ hw hc.1 mu pr w a _ E R (fun e σ' h' mu' pr' w' a' hk E' A hd => ?_))
    cases e with
    | normal => exact ihy σ' h' K hk hc.2 mu' pr' w' a' Q E' A.rel (fun e σ'' h'' mu'' pr'' w'' a'' hk' E'' A' hd' => hQ e σ'' h'' mu'' pr'' w'' a'' hk' E'' (A.trans A') (hd'.trans hd))
    | exit id => exact hQ (.exit id) σ' h' mu' pr' w' a' hk E' A hd
    | ret => exact hQ .ret σ' h' mu' pr' w' a' hk E' A hd
  | cond c x y ihx ihy =>
    intro σ h K hw hc mu pr w a Q E R hQ
    simp only [codeOk, Bool.and_eq_true] at hc
    simp only [wpC] at hw
    split at hw
    case h_2 => exact hw.elim
    case h_1 t ht =>
      have hv := E.opd c
      rw [ht] at hv
      generalize hz : a.eval c = z at hv
      cases hv
      refine wp_cond hz ?_
      split at hw
      · rename_i htt
        rw [if_pos htt]
        exact ihx σ h K hw hc.1 mu pr w a Q E R hQ
      · rename_i htt
        rw [if_neg htt]
        exact ihy σ h K hw hc.2 mu pr w a Q E R hQ
  | block id x ihx =>
    intro σ h K hw hc mu pr w a Q E R hQ
    refine wp_block (ihx σ h _ hw hc mu pr w a _ E R (fun e σ' h' mu' pr' w' a' hk E' A hd => ?_))
    cases e with
    | normal => exact hQ .normal σ' h' mu' pr' w' a' hk E' A hd
    | exit j =>
      simp only [exOf, Exit.inBlock]
      simp only at hk
      split at hk
      · rename_i hj
        rw [if_pos hj]
        exact hQ .normal σ' h' mu' pr' w' a' hk E' A hd
      · rename_i hj
        rw [if_neg hj]
        exact hQ (.exit j) σ' h' mu' pr' w' a' hk E' A hd
    | ret => exact hQ .ret σ' h' mu' pr' w' a' hk E' A hd
  | loop x ihx =>
    intro σ h K hw hc mu pr w a Q E R hQ
    have key := hw (fun σ h => ∀ (mu : Nm → Nat → Option Loc) (pr : Bool → Nat → Prop) (w : World) (a : Act) (Q : Exit → Act → World → Prop), EnvR mu pr w.heap σ a N → Rel mu pr h w →
      (∀ e σ' h' mu' pr' w' a', K e σ' h' → EnvR mu' pr' w'.heap σ' a' N → After mu pr h w mu' pr' h' w' → a'.defers = a.defers → Q (exOf e) a' w') → LoopWp P x Q a w) (by
      intro σ h hb mu pr w a Q E R hQ
      refine LoopWp.round (ihx σ h _ hb hc mu pr w a _ E R (fun e σ' h' mu' pr' w' a' hk E' A hd => ?_))
      cases e with
      | normal => exact hk mu' pr' w' a' Q E' A.rel (fun e σ'' h'' mu'' pr'' w'' a'' hk' E'' A' hd' => hQ e σ'' h'' mu'' pr'' w'' a'' hk' E'' (A.trans A') (hd'.trans hd))
      | exit id => exact hQ (.exit id) σ' h' mu' pr' w' a' hk E' A hd
      | ret => exact hQ .ret σ' h' mu' pr' w' a' hk E' A hd)
    exact (key mu pr w a Q E R hQ).wp
  | _ => intro σ h K hw; exact hw.elim

/-! ### Functions -/
theorem resA_ok {σ : Nat → AV} {a : Act} {N : Nat} (E : EnvR mu pr w.heap σ a N) (R : Rel mu pr h w) : ∀ (rs : List ResultVar) (vs : List AV), resA P h σ rs = some vs →
    ∃ us, (rs.mapM fun (r : ResultVar) => match r with
      | .tmp t => (pure (a.tmps.getD t undef) : Sem Value)
      | .cell c t => do loadVar t (← asAddr (a.tmps.getD c undef))).run P w = .ok us w ∧ VRs mu pr w.heap vs us
  | [], vs, hr => by
    simp [resA] at hr
    subst hr
    exact ⟨[], by simp, .nil⟩
  | .tmp t :: rs, vs, hr => by
    simp only [resA] at hr
    split at hr
    case h_2 => cases hr
    case h_1 vs' hr' =>
      simp only [Option.some.injEq] at hr
      subst hr
      obtain ⟨us, h1, h2⟩ := resA_ok E R rs vs' hr'
      exact ⟨_ :: us, by simp only [List.mapM_cons, Sem.run_bind, Sem.run_pure, Result.andThen_ok, h1], .cons (E.2 t) h2⟩
  | .cell c t :: rs, vs, hr => by
    simp only [resA] at hr
    split at hr
    case h_2 => cases hr
    case h_1 v vs' hv hr' =>
      simp only [Option.some.injEq] at hr
      subst hr
      obtain ⟨us, h1, h2⟩ := resA_ok E R rs vs' hr'
      obtain ⟨u, h3, h4⟩ := loadA_ok R (E.2 c) hv
      refine ⟨u :: us, ?_, .cons h4 h2⟩
      have h5 : (do loadVar t (← asAddr (a.tmps.getD c undef)) : Sem Value).run P w = .ok u w := by
        have h6 := h3
        simp only [Instr.loadAt, Sem.run_bind] at h6 ⊢
        generalize a.tmps.getD c undef = x at h6 ⊢
        cases x with
        | pointer ad =>
          cases ad with
          | none => simp [Instr.sureAddr] at h6
          | some ad => simpa [Instr.sureAddr, asAddr] using h6
        | _ => simp [Instr.sureAddr] at h6
      simp only [List.mapM_cons, Sem.run_bind] at h5 ⊢
      rw [h5]
      simp only [Result.andThen_ok, Sem.run_bind, h1, Sem.run_pure]

theorem resV_ok {vs : List AV} {us : List Value} (hv : VRs mu pr hp vs us) : VR mu pr hp (resV vs) (if h : us.toArray.size = 1 then us.toArray[0] else .tuple us.toArray) := by
  unfold resV
  split
  · rename_i v
    obtain ⟨u, us', rfl, h1, h2⟩ := hv.cons_inv
    have := h2.nil_inv
    subst this
    simpa using h1
  · rename_i hne
    have hl : us.length ≠ 1 := by
      rw [hv.1]
      intro he
      match vs, he, hne with
      | [v], _, hne => exact hne v rfl
    simp only [List.size_toArray, hl, dif_neg, not_false_eq_true]
    exact VR.tup_mk hv

theorem wpF_ok {D : Array Oper → (Nat → AV) → Hp → ((Nat → AV) → Hp → Prop) → Prop} (hD : DrawOk P D) {f : FuncId} {args : List AV} {K : AV → Hp → Prop} (hw : wpF P M (Sound P) D f args h K) : Sound P f args h K := by
  obtain ⟨fn, c, h1, h2, h3, h4, h5⟩ := hw
  simp only [Bool.and_eq_true, Bool.not_eq_true'] at h3
  refine ⟨⟨fn, h1, by rw [h2]; rfl, h3.2⟩, fun mu pr w vs R hv => ?_⟩
  refine calls_of_wp h1 h2 ?_
  have hl : vs.length ≤ fn.ntmps := by rw [hv.1]; exact h4
  have E : EnvR mu pr w.heap (fun i => args.getD i (.tup [])) { tmps := vs.toArray ++ Array.replicate (fn.ntmps - vs.toArray.size) undef, defers := [] } fn.ntmps := by
    refine ⟨by simp; omega, fun t => ?_⟩
    by_cases ht : t < vs.length
    · obtain ⟨u, hu, hr⟩ := hv.2 t (args[t]'(by rw [← hv.1]; exact ht)) (by simp)
      have e1 : (vs.toArray ++ Array.replicate (fn.ntmps - vs.toArray.size) undef).getD t undef = u := by
        rw [Array.getD_eq_getD_getElem?, Array.getElem?_append_left (by simpa using ht)]
        simp [hu]
      have e2 : args.getD t (.tup []) = args[t]'(by rw [← hv.1]; exact ht) := by simp [List.getD, List.getElem?_eq_getElem (by rw [← hv.1]; exact ht : t < args.length)]
      show VR mu pr w.heap (args.getD t (.tup [])) _
      rw [e1, e2]
      exact hr
    · have e2 : args.getD t (.tup []) = .tup [] := by simp [List.getD, List.getElem?_eq_none (by rw [← hv.1]; omega : args.length ≤ t)]
      have e1 : (vs.toArray ++ Array.replicate (fn.ntmps - vs.toArray.size) undef).getD t undef = undef := by
        rw [Array.getD_eq_getD_getElem?, Array.getElem?_append_right (by simpa using ht), Array.getElem?_replicate]
        split <;> rfl
      show VR mu pr w.heap (args.getD t (.tup [])) _
      rw [e1, e2]
      exact VR.tup_mk .nil
  refine wpC_ok hD c _ h _ h5 h3.1 mu pr w _ _ E R (fun e σ' h' mu' pr' w' a' hk E' A hd => ?_)
  have fin : resW P fn h' σ' K → a'.defers = [] ∧ ∃ v, (results fn a'.tmps).run P w' = .ok v w' ∧ ∃ z v' h'' mu'' pr'', Ending.returned v = .returned z ∧ K v' h'' ∧ VR mu'' pr'' w'.heap v' z ∧ After mu pr h w mu'' pr'' h'' w' := by
    intro hr
    refine ⟨hd, ?_⟩
    unfold resW at hr
    split at hr
    case h_2 => exact hr.elim
    case h_1 vs' hvs =>
      obtain ⟨us, g1, g2⟩ := resA_ok E' A.rel fn.results.toList vs' hvs
      refine ⟨_, ?_, _, _, h', mu', pr', rfl, hr, resV_ok g2, A⟩
      have g3 : (fn.results.mapM fun (r : ResultVar) => match r with
        | .tmp t => (pure (a'.tmps.getD t undef) : Sem Value)
        | .cell c t => do loadVar t (← asAddr (a'.tmps.getD c undef))).run P w' = .ok us.toArray w' := by
        rw [Array.mapM_eq_mapM_toList, Sem.run_map, g1]
        rfl
      unfold results
      rw [Sem.run_bind]
      erw [g3]
      rfl
  cases e with
  | normal => exact fin hk
  | exit id => exact hk.elim
  | ret => exact fin hk

end
end Go.Proofs.YtmcmgeedhbgglaaGreatDoor.AM

namespace Go.Proofs.YtmcmgeedhbgglaaGreatDoor.AM
open Go.RowKit

/-- The rows that a quiet operation of such a region may read: those that nothing in the region writes. -/
def maskR (T : Nat) (W : Nm → Bool) (rows : Nm → Option Row) : Nm → Option Row := fun n => if n.1 = T ∨ W n = true then none else rows n

def isNew : Op → Bool
  | .alloc _ | .box .. | .buildSlice .. | .makeSlice .. => true
  | _ => false
def isApp : Op → Bool
  | .call ⟨.builtin .append, _, _⟩ => true
  | _ => false

/-- A new row, whatever else there is. -/
def newA (P : Program) (n : Nm) (ρ : Operand → AV) (op : Op) : Option (AV × Row) :=
  if isNew op then match memA P n ρ (.mt (n.1 + 1)) op with
    | some (v, h') => match h'.rows n with
      | some r => some (v, r)
      | none => none
    | none => none
  else none

def befB (B : Array Nat) (i j : Nat) : Bool := (B.getD i 0).testBit j

/-- The region's static part: 'f' operations in whatever order, then the others, each behind all. -/
def drawOk (ops : Array Oper) (f : Nat) : Bool :=
  decide (f ≤ ops.size) && (List.range ops.size).all fun i => match ops[i]? with
    | none => true
    | some o => decide ((Region.before ops).getD i 0 < 2 ^ i) && (o.after.toList.all fun e => !Region.binds .any e || decide (e.on < i)) && (match o.op with | .select .. => false | _ => true) &&
      ((List.range i).all fun j => match ops[j]? with
        | none => true
        | some o' => (!befB (Region.before ops) i j || o.after.toList.any fun e => Region.binds .any e && (e.on == j || befB (Region.before ops) e.on j)) &&
          (o.apart ops o' || befB (Region.before ops) i j) && (decide (i < f) || befB (Region.before ops) i j) && (!(isApp o.op && isApp o'.op) || befB (Region.before ops) i j))

def appNames (B : Array Nat) (T i : Nat) (W : Nm → Bool) (d x : AV) : Prop :=
  (match d with
    | .sl m _ _ _ => if m.1 = T then befB B i m.2.1 = true ∧ m.2.2 = 0 else W m = true
    | _ => True) ∧
  (match x with
    | .sl m _ _ _ => if m.1 = T then befB B i m.2.1 = true ∧ m.2.2 = 0 else True
    | _ => True)

def frontW (P : Program) (M : FuncId → Mode) (C : CS) (all : Array Oper) (T : Nat) (W : Nm → Bool) (rows0 : Nm → Option Row) : List Oper → Nat → (Nat → AV) → Hp → ((Nat → AV) → Hp → Prop) → Prop
  | [], _, σ, h, K => K σ h
  | o :: rest, i, σ, h, K => match wantedA all σ o with
    | none => False
    | some false => frontW P M C all T W rows0 rest (i + 1) (putA o.dst (.tup []) σ) h K
    | some true => match evQ P (opd σ) (maskR T W rows0) o.op with
      | some v => frontW P M C all T W rows0 rest (i + 1) (putA o.dst v σ) h K
      | none => match newA P (T, i, 0) (opd σ) o.op with
        | some (v, r) => frontW P M C all T W rows0 rest (i + 1) (putA o.dst v σ) (h.put (T, i, 0) r) K
        | none => match o.op with
          | .call ⟨.builtin .append, ⟨[s, x]⟩, ⟨[t, t']⟩⟩ => if t = t' then match appendA P t (opd σ s) (opd σ x) h (T, i, 0) with
              | some (v, h') => appNames (Region.before all) T i W (opd σ s) (opd σ x) ∧ frontW P M C all T W rows0 rest (i + 1) (putA o.dst v σ) h' K
              | none => False
            else False
          | .call ⟨.value f, args, _⟩ => match opd σ f with
            | .fn g cap => treeW C g (maskR T W rows0) (args.toList.map (opd σ) ++ cap) (T + 1) (fun v => frontW P M C all T W rows0 rest (i + 1) (putA o.dst v σ) h K)
            | _ => False
          | _ => False

/-- What is asked of a region that draws its order. -/
def drawW (P : Program) (M : FuncId → Mode) (C : CS) (ops : Array Oper) (σ : Nat → AV) (h : Hp) (K : (Nat → AV) → Hp → Prop) : Prop :=
  ∃ (f : Nat) (W : Nm → Bool), drawOk ops f = true ∧
    frontW P M C ops h.tick W h.rows (ops.toList.take f) 0 σ h.next (fun σ' h' => wpOps P M C ops h.tick (ops.toList.drop f) f σ' h' K)

/-! ### More of the same -/
section
variable {P : Program} {M : FuncId → Mode} {C C' : CS}

theorem frontW_mono (hC : CS.le C C') {all : Array Oper} {T : Nat} {W : Nm → Bool} {rows0 : Nm → Option Row} : ∀ (l : List Oper) (i : Nat) (σ : Nat → AV) (h : Hp) (K K' : (Nat → AV) → Hp → Prop), (∀ σ' h', K σ' h' → K' σ' h') →
    frontW P M C all T W rows0 l i σ h K → frontW P M C' all T W rows0 l i σ h K'
  | [], _, _, _, _, _, hK, h => hK _ _ h
  | o :: l, i, σ, h, K, K', hK, hw => by
    unfold frontW at *
    split at hw
    · exact hw.elim
    · exact frontW_mono hC l _ _ _ _ _ hK hw
    · split at hw
      · exact frontW_mono hC l _ _ _ _ _ hK hw
      · split at hw
        · exact frontW_mono hC l _ _ _ _ _ hK hw
        · split at hw
          · split at hw
            · rename_i ht
              rw [if_pos ht]
              split at hw
              · exact ⟨hw.1, frontW_mono hC l _ _ _ _ _ hK hw.2⟩
              · exact hw.elim
            · exact hw.elim
          · split at hw
            · exact treeW_mono hC (fun v hv => frontW_mono hC l _ _ _ _ _ hK hv) hw
            · exact hw.elim
          · exact hw.elim

theorem drawW_mono (hC : CS.le C C') : Dle (drawW P M C) (drawW P M C') := by
  rintro ops σ h K K' hK ⟨f, W, h1, h2⟩
  exact ⟨f, W, h1, frontW_mono hC _ _ _ _ _ _ (fun σ' h' hr => wpOps_mono hC _ _ _ _ _ _ hK hr) h2⟩
end

/-! ### What operations look at -/
section
variable {P : Program}

theorem pairs_congr {ρ ρ' : Operand → AV} {parts : Array (Nat × Operand)} (h : ∀ x ∈ (parts.toList.map (·.2)), ρ x = ρ' x) : (parts.toList.map fun p => (p.1, ρ p.2)) = parts.toList.map fun p => (p.1, ρ' p.2) :=
  List.map_congr_left fun p hp => by rw [h p.2 (List.mem_map.2 ⟨p, hp, rfl⟩)]

theorem evQ_congr {ρ ρ' : Operand → AV} {rows : Nm → Option Row} (op : Op) (h : ∀ x ∈ op.operands, ρ x = ρ' x) : evQ P ρ rows op = evQ P ρ' rows op := by
  cases op <;> simp only [Op.operands] at h <;> try (simp only [evQ]; done)
  case slice t x lo hi mx =>
    have e1 : lo.map ρ = lo.map ρ' := by cases lo <;> simp_all
    have e2 : hi.map ρ = hi.map ρ' := by cases hi <;> cases lo <;> simp_all
    have e3 : mx.map ρ = mx.map ρ' := by cases mx <;> cases hi <;> cases lo <;> simp_all
    simp only [evQ, e1, e2, e3, h x (by simp)]
  case build t parts => simp only [evQ, pairs_congr fun x hx => h x (by simpa using hx)]
  case makeFunc fn first captured =>
    have : captured.toList.map ρ = captured.toList.map ρ' := List.map_congr_left fun x hx => h x (by simp; right; simpa using hx)
    unfold evQ
    split <;> simp_all
  case call c =>
    have hargs : ∀ x ∈ c.args.toList, ρ x = ρ' x := fun x hx => h x (by simp [Call.operands]; right; simpa using hx)
    unfold evQ
    split <;> simp_all
  all_goals (simp only [evQ]; simp_all)

theorem wantedA_congr {all : Array Oper} {σ σ' : Nat → AV} {o : Oper} (h : ∀ t ∈ o.looksAt all, σ t = σ' t) : wantedA all σ o = wantedA all σ' o := by
  unfold wantedA
  cases hg : o.guard with
  | none => rfl
  | some jw =>
    obtain ⟨j, want⟩ := jw
    simp only
    cases hj : all[j]? with
    | none => rfl
    | some o' =>
      simp only
      cases hd : o'.dst with
      | none => rfl
      | some d =>
        have := h d (by simp [Oper.looksAt, hg, hj, hd])
        simp only [this]

theorem opd_congr {all : Array Oper} {σ σ' : Nat → AV} {o : Oper} (h : ∀ t ∈ o.looksAt all, σ t = σ' t) : ∀ x ∈ o.op.operands, opd σ x = opd σ' x := by
  intro x hx
  cases x with
  | tmp t => exact h t (by simp only [Oper.looksAt, List.mem_append, List.mem_filterMap]; exact .inl ⟨_, by simpa using hx, rfl⟩)
  | _ => rfl

theorem memA_new {n : Nm} {ρ : Operand → AV} {op : Op} {v : AV} {r : Row} (he : newA P n ρ op = some (v, r)) (h : Hp) : memA P n ρ h op = some (v, h.put n r) := by
  unfold newA at he
  split at he
  case isFalse => cases he
  case isTrue hn =>
    split at he
    case h_2 => cases he
    case h_1 v' h' hm =>
      split at he
      case h_2 => cases he
      case h_1 r' hr =>
        simp only [Option.some.injEq, Prod.mk.injEq] at he
        obtain ⟨rfl, rfl⟩ := he
        have key : ∀ {X : Row} {y : AV} {hx : Hp}, hx = (Hp.mt (n.1 + 1)).put n X → hx.rows n = some r' → X = r' := by
          intro X y hx e1 e2
          rw [e1, Hp.put_rows, if_pos rfl] at e2
          exact Option.some.inj e2
        cases op <;> simp [isNew] at hn
        case alloc t =>
          simp only [memA, allocA] at hm ⊢
          (repeat' split at hm) <;> first | (cases hm; done) | skip
          rename_i ho
          simp only [Option.some.injEq, Prod.mk.injEq] at hm
          obtain ⟨rfl, rfl⟩ := hm
          rw [if_pos ho, key (y := .undef) rfl hr]
        case box t x =>
          simp only [memA, boxA] at hm ⊢
          (repeat' split at hm) <;> first | (cases hm; done) | skip
          rename_i ho
          simp only [Option.some.injEq, Prod.mk.injEq] at hm
          obtain ⟨rfl, rfl⟩ := hm
          rw [if_pos ho, key (y := .undef) rfl hr]
        case buildSlice t len parts =>
          simp only [memA, buildSliceA] at hm ⊢
          (repeat' split at hm) <;> first | (cases hm; done) | skip
          rename_i ho
          simp only [Option.some.injEq, Prod.mk.injEq] at hm
          obtain ⟨rfl, rfl⟩ := hm
          rw [if_pos ho, key (y := .undef) rfl hr]
        case makeSlice t l c =>
          simp only [memA, makeSliceA] at hm ⊢
          (repeat' split at hm) <;> first | (cases hm; done) | skip
          rename_i ho
          simp only [Option.some.injEq, Prod.mk.injEq] at hm
          obtain ⟨rfl, rfl⟩ := hm
          rw [if_pos ho, key (y := .undef) rfl hr]

/-! ### Reading a greater heap -/
theorem readCells_mono {rows rows' : Nm → Option Row} (hr : ∀ n r, rows n = some r → rows' n = some r) {p : AV} {n : Nat} {cs : List AV} (h : readCells rows p n = some cs) : readCells rows' p n = some cs := by
  cases p <;> simp only [readCells] at h ⊢ <;> try exact h
  split at h
  case h_2 => cases h
  case h_1 r hrow => rw [hr _ _ hrow]; exact h

theorem srcElems_mono {rows rows' : Nm → Option Row} (hr : ∀ n r, rows n = some r → rows' n = some r) {x : AV} {es : List (List AV)} (h : srcElems rows x = some es) : srcElems rows' x = some es := by
  cases x <;> simp only [srcElems] at h ⊢ <;> try exact h
  split at h
  case h_2 => cases h
  case h_1 r hrow => rw [hr _ _ hrow]; exact h
theorem bstrA_mono {rows rows' : Nm → Option Row} (hr : ∀ n r, rows n = some r → rows' n = some r) {s d : TypeId} {x v : AV} (h : bstrA P rows s d x = some v) : bstrA P rows' s d x = some v := by
  unfold bstrA at h ⊢
  split at h
  case h_2 => cases h
  case h_1 e h1 h2 =>
    try simp only [h1, h2]
    split at h
    case h_2 => cases h
    case h_1 h3 =>
      try simp only [h3]
      split at h
      case h_2 => cases h
      case h_1 es h4 => rw [srcElems_mono hr h4]; exact h
theorem sliceA_mono {rows rows' : Nm → Option Row} (hr : ∀ n r, rows n = some r → rows' n = some r) {t : TypeId} {x v : AV} {lo hi : Option AV} {mx : Bool} (h : sliceA P rows t x lo hi mx = some v) : sliceA P rows' t x lo hi mx = some v := by
  unfold sliceA at h ⊢
  split at h
  case isTrue => cases h
  case isFalse hm =>
    rw [if_neg hm]
    split at h
    case h_5 => cases h
    case h_1 => exact h
    case h_2 => exact h
    case h_3 => exact h
    case h_4 =>
      split at h
      case h_2 => cases h
      case h_1 s l hh r hs hl hhi hrow =>
        simp only [hs, hl, hhi, hr _ _ hrow]
        exact h
theorem evQ_mono {ρ : Operand → AV} {rows rows' : Nm → Option Row} (hr : ∀ n r, rows n = some r → rows' n = some r) {op : Op} {v : AV} (h : evQ P ρ rows op = some v) : evQ P ρ rows' op = some v := by
  cases op <;> try (simp only [evQ] at h ⊢; exact h)
  case convert s d x =>
    simp only [evQ] at h ⊢
    split at h
    case h_1 v' hv => (try simp only [hv]); exact h
    case h_2 hv => (try simp only [hv]); exact bstrA_mono hr h
  case load t a =>
    simp only [evQ, loadA] at h ⊢
    split at h
    case h_3 => cases h
    case h_1 n hn =>
      simp only [Option.map_eq_some_iff] at h ⊢
      obtain ⟨cs, h1, h2⟩ := h
      exact ⟨cs, readCells_mono hr h1, h2⟩
    case h_2 n hn =>
      split at h
      case h_2 => cases h
      case h_1 c hc => rw [readCells_mono hr hc]; exact h
  case indexAddr t x i =>
    simp only [evQ, iaddrA] at h ⊢
    split at h
    case h_2 => cases h
    case h_1 e he =>
      split at h
      case h_2 => cases h
      case h_1 s hs =>
        split at h
        case h_3 => cases h
        case h_1 => exact h
        case h_2 n v' off len kk k =>
          split at h
          case isFalse => cases h
          case isTrue hk =>
            rw [if_pos hk]
            split at h
            case h_2 => cases h
            case h_1 r hrow => rw [hr _ _ hrow]; exact h
  case slice t x lo hi mx =>
    simp only [evQ] at h ⊢
    cases mx with
    | none => exact sliceA_mono hr h
    | some m =>
      cases lo with
      | none => simp [sliceX] at h
      | some l =>
        cases hi with
        | none => simp [sliceX] at h
        | some h' => exact sliceM_mono hr h
  case makeFunc fn first captured =>
    unfold evQ at h ⊢
    split at h <;> simp_all
  case call c =>
    unfold evQ at h ⊢
    split at h <;> simp_all

end
end Go.Proofs.YtmcmgeedhbgglaaGreatDoor.AM

namespace Go.Proofs.YtmcmgeedhbgglaaGreatDoor.AM
open Go.RowKit

/-! ### The static part -/
section
variable {ops : Array Oper} {f : Nat}

structure DrawS (ops : Array Oper) (f : Nat) : Prop where
  size : f ≤ ops.size
  bits : ∀ (i j : Nat) (o : Oper), ops[i]? = some o → befB (Region.before ops) i j = true → j < i
  edge : ∀ (i : Nat) (o : Oper), ops[i]? = some o → ∀ e ∈ o.after, Region.binds .any e = true → e.on < i
  clos : ∀ (i j : Nat) (o o' : Oper), ops[i]? = some o → ops[j]? = some o' → j < i → befB (Region.before ops) i j = true → ∃ e ∈ o.after, Region.binds .any e = true ∧ (e.on = j ∨ befB (Region.before ops) e.on j = true)
  apart : ∀ (i j : Nat) (o o' : Oper), ops[i]? = some o → ops[j]? = some o' → j < i → o.apart ops o' = true ∨ befB (Region.before ops) i j = true
  tail : ∀ (i j : Nat) (o o' : Oper), ops[i]? = some o → ops[j]? = some o' → j < i → f ≤ i → befB (Region.before ops) i j = true
  app : ∀ (i j : Nat) (o o' : Oper), ops[i]? = some o → ops[j]? = some o' → j < i → isApp o.op = true → isApp o'.op = true → befB (Region.before ops) i j = true

theorem drawS_of (h : drawOk ops f = true) : DrawS ops f := by
  simp only [drawOk, Bool.and_eq_true, decide_eq_true_eq] at h
  have key : ∀ (i : Nat) (o : Oper), ops[i]? = some o → _ := fun i o ho => by
    have h1 := List.all_eq_true.1 h.2 i (List.mem_range.2 (Array.getElem?_eq_some_iff.1 ho).1)
    rw [ho] at h1
    simp only [Bool.and_eq_true, decide_eq_true_eq] at h1
    exact h1
  have key2 : ∀ (i j : Nat) (o o' : Oper), ops[i]? = some o → ops[j]? = some o' → j < i → _ := fun i j o o' ho ho' hj => by
    have h2 := List.all_eq_true.1 (key i o ho).2 j (List.mem_range.2 hj)
    rw [ho'] at h2
    simp only [Bool.and_eq_true] at h2
    exact h2
  refine ⟨h.1, fun i j o ho hb => ?_, fun i o ho e he hb => ?_, fun i j o o' ho ho' hj hb => ?_, fun i j o o' ho ho' hj => ?_, fun i j o o' ho ho' hj hf => ?_, fun i j o o' ho ho' hj h1 h2 => ?_⟩
  · rcases Nat.lt_or_ge j i with h1 | h1
    · exact h1
    · have h2 := (key i o ho).1.1.1
      have h3 := Nat.testBit_lt_two_pow (Nat.lt_of_lt_of_le h2 (Nat.pow_le_pow_right (by decide) h1))
      unfold befB at hb
      rw [h3] at hb
      cases hb
  · have := List.all_eq_true.1 (key i o ho).1.1.2 e (by simpa using he)
    simpa [hb] using this
  · have := (key2 i j o o' ho ho' hj).1.1.1
    rw [hb] at this
    simp only [Bool.not_true, Bool.false_or, List.any_eq_true, Bool.and_eq_true, Bool.or_eq_true, beq_iff_eq] at this
    obtain ⟨e, he, hb1, hb2⟩ := this
    exact ⟨e, by simpa using he, hb1, hb2⟩
  · have := (key2 i j o o' ho ho' hj).1.1.2
    simpa using this
  · have := (key2 i j o o' ho ho' hj).1.2
    simpa [Nat.not_lt.2 hf] using this
  · have := (key2 i j o o' ho ho' hj).2
    simpa [h1, h2] using this

/-- What is listed has all that it hangs on listed. -/
def Closed (ops : Array Oper) (L : Nat → Bool) : Prop := ∀ (i : Nat) (o : Oper), ops[i]? = some o → L i = true → ∀ e ∈ o.after, Region.binds .any e = true → L e.on = true

theorem DrawS.get (S : DrawS ops f) {i : Nat} {o : Oper} (ho : ops[i]? = some o) {j : Nat} (hj : j < i) : ∃ o', ops[j]? = some o' :=
  ⟨ops[j]'(Nat.lt_trans hj (Array.getElem?_eq_some_iff.1 ho).1), by simp⟩

theorem DrawS.listed (S : DrawS ops f) {L : Nat → Bool} (hc : Closed ops L) : ∀ (i : Nat) (o : Oper), ops[i]? = some o → (∀ e ∈ o.after, Region.binds .any e = true → L e.on = true) → ∀ j, befB (Region.before ops) i j = true → L j = true := by
  intro i
  induction i using Nat.strongRecOn with
  | _ i ih =>
    intro o ho hl j hb
    have hj := S.bits i j o ho hb
    obtain ⟨o', ho'⟩ := S.get ho hj
    obtain ⟨e, he, hbi, h1⟩ := S.clos i j o o' ho ho' hj hb
    have hon := S.edge i o ho e he hbi
    have hle := hl e he hbi
    rcases h1 with rfl | h2
    · exact hle
    · obtain ⟨oe, hoe⟩ := S.get ho hon
      exact ih e.on hon oe hoe (hc e.on oe hoe hle) j h2

end

/-! ### Last writers -/
section
variable {K V : Type} [DecidableEq K]

def upd (u : Option (K × V)) (b : K → V) : K → V :=
  match u with
  | some (k, v) => fun x => if x = k then v else b x
  | none => b

def lw (wr : Nat → Option (K × V)) (L : Nat → Bool) : Nat → (K → V) → K → V
  | 0, b => b
  | n + 1, b => if L n = true then upd (wr n) (lw wr L n b) else lw wr L n b

def hits (u : Option (K × V)) (x : K) : Prop := ∃ v, u = some (x, v)

theorem upd_miss {u : Option (K × V)} {b : K → V} {x : K} (h : ¬ hits u x) : upd u b x = b x := by
  cases u with
  | none => rfl
  | some p =>
    obtain ⟨k, v⟩ := p
    simp only [upd]
    rw [if_neg]
    rintro rfl
    exact h ⟨v, rfl⟩

theorem lw_congr {wr wr' : Nat → Option (K × V)} {L L' : Nat → Bool} {b : K → V} : ∀ n, (∀ j, j < n → wr j = wr' j ∧ L j = L' j) → lw wr L n b = lw wr' L' n b
  | 0, _ => rfl
  | n + 1, h => by
    simp only [lw]
    rw [(h n (Nat.lt_succ_self n)).1, (h n (Nat.lt_succ_self n)).2, lw_congr n fun j hj => h j (Nat.lt_succ_of_lt hj)]

theorem lw_none {wr : Nat → Option (K × V)} {L : Nat → Bool} {b : K → V} {x : K} : ∀ n, (∀ j, j < n → ¬ hits (wr j) x) → lw wr L n b x = b x
  | 0, _ => rfl
  | n + 1, h => by
    simp only [lw]
    split
    · rw [upd_miss (h n (Nat.lt_succ_self n))]; exact lw_none n fun j hj => h j (Nat.lt_succ_of_lt hj)
    · exact lw_none n fun j hj => h j (Nat.lt_succ_of_lt hj)

theorem lw_all {wr : Nat → Option (K × V)} {L : Nat → Bool} {b : K → V} {x : K} : ∀ n, (∀ j, j < n → hits (wr j) x → L j = true) → lw wr L n b x = lw wr (fun _ => true) n b x
  | 0, _ => rfl
  | n + 1, h => by
    have ih := lw_all (b := b) n fun j hj => h j (Nat.lt_succ_of_lt hj)
    simp only [lw, if_true]
    by_cases hh : hits (wr n) x
    · rw [if_pos (h n (Nat.lt_succ_self n) hh)]
      obtain ⟨v, hv⟩ := hh
      simp [upd, hv]
    · rw [upd_miss hh]
      split
      · rw [upd_miss hh]; exact ih
      · exact ih

theorem lw_same {wr : Nat → Option (K × V)} {L : Nat → Bool} {b : K → V} {x : K} {i : Nat} (h1 : ∀ j, j < i → hits (wr j) x → L j = true) : ∀ n, i ≤ n → (∀ j, i ≤ j → j < n → hits (wr j) x → L j = false) → lw wr L n b x = lw wr (fun _ => true) i b x
  | 0, hn, _ => by
    obtain rfl : i = 0 := by omega
    rfl
  | n + 1, hn, h => by
    rcases Nat.lt_or_ge n i with hlt | hge
    · obtain rfl : i = n + 1 := by omega
      exact lw_all _ h1
    · have ih := lw_same (b := b) h1 n hge fun j a c => h j a (Nat.lt_succ_of_lt c)
      simp only [lw]
      split
      · rename_i hl
        rw [upd_miss fun hh => by rw [h n hge (Nat.lt_succ_self n) hh] at hl; cases hl]; exact ih
      · exact ih

theorem lw_set {wr : Nat → Option (K × V)} {L : Nat → Bool} {b : K → V} {i : Nat} (hi : L i = false) (h : ∀ j x, i < j → L j = true → hits (wr j) x → ¬ hits (wr i) x) : ∀ n, i < n → lw wr (fun j => L j || j == i) n b = upd (wr i) (lw wr L n b)
  | 0, hn => by omega
  | n + 1, hn => by
    rcases Nat.lt_or_ge i n with hlt | hge
    · have ih := lw_set (b := b) hi h n hlt
      have hne : (n == i) = false := by simp; omega
      simp only [lw, hne, Bool.or_false]
      split
      · rename_i hl
        funext x
        by_cases hh : hits (wr n) x
        · have h2 := h n x hlt hl hh
          rw [upd_miss h2]
          obtain ⟨v, hv⟩ := hh
          simp [upd, hv]
        · rw [upd_miss hh, ih]
          by_cases h3 : hits (wr i) x
          · obtain ⟨v, hv⟩ := h3
            simp [upd, hv]
          · rw [upd_miss h3, upd_miss h3, upd_miss hh]
      · exact ih
    · obtain rfl : i = n := by omega
      simp only [lw, hi, beq_self_eq_true, Bool.or_true, if_true]
      have : lw wr (fun j => L j || j == i) i b = lw wr L i b := by
        refine lw_congr i fun j hj => ⟨rfl, ?_⟩
        have : (j == i) = false := by simp; omega
        rw [this, Bool.or_false]
      rw [this, if_neg (by simp)]
end

/-! ### How many there are yet -/
def cnt (L : Nat → Bool) : Nat → Nat
  | 0 => 0
  | n + 1 => cnt L n + (if L n = true then 0 else 1)

theorem cnt_zero {L : Nat → Bool} : ∀ n, cnt L n = 0 → ∀ j, j < n → L j = true
  | 0, _, j, hj => by omega
  | n + 1, h, j, hj => by
    simp only [cnt] at h
    have h2 : L n = true := by
      by_cases hl : L n = true
      · exact hl
      · rw [if_neg hl] at h; omega
    rcases Nat.lt_or_ge j n with h3 | h3
    · exact cnt_zero n (by omega) j h3
    · obtain rfl : j = n := by omega
      exact h2

theorem cnt_congr {L L' : Nat → Bool} : ∀ n, (∀ j, j < n → L j = L' j) → cnt L n = cnt L' n
  | 0, _ => rfl
  | n + 1, h => by simp only [cnt]; rw [cnt_congr n fun j hj => h j (Nat.lt_succ_of_lt hj), h n (Nat.lt_succ_self n)]

theorem cnt_set {L : Nat → Bool} {i : Nat} (hi : L i = false) : ∀ n, i < n → cnt (fun j => L j || j == i) n + 1 = cnt L n
  | 0, h => by omega
  | n + 1, h => by
    simp only [cnt]
    rcases Nat.lt_or_ge i n with hlt | hge
    · have ih := cnt_set hi n hlt
      have hne : (n == i) = false := by simp; omega
      simp only [hne, Bool.or_false]
      omega
    · obtain rfl : i = n := by omega
      have h1 : cnt (fun j => L j || j == i) i = cnt L i := by
        refine cnt_congr i fun j hj => ?_
        have : (j == i) = false := by simp; omega
        rw [this, Bool.or_false]
      rw [h1]
      simp [hi]
end Go.Proofs.YtmcmgeedhbgglaaGreatDoor.AM

namespace Go.Proofs.YtmcmgeedhbgglaaGreatDoor.AM
open Go.RowKit

section
variable {P : Program}

theorem srcElems_congr {rows rows' : Nm → Option Row} {x : AV} (h : ∀ m ver off len, x = .sl m ver off len → rows' m = rows m) : srcElems rows' x = srcElems rows x := by
  cases x <;> try rfl
  case sl m ver off len => simp only [srcElems, h m ver off len rfl]

theorem appendA_any {t : TypeId} {d x : AV} {h h1 : Hp} {n : Nm} {v : AV} (he : appendA P t d x h n = some (v, h1)) :
    ∃ act : Option (Nm × Option Row), h1 = ⟨upd act h.rows, h.tick⟩ ∧ (∀ m r, act = some (m, r) → m = n ∨ ∃ ver off len, d = .sl m ver off len) ∧
      ∀ h' : Hp, h'.tick = h.tick → (∀ m ver off len, d = .sl m ver off len → h'.rows m = h.rows m) → (∀ m ver off len, x = .sl m ver off len → h'.rows m = h.rows m) →
        appendA P t d x h' n = some (v, ⟨upd act h'.rows, h'.tick⟩) := by
  unfold appendA at he
  split at he
  case h_2 => cases he
  case h_1 e es h1e h2e =>
    split at he
    case h_2 => cases he
    case h_1 s b z q1 q2 q3 =>
      split at he
      case isFalse => cases he
      case isTrue hc =>
        split at he
        case h_3 => cases he
        case h_1 =>
          split at he
          case isTrue hes =>
            cases he
            refine ⟨none, rfl, (fun m r hm => by cases hm), fun h' _ _ hx => ?_⟩
            unfold appendA
            rw [srcElems_congr hx, h1e, h2e]
            simp only [q1, q2, q3]
            rw [if_pos hc, if_pos hes]
            rfl
          case isFalse hes =>
            split at he
            case isFalse => cases he
            case isTrue hle =>
              cases he
              refine ⟨some (n, some ⟨0, s, es⟩), rfl, fun m r hm => by cases hm; exact .inl rfl, fun h' _ _ hx => ?_⟩
              unfold appendA
              rw [srcElems_congr hx, h1e, h2e]
              simp only [q1, q2, q3]
              rw [if_pos hc, if_neg hes, if_pos hle]
              rfl
        case h_2 m ver off len =>
          split at he
          case h_2 => cases he
          case h_1 r hr =>
            split at he
            case isFalse => cases he
            case isTrue hk =>
              split at he
              case isTrue hes =>
                cases he
                refine ⟨none, rfl, (fun m r hm => by cases hm), fun h' ht hd hx => ?_⟩
                unfold appendA
                rw [srcElems_congr hx, h1e, h2e]
                simp only [q1, q2, q3]
                rw [if_pos hc, hd _ _ _ _ rfl, hr]
                simp only
                rw [ht, if_pos hk, if_pos hes]
                cases h'; cases ht; rfl
              case isFalse hes =>
                split at he
                case isTrue hroom =>
                  cases he
                  refine ⟨some (m, some ⟨ver, s, r.elems.take (off + len) ++ es ++ r.elems.drop (off + (len + es.length))⟩), rfl, fun m r hm => by cases hm; exact .inr ⟨_, _, _, rfl⟩, fun h' ht hd hx => ?_⟩
                  unfold appendA
                  rw [srcElems_congr hx, h1e, h2e]
                  simp only [q1, q2, q3]
                  rw [if_pos hc, hd _ _ _ _ rfl, hr]
                  simp only
                  rw [ht, if_pos hk, if_neg hes, if_pos hroom]
                  cases h'; cases ht; rfl
                case isFalse hroom =>
                  cases he
                  refine ⟨some (m, some ⟨ver + 1, s, (r.elems.drop off).take len ++ es⟩), rfl, fun m r hm => by cases hm; exact .inr ⟨_, _, _, rfl⟩, fun h' ht hd hx => ?_⟩
                  unfold appendA
                  rw [srcElems_congr hx, h1e, h2e]
                  simp only [q1, q2, q3]
                  rw [if_pos hc, hd _ _ _ _ rfl, hr]
                  simp only
                  rw [ht, if_pos hk, if_neg hes, if_neg hroom]
                  cases h'; cases ht; rfl

theorem evQ_new {ρ : Operand → AV} {rows : Nm → Option Row} {op : Op} (h : isNew op = true) : evQ P ρ rows op = none := by
  cases op <;> simp [isNew] at h <;> rfl

theorem newA_isNew {n : Nm} {ρ : Operand → AV} {op : Op} {v : AV} {r : Row} (he : newA P n ρ op = some (v, r)) : isNew op = true := by
  unfold newA at he
  split at he
  case isTrue hn => exact hn
  case isFalse => cases he

theorem newA_congr {n : Nm} {ρ ρ' : Operand → AV} {op : Op} (h : ∀ x ∈ op.operands, ρ x = ρ' x) : newA P n ρ op = newA P n ρ' op := by
  unfold newA
  split
  case isFalse => rfl
  case isTrue hn =>
    have : memA P n ρ (.mt (n.1 + 1)) op = memA P n ρ' (.mt (n.1 + 1)) op := by
      cases op <;> simp [isNew] at hn <;> simp only [Op.operands] at h
      case alloc t => rfl
      case box t x => simp only [memA, h x (by simp)]
      case buildSlice t len parts => simp only [memA, pairs_congr fun x hx => h x (by simpa using hx)]
      case makeSlice t l c => simp only [memA, h l (by simp), h c (by simp)]
    rw [this]
end

/-- What one operation of such a region does, from the text's order: its value, and what it writes. -/
inductive OpSpec (P : Program) (C : CS) (all : Array Oper) (T : Nat) (W : Nm → Bool) (rows0 : Nm → Option Row) (o : Oper) (i : Nat) (σ : Nat → AV) (h : Hp) : AV → Option (Nm × Option Row) → Prop
  | skip (hw : wantedA all σ o = some false) : OpSpec P C all T W rows0 o i σ h (.tup []) none
  | quiet (hw : wantedA all σ o = some true) (v : AV) (he : evQ P (opd σ) (maskR T W rows0) o.op = some v) : OpSpec P C all T W rows0 o i σ h v none
  | new (hw : wantedA all σ o = some true) (v : AV) (r : Row) (he : newA P (T, i, 0) (opd σ) o.op = some (v, r)) : OpSpec P C all T W rows0 o i σ h v (some ((T, i, 0), some r))
  | app (hw : wantedA all σ o = some true) (s x : Operand) (t : TypeId) (v : AV) (act : Option (Nm × Option Row)) (hop : o.op = .call ⟨.builtin .append, ⟨[s, x]⟩, ⟨[t, t]⟩⟩)
      (hn : appNames (Region.before all) T i W (opd σ s) (opd σ x))
      (ha : ∀ m r, act = some (m, r) → m = (T, i, 0) ∨ ∃ ver off len, opd σ s = .sl m ver off len)
      (hr : ∀ h' : Hp, h'.tick = h.tick → (∀ m ver off len, opd σ s = .sl m ver off len → h'.rows m = h.rows m) → (∀ m ver off len, opd σ x = .sl m ver off len → h'.rows m = h.rows m) →
        appendA P t (opd σ s) (opd σ x) h' (T, i, 0) = some (v, ⟨upd act h'.rows, h'.tick⟩)) : OpSpec P C all T W rows0 o i σ h v act
  | call (hw : wantedA all σ o = some true) (f : Operand) (args : Array Operand) (ts : Array TypeId) (g : FuncId) (cap : List AV) (v : AV) (hop : o.op = .call ⟨.value f, args, ts⟩) (hf : opd σ f = .fn g cap)
      (hc : treeW C g (maskR T W rows0) (args.toList.map (opd σ) ++ cap) (T + 1) (fun r => r = v)) : OpSpec P C all T W rows0 o i σ h v none

section
variable {P : Program} {M : FuncId → Mode} {C : CS} {all : Array Oper} {T : Nat} {W : Nm → Bool} {rows0 : Nm → Option Row} {o : Oper} {i : Nat} {σ : Nat → AV} {h : Hp}

/-- The text's order gives one. -/
theorem front_step {rest : List Oper} {K : (Nat → AV) → Hp → Prop} (hw : frontW P M C all T W rows0 (o :: rest) i σ h K) :
    ∃ v act, OpSpec P C all T W rows0 o i σ h v act ∧ frontW P M C all T W rows0 rest (i + 1) (upd (o.dst.map fun d => (d, v)) σ) ⟨upd act h.rows, h.tick⟩ K := by
  have hput : ∀ v : AV, putA o.dst v σ = upd (o.dst.map fun d => (d, v)) σ := fun v => by cases o.dst <;> rfl
  unfold frontW at hw
  split at hw
  case h_1 => exact hw.elim
  case h_2 hwt => exact ⟨_, _, .skip hwt, by rw [← hput]; exact hw⟩
  case h_3 hwt =>
    split at hw
    case h_1 v hv => exact ⟨v, none, .quiet hwt v hv, by rw [← hput]; exact hw⟩
    case h_2 =>
      split at hw
      case h_1 v r hv => exact ⟨v, some ((T, i, 0), some r), .new hwt v r hv, by rw [← hput]; exact hw⟩
      case h_2 =>
        split at hw
        case h_3 => exact hw.elim
        case h_1 s x t t' hop =>
          split at hw
          case isFalse => exact hw.elim
          case isTrue ht =>
            subst ht
            split at hw
            case h_2 => exact hw.elim
            case h_1 v h' ha =>
              obtain ⟨act, e1, e2, e3⟩ := appendA_any ha
              exact ⟨v, act, .app hwt s x t v act hop hw.1 e2 e3, by rw [← hput, ← e1]; exact hw.2⟩
        case h_2 f args ts hop =>
          split at hw
          case h_2 => exact hw.elim
          case h_1 g cap hf =>
            obtain ⟨targs, r, h1, h2, h3⟩ := hw
            exact ⟨r, none, .call hwt f args ts g cap r hop hf ⟨targs, r, h1, h2, rfl⟩, by rw [← hput]; exact h3⟩

/-- What it writes. -/
theorem OpSpec.act {v : AV} {act : Option (Nm × Option Row)} (s : OpSpec P C all T W rows0 o i σ h v act) {m : Nm} (hm : hits act m) :
    m = (T, i, 0) ∨ (isApp o.op = true ∧ (m.1 = T → befB (Region.before all) i m.2.1 = true ∧ m.2.2 = 0) ∧ (m.1 ≠ T → W m = true)) := by
  obtain ⟨x, hx⟩ := hm
  cases s with
  | skip => cases hx
  | quiet => cases hx
  | new => cases hx; exact .inl rfl
  | app hw s x t v act hop hn ha hr =>
    rcases ha m _ hx with h1 | ⟨ver, off, len, h1⟩
    · exact .inl h1
    · right
      refine ⟨by rw [hop]; rfl, fun hT => ?_, fun hT => ?_⟩
      · have := hn.1
        rw [h1] at this
        simp only [if_pos hT] at this
        exact this
      · have := hn.1
        rw [h1] at this
        simp only [if_neg hT] at this
        exact this
  | call => cases hx

/-- And so it does in whatever order: where it looks at the same. -/
theorem OpSpec.any {v : AV} {act : Option (Nm × Option Row)} (s : OpSpec P C all T W rows0 o i σ h v act) (ht : h.tick = T + 1) {σ' : Nat → AV} {h' : Hp} (ht' : h'.tick = T + 1) (hσ : ∀ t ∈ o.looksAt all, σ' t = σ t)
    (hmask : ∀ n r, maskR T W rows0 n = some r → h'.rows n = some r) (happ : isApp o.op = true → ∀ m : Nm, (m.1 = T → befB (Region.before all) i m.2.1 = true ∧ m.2.2 = 0) → h'.rows m = h.rows m) :
    (wantedA all σ' o = some false ∧ v = .tup [] ∧ act = none) ∨ (wantedA all σ' o = some true ∧ stepW P (fun _ => .tree) C (T, i, 0) o σ' h' (fun v' h'' => v' = v ∧ h'' = ⟨upd act h'.rows, h'.tick⟩)) := by
  have hwant := wantedA_congr (all := all) hσ
  have hop := opd_congr (all := all) hσ
  cases s with
  | skip hw => exact .inl ⟨hwant.trans hw, rfl, rfl⟩
  | quiet hw v he =>
    refine .inr ⟨hwant.trans hw, ?_⟩
    have h1 := evQ_mono hmask (show evQ P (opd σ') (maskR T W rows0) o.op = some v by rw [evQ_congr o.op hop]; exact he)
    unfold stepW
    rw [h1]
    exact ⟨rfl, rfl⟩
  | new hw v r he =>
    refine .inr ⟨hwant.trans hw, ?_⟩
    have h1 : newA P (T, i, 0) (opd σ') o.op = some (v, r) := by rw [newA_congr hop]; exact he
    unfold stepW
    rw [evQ_new (newA_isNew h1), memA_new h1]
    exact ⟨rfl, rfl⟩
  | app hw s x t v act hop' hn ha hr =>
    refine .inr ⟨hwant.trans hw, ?_⟩
    have e1 : opd σ' s = opd σ s := hop s (by rw [hop']; simp [Op.operands, Call.operands])
    have e2 : opd σ' x = opd σ x := hop x (by rw [hop']; simp [Op.operands, Call.operands])
    have happ' := happ (by rw [hop']; rfl)
    have h1 := hr h' (by rw [ht, ht']) (fun m ver off len hs => happ' m fun hT => by
        have := hn.1
        rw [hs] at this
        simp only [if_pos hT] at this
        exact this) (fun m ver off len hx => happ' m fun hT => by
        have := hn.2
        rw [hx] at this
        simp only [if_pos hT] at this
        exact this)
    unfold stepW
    rw [hop']
    have : evQ P (opd σ') h'.rows (.call ⟨.builtin .append, ⟨[s, x]⟩, ⟨[t, t]⟩⟩) = none := rfl
    rw [this]
    simp only [memA, if_true, e1, e2, h1]
    exact ⟨trivial, trivial⟩
  | call hw f args ts g cap v hop' hf hc =>
    refine .inr ⟨hwant.trans hw, ?_⟩
    have e1 : opd σ' f = .fn g cap := by rw [← hf]; exact hop f (by rw [hop']; simp [Op.operands, Call.operands])
    have e2 : args.toList.map (opd σ') = args.toList.map (opd σ) := List.map_congr_left fun x hx => hop x (by rw [hop']; simp [Op.operands, Call.operands]; right; simpa using hx)
    unfold stepW
    rw [hop']
    have : evQ P (opd σ') h'.rows (.call ⟨.value f, args, ts⟩) = none := by cases f <;> rfl
    rw [this]
    have : memA P (T, i, 0) (opd σ') h' (.call ⟨.value f, args, ts⟩) = none := by cases f <;> rfl
    rw [this]
    simp only [e1, e2, callW]
    obtain ⟨targs, r, h1, h2, rfl⟩ := hc
    exact ⟨targs, r, ⟨h1.1, fun j a t ha htt => (h1.2 j a t ha htt).mono hmask⟩, by rw [ht']; exact h2, rfl, rfl⟩
end
end Go.Proofs.YtmcmgeedhbgglaaGreatDoor.AM

namespace Go.Proofs.YtmcmgeedhbgglaaGreatDoor.AM
open Go.RowKit

def we (ops : Array Oper) (vals : Nat → AV) (j : Nat) : Option (Nat × AV) := (ops[j]?).bind fun o => o.dst.map fun d => (d, vals j)

theorem we_some {ops : Array Oper} {vals : Nat → AV} {j : Nat} {o : Oper} (ho : ops[j]? = some o) : we ops vals j = o.dst.map fun d => (d, vals j) := by simp [we, ho]

theorem hits_we {ops : Array Oper} {vals : Nat → AV} {j t : Nat} (h : hits (we ops vals j) t) : ∃ o, ops[j]? = some o ∧ o.dst = some t := by
  obtain ⟨v, hv⟩ := h
  unfold we at hv
  cases ho : ops[j]? with
  | none => rw [ho] at hv; cases hv
  | some o =>
    rw [ho] at hv
    simp only [Option.bind_some, Option.map_eq_some_iff, Prod.mk.injEq] at hv
    obtain ⟨d, h1, h2, _⟩ := hv
    exact ⟨o, rfl, by rw [h1, h2]⟩

def allL : Nat → Bool := fun _ => true

section
variable {P : Program} {M : FuncId → Mode} {C : CS} {ops : Array Oper} {T : Nat} {W : Nm → Bool} {rows0 : Nm → Option Row} {f : Nat} {σ : Nat → AV}

def hpA (T : Nat) (act : Nat → Option (Nm × Option Row)) (L : Nat → Bool) (n : Nat) (rows0 : Nm → Option Row) : Hp := ⟨lw act L n rows0, T + 1⟩

theorem trace {K : (Nat → AV) → Hp → Prop} (hf : f ≤ ops.size) : ∀ (n i : Nat) (vals : Nat → AV) (act : Nat → Option (Nm × Option Row)), i + n = f →
    frontW P M C ops T W rows0 ((ops.toList.take f).drop i) i (lw (we ops vals) allL i σ) (hpA T act allL i rows0) K →
    ∃ vals' act', (∀ j, j < i → vals' j = vals j ∧ act' j = act j) ∧
      (∀ j, i ≤ j → j < f → ∃ o, ops[j]? = some o ∧ OpSpec P C ops T W rows0 o j (lw (we ops vals') allL j σ) (hpA T act' allL j rows0) (vals' j) (act' j)) ∧
      K (lw (we ops vals') allL f σ) (hpA T act' allL f rows0)
  | 0, i, vals, act, hi, hw => by
    obtain rfl : i = f := by omega
    rw [List.drop_eq_nil_of_le (by simp; omega)] at hw
    exact ⟨vals, act, fun _ _ => ⟨rfl, rfl⟩, fun j h1 h2 => by omega, hw⟩
  | n + 1, i, vals, act, hi, hw => by
    have hlt : i < ops.size := by omega
    have hl : (ops.toList.take f).drop i = ops[i] :: (ops.toList.take f).drop (i + 1) := by
      rw [List.drop_eq_getElem_cons (by simp; omega)]
      simp
    rw [hl] at hw
    obtain ⟨v, a, h1, h2⟩ := front_step hw
    have ho : ops[i]? = some ops[i] := by simp
    have e1 : lw (we ops fun j => if j = i then v else vals j) allL i σ = lw (we ops vals) allL i σ := lw_congr i fun j hj => ⟨by
      have hne : ¬ j = i := by omega
      simp only [we, if_neg hne], rfl⟩
    have e2 : lw (fun j => if j = i then a else act j) allL i rows0 = lw act allL i rows0 := lw_congr i fun j hj => ⟨by
      show (if j = i then a else act j) = act j
      rw [if_neg (by omega)], rfl⟩
    obtain ⟨vals', act', g1, g2, g3⟩ := trace hf n (i + 1) (fun j => if j = i then v else vals j) (fun j => if j = i then a else act j) (by omega) (by
      have e3 : lw (we ops fun j => if j = i then v else vals j) allL (i + 1) σ = upd (ops[i].dst.map fun d => (d, v)) (lw (we ops vals) allL i σ) := by
        simp only [lw, allL, if_true]
        rw [we_some ho, if_pos rfl]
        congr 1
      have e4 : hpA T (fun j => if j = i then a else act j) allL (i + 1) rows0 = ⟨upd a (hpA T act allL i rows0).rows, (hpA T act allL i rows0).tick⟩ := by
        simp only [hpA, lw, allL, if_true]
        congr 2
      rw [e3, e4]
      exact h2)
    refine ⟨vals', act', fun j hj => ?_, fun j h3 h4 => ?_, g3⟩
    · have := g1 j (by omega)
      rw [if_neg (by omega), if_neg (by omega)] at this
      exact this
    · rcases Nat.lt_or_ge i j with h5 | h5
      · exact g2 j h5 h4
      · obtain rfl : j = i := by omega
        refine ⟨_, ho, ?_⟩
        have q := g1 j (by omega)
        rw [if_pos rfl, if_pos rfl] at q
        rw [q.1, q.2]
        have e5 : lw (we ops vals') allL j σ = lw (we ops vals) allL j σ := lw_congr j fun k hk => ⟨by
          unfold we
          rw [(g1 k (by omega)).1, if_neg (by omega)], rfl⟩
        have e6 : lw act' allL j rows0 = lw act allL j rows0 := lw_congr j fun k hk => ⟨by
          rw [(g1 k (by omega)).2, if_neg (by omega)], rfl⟩
        rw [e5]
        unfold hpA
        rw [e6]
        exact h1

/-- The text's order's way, for the operations up to 'f'. -/
def Traced (P : Program) (C : CS) (ops : Array Oper) (T : Nat) (W : Nm → Bool) (rows0 : Nm → Option Row) (f : Nat) (σ : Nat → AV) (vals : Nat → AV) (act : Nat → Option (Nm × Option Row)) : Prop :=
  ∀ j, j < f → ∃ o, ops[j]? = some o ∧ OpSpec P C ops T W rows0 o j (lw (we ops vals) allL j σ) (hpA T act allL j rows0) (vals j) (act j)

variable {vals : Nat → AV} {act : Nat → Option (Nm × Option Row)}

theorem draw_step (S : DrawS ops f) (Tr : Traced P C ops T W rows0 f σ vals act) {L : Nat → Bool} (hc : Closed ops L) {i : Nat} {o : Oper} (ho : ops[i]? = some o) (hi : i < f) (hL : L i = false)
    (hready : ∀ e ∈ o.after, Region.binds .any e = true → L e.on = true) :
    lw (we ops vals) (fun j => L j || j == i) f σ = upd (o.dst.map fun d => (d, vals i)) (lw (we ops vals) L f σ) ∧
    lw act (fun j => L j || j == i) f rows0 = upd (act i) (lw act L f rows0) ∧
    ((wantedA ops (lw (we ops vals) L f σ) o = some false ∧ vals i = .tup [] ∧ act i = none) ∨
     (wantedA ops (lw (we ops vals) L f σ) o = some true ∧ stepW P (fun _ => .tree) C (T, i, 0) o (lw (we ops vals) L f σ) (hpA T act L f rows0) (fun v' h'' => v' = vals i ∧ h'' = ⟨upd (act i) (lw act L f rows0), T + 1⟩))) := by
  have hbef : ∀ j, befB (Region.before ops) i j = true → L j = true := S.listed hc i o ho hready
  have hno : ∀ j oj, ops[j]? = some oj → L j = true → befB (Region.before ops) j i = true → False := fun j oj hoj hlj hb => by
    have := S.listed hc j oj hoj (hc j oj hoj hlj) i hb
    rw [hL] at this
    cases this
  have hlst : ∀ j, j < f → L j = true → ∃ oj, ops[j]? = some oj ∧ OpSpec P C ops T W rows0 oj j (lw (we ops vals) allL j σ) (hpA T act allL j rows0) (vals j) (act j) := fun j hj _ => Tr j hj
  obtain ⟨o', ho', spec⟩ := Tr i hi
  rw [ho] at ho'
  cases ho'
  refine ⟨?_, ?_, ?_⟩
  · rw [← we_some ho]
    refine lw_set hL (fun j t hj hlj hh hh' => ?_) f hi
    obtain ⟨oj, h1, h2⟩ := hits_we hh
    obtain ⟨oi, h3, h4⟩ := hits_we hh'
    rw [ho] at h3
    cases h3
    rcases S.apart j i oj o h1 ho hj with h5 | h5
    · exact (Oper.apart_spec h5).2.1 t h2 h4
    · exact hno j oj h1 hlj h5
  · rcases Nat.lt_or_ge i ops.size with hsz | hsz
    case inr => rw [Array.getElem?_eq_none hsz] at ho; cases ho
    have key : ∀ n, n ≤ f → i < n → lw act (fun j => L j || j == i) n rows0 = upd (act i) (lw act L n rows0) := fun n hn hin => by
      have e : ∀ (L' : Nat → Bool) , lw act L' n rows0 = lw (fun j => if j < f then act j else none) L' n rows0 := fun L' => lw_congr n fun j hj => ⟨by
        show act j = if j < f then act j else none
        rw [if_pos (by omega)], rfl⟩
      rw [e, e]
      have e2 : act i = (fun j => if j < f then act j else none) i := by
        show act i = if i < f then act i else none
        rw [if_pos hi]
      rw [e2]
      refine lw_set hL (fun j m hj hlj hh hh' => ?_) n hin
      rw [if_pos hi] at hh'
      split at hh
      case isFalse => obtain ⟨_, h⟩ := hh; cases h
      case isTrue hjf =>
        obtain ⟨oj, h1, h2⟩ := Tr j hjf
        rcases h2.act hh with h3 | ⟨h3, h4, h5⟩
        · rcases spec.act hh' with h6 | ⟨h6, h7, h8⟩
          · rw [h3] at h6; cases h6; omega
          · subst h3
            have := S.bits i j o ho (h7 rfl).1
            omega
        · rcases spec.act hh' with h6 | ⟨h6, h7, h8⟩
          · subst h6
            exact hno j oj h1 hlj (h4 rfl).1
          · exact hno j oj h1 hlj (S.app j i oj o h1 ho hj h3 h6)
    exact key f (Nat.le_refl f) hi
  · refine spec.any (h := hpA T act allL i rows0) (h' := hpA T act L f rows0) rfl rfl (fun t ht => ?_) (fun n r hn => ?_) (fun happ m hm => ?_)
    · refine lw_same (fun j hj hh => ?_) f (Nat.le_of_lt hi) (fun j hj hjf hh => ?_)
      · obtain ⟨oj, h1, h2⟩ := hits_we hh
        rcases S.apart i j o oj ho h1 hj with h5 | h5
        · exact absurd ht ((Oper.apart_spec h5).2.2 t h2)
        · exact hbef j h5
      · obtain ⟨oj, h1, h2⟩ := hits_we hh
        rcases Nat.lt_or_ge i j with hij | hij
        · cases hlj : L j with
          | false => rfl
          | true =>
            rcases S.apart j i oj o h1 ho hij with h5 | h5
            · exact absurd ht ((Oper.apart_spec h5).1 t h2)
            · exact (hno j oj h1 hlj h5).elim
        · obtain rfl : j = i := by omega
          exact hL
    · unfold maskR at hn
      split at hn
      case isTrue => cases hn
      case isFalse hno' =>
        show lw act L f rows0 n = some r
        rw [lw_none f fun j hj hh => ?_]
        · exact hn
        · obtain ⟨oj, h1, h2⟩ := Tr j hj
          rcases h2.act hh with h3 | ⟨h3, h4, h5⟩
          · exact hno' (.inl (by rw [h3]))
          · by_cases hT : n.1 = T
            · exact hno' (.inl hT)
            · exact hno' (.inr (h5 hT))
    · show lw act L f rows0 m = lw act allL i rows0 m
      refine lw_same (fun j hj hh => ?_) f (Nat.le_of_lt hi) (fun j hj hjf hh => ?_)
      · obtain ⟨oj, h1, h2⟩ := Tr j (by omega)
        rcases h2.act hh with h3 | ⟨h3, h4, h5⟩
        · subst h3; exact hbef j (hm rfl).1
        · exact hbef j (S.app i j o oj ho h1 hj happ h3)
      · obtain ⟨oj, h1, h2⟩ := Tr j hjf
        rcases Nat.lt_or_ge i j with hij | hij
        · cases hlj : L j with
          | false => rfl
          | true =>
            rcases h2.act hh with h3 | ⟨h3, h4, h5⟩
            · subst h3
              have := S.bits i j o ho (hm rfl).1
              omega
            · exact (hno j oj h1 hlj (S.app j i oj o h1 ho hij h3 happ)).elim
        · obtain rfl : j = i := by omega
          exact hL
end
end Go.Proofs.YtmcmgeedhbgglaaGreatDoor.AM
