/-
  The A-machine, part 0: abstract values (immutable trees, named rows), what they stand for in the model's memory, and that this stays so while memory is extended.
-/
import Derived.Orders
import Derived.Below
import Derived.WalkKit
set_option linter.unusedVariables false
set_option linter.unusedSimpArgs false
namespace Go.Proofs.Ytfgaoojogididaa.AM
open Go.RowKit

/-- A row's name: the tick of the region that made it, the operation's number there, and a count. -/
abbrev Nm := Nat × Nat × Nat

/-- Abstract values. 'tr': a slice that nobody writes, element by element, each its cells (false: never again; true: lent, as long as the call runs); 'sl', 'ptr': into a named row; 'tptr': into an element of a tree. -/
inductive AV where
  | undef
  | int (k : IntKind) (n : Int)
  | bool (b : Bool)
  | str (s : ByteArray)
  | nilsl
  | tr (b : Bool) (elems : List (List AV))
  | sl (n : Nm) (ver off len : Nat)
  | nilp
  | ptr (n : Nm) (ver i off : Nat)
  | tptr (b : Bool) (cells : List AV)
  | fn (f : FuncId) (captured : List AV)
  | agg (cells : List AV)
  | tup (vs : List AV)
  | nilif
  | errv
  deriving Inhabited

/-- It takes one cell. -/
def AV.one : AV → Bool
  | .undef | .agg _ | .tup _ => false
  | _ => true

structure Row where
  ver : Nat
  esz : Nat
  elems : List (List AV)

structure Hp where
  rows : Nm → Option Row
  tick : Nat

/-- Where a row lies: its block, its first cell there, an element's cells, and how many elements it has. -/
structure Loc where
  b : Nat
  o : Nat
  esz : Nat
  rlen : Nat

inductive VR (mu : Nm → Nat → Option Loc) (pr : Bool → Nat → Prop) (hp : Array Obj) : AV → Value → Prop
  | undef (v : Value) : VR mu pr hp .undef v
  | int (k : IntKind) (n : Int) : VR mu pr hp (.int k n) (.int k n)
  | bool (b : Bool) : VR mu pr hp (.bool b) (.bool b)
  | str (s : ByteArray) : VR mu pr hp (.str s) (.string s)
  | nilsl : VR mu pr hp .nilsl (.slice none 0 0)
  | tr0 (g : Bool) (a : Option Addr) (cap : Nat) : VR mu pr hp (.tr g []) (.slice a 0 cap)
  | tr (g : Bool) (b o cap esz : Nat) (arr : Array Value) (ty : TypeId) (fr : Nat × Nat) (elems : List (List AV)) (us : Nat → Nat → Value) :
      pr g b → hp[b]? = some (.cells arr ty fr) → elems.length ≤ cap → (∀ (i : Nat) (e : List AV), elems[i]? = some e → e.length = esz) →
      (∀ (i : Nat) (e : List AV) (j : Nat) (c : AV), elems[i]? = some e → e[j]? = some c → arr[o + i * esz + j]? = some (us i j)) →
      (∀ (i : Nat) (e : List AV) (j : Nat) (c : AV), elems[i]? = some e → e[j]? = some c → c.one = true) →
      (∀ (i : Nat) (e : List AV) (j : Nat) (c : AV), elems[i]? = some e → e[j]? = some c → VR mu pr hp c (us i j)) →
      VR mu pr hp (.tr g elems) (.slice (some ⟨b, o, none⟩) elems.length cap)
  | sl (n : Nm) (ver off len cap ao : Nat) (l : Loc) (arr : Array Value) (ty : TypeId) (fr : Nat × Nat) :
      mu n ver = some l → hp[l.b]? = some (.cells arr ty fr) → len ≤ cap → off + len ≤ l.rlen → l.rlen ≤ off + cap → l.o + (off + cap) * l.esz ≤ arr.size → off + cap ≤ maxLen →
      (0 < cap → ao = l.o + off * l.esz) →
      VR mu pr hp (.sl n ver off len) (.slice (some ⟨l.b, ao, none⟩) len cap)
  | nilp : VR mu pr hp .nilp (.pointer none)
  | ptr (n : Nm) (ver i off : Nat) (l : Loc) : mu n ver = some l → VR mu pr hp (.ptr n ver i off) (.pointer (some ⟨l.b, l.o + i * l.esz + off, none⟩))
  | tptr (g : Bool) (b o : Nat) (arr : Array Value) (ty : TypeId) (fr : Nat × Nat) (cells : List AV) (us : Nat → Value) :
      pr g b → hp[b]? = some (.cells arr ty fr) → (∀ (j : Nat) (c : AV), cells[j]? = some c → arr[o + j]? = some (us j)) → (∀ (j : Nat) (c : AV), cells[j]? = some c → c.one = true) → (∀ (j : Nat) (c : AV), cells[j]? = some c → VR mu pr hp c (us j)) →
      VR mu pr hp (.tptr g cells) (.pointer (some ⟨b, o, none⟩))
  | fn (f : FuncId) (cap : List AV) (carr : Array Value) (us : Nat → Value) :
      carr.size = cap.length → (∀ (i : Nat) (c : AV), cap[i]? = some c → carr[i]? = some (us i)) → (∀ (i : Nat) (c : AV), cap[i]? = some c → VR mu pr hp c (us i)) → VR mu pr hp (.fn f cap) (.func (.func f) #[] carr)
  | agg (cells : List AV) (carr : Array Value) (us : Nat → Value) :
      carr.size = cells.length → (∀ (i : Nat) (c : AV), cells[i]? = some c → carr[i]? = some (us i)) → (∀ (i : Nat) (c : AV), cells[i]? = some c → c.one = true) → (∀ (i : Nat) (c : AV), cells[i]? = some c → VR mu pr hp c (us i)) → VR mu pr hp (.agg cells) (.agg carr)
  | tup (vs : List AV) (carr : Array Value) (us : Nat → Value) :
      carr.size = vs.length → (∀ (i : Nat) (c : AV), vs[i]? = some c → carr[i]? = some (us i)) → (∀ (i : Nat) (c : AV), vs[i]? = some c → VR mu pr hp c (us i)) → VR mu pr hp (.tup vs) (.tuple carr)
  | nilif : VR mu pr hp .nilif .nilIface
  | errv (t : TypeId) (v : Value) : VR mu pr hp .errv (.iface t v)

/-- Memory is extended: names stay, what is protected stays and reads as it did, no block of cells is lost or shrinks. -/
structure Ext (mu : Nm → Nat → Option Loc) (pr : Bool → Nat → Prop) (hp : Array Obj) (mu' : Nm → Nat → Option Loc) (pr' : Bool → Nat → Prop) (hp' : Array Obj) : Prop where
  names : ∀ n v l, mu n v = some l → mu' n v = some l
  keep : ∀ c b, pr c b → pr' c b
  same : ∀ c b, pr c b → hp'[b]? = hp[b]?
  size : ∀ (b : Nat) (arr : Array Value) (ty : TypeId) (fr : Nat × Nat), hp[b]? = some (.cells arr ty fr) → ∃ (arr' : Array Value) (fr' : Nat × Nat), hp'[b]? = some (.cells arr' ty fr') ∧ arr'.size = arr.size

section
variable {mu mu' mu'' : Nm → Nat → Option Loc} {pr pr' pr'' : Bool → Nat → Prop} {hp hp' hp'' : Array Obj}

theorem Ext.refl : Ext mu pr hp mu pr hp := ⟨fun _ _ _ h => h, fun _ _ h => h, fun _ _ _ => rfl, fun _ arr _ fr h => ⟨arr, fr, h, rfl⟩⟩

theorem Ext.trans (h : Ext mu pr hp mu' pr' hp') (k : Ext mu' pr' hp' mu'' pr'' hp'') : Ext mu pr hp mu'' pr'' hp'' := by
  refine ⟨fun n v l e => k.names _ _ _ (h.names _ _ _ e), fun c b e => k.keep _ _ (h.keep _ _ e), fun c b e => (k.same c b (h.keep _ _ e)).trans (h.same c b e), fun b arr ty fr e => ?_⟩
  obtain ⟨a1, f1, e1, s1⟩ := h.size b arr ty fr e
  obtain ⟨a2, f2, e2, s2⟩ := k.size b a1 ty f1 e1
  exact ⟨a2, f2, e2, s2.trans s1⟩

theorem VR.mono (x : Ext mu pr hp mu' pr' hp') {a : AV} {v : Value} (h : VR mu pr hp a v) : VR mu' pr' hp' a v := by
  induction h with
  | undef v => exact .undef v
  | int k n => exact .int k n
  | bool b => exact .bool b
  | str s => exact .str s
  | nilsl => exact .nilsl
  | tr0 g a cap => exact .tr0 g a cap
  | tr g b o cap esz arr ty fr elems us h1 h2 h3 h4 h5 h6 _ ih => exact .tr g b o cap esz arr ty fr elems us (x.keep _ _ h1) ((x.same _ _ h1).trans h2) h3 h4 h5 h6 ih
  | sl n ver off len cap ao l arr ty fr h1 h2 h3 h4 h5 h6 h7 h8 =>
    obtain ⟨a', f', e', s'⟩ := x.size _ _ _ _ h2
    exact .sl n ver off len cap ao l a' ty f' (x.names _ _ _ h1) e' h3 h4 h5 (by rw [s']; exact h6) h7 h8
  | nilp => exact .nilp
  | ptr n ver i off l h1 => exact .ptr n ver i off l (x.names _ _ _ h1)
  | tptr g b o arr ty fr cells us h1 h2 h3 h4 _ ih => exact .tptr g b o arr ty fr cells us (x.keep _ _ h1) ((x.same _ _ h1).trans h2) h3 h4 ih
  | fn f cap carr us h1 h2 _ ih => exact .fn f cap carr us h1 h2 ih
  | agg cells carr us h1 h2 h3 _ ih => exact .agg cells carr us h1 h2 h3 ih
  | tup vs carr us h1 h2 _ ih => exact .tup vs carr us h1 h2 ih
  | nilif => exact .nilif
  | errv t v => exact .errv t v

/-- A cell's value is stored as one. -/
theorem VR.oneCell {a : AV} {v : Value} (h : VR mu pr hp a v) (ho : a.one = true) : v.oneCell' = true := by
  cases h <;> first | rfl | simp [AV.one] at ho

end

/-- The row's cells, in the array from place 'o' on. -/
def CellsR (mu : Nm → Nat → Option Loc) (pr : Bool → Nat → Prop) (hp : Array Obj) (arr : Array Value) (o esz : Nat) (elems : List (List AV)) : Prop :=
  (∀ (i : Nat) (e : List AV), elems[i]? = some e → e.length = esz) ∧
  (∀ (i : Nat) (e : List AV) (j : Nat) (c : AV), elems[i]? = some e → e[j]? = some c → c.one = true ∧ ∃ u, arr[o + i * esz + j]? = some u ∧ VR mu pr hp c u)

/-- What the heap of rows stands for. -/
structure Rel (mu : Nm → Nat → Option Loc) (pr : Bool → Nat → Prop) (h : Hp) (w : World) : Prop where
  row : ∀ n r, h.rows n = some r → ∃ l arr ty, mu n r.ver = some l ∧ (∀ c, ¬ pr c l.b) ∧ w.heap[l.b]? = some (.cells arr ty (0, 0)) ∧ l.esz = r.esz ∧ l.rlen = r.elems.length ∧
    CellsR mu pr w.heap arr l.o l.esz r.elems
  inj : ∀ n r n' r' l l', h.rows n = some r → h.rows n' = some r' → mu n r.ver = some l → mu n' r'.ver = some l' → l.b = l'.b → n = n'
  fresh : ∀ (t : Nat) i j v, h.tick ≤ t → mu (t, i, j) v = none
  vers : ∀ n r v, h.rows n = some r → r.ver < v → mu n v = none
  lt : ∀ c b, pr c b → b < w.heap.size

/-- What a step leaves as it was. -/
structure Fr (w w' : World) : Prop where
  os : w'.os = w.os
  tape : w'.tape = w.tape
  output : w'.output = w.output
  size : w.heap.size ≤ w'.heap.size

theorem Fr.refl (w : World) : Fr w w := ⟨rfl, rfl, rfl, Nat.le_refl _⟩
theorem Fr.trans {a b c : World} (h : Fr a b) (k : Fr b c) : Fr a c := ⟨k.os.trans h.os, k.tape.trans h.tape, k.output.trans h.output, Nat.le_trans h.size k.size⟩

end Go.Proofs.Ytfgaoojogididaa.AM
