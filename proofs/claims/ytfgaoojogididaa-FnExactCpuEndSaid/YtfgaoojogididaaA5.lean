/-
  The A-machine, part 5: one law for all that makes a row or writes one ('Rel.put'); new variables, boxes, slices; stores.
-/
import Derived.Test.YtfgaoojogididaaA4
import Derived.Laws.CopyRow
import Derived.Laws.AppendOwn
set_option linter.unusedVariables false
set_option linter.unusedSimpArgs false
namespace Go.Proofs.Ytfgaoojogididaa.AM
open Go.RowKit

def Hp.put (h : Hp) (n : Nm) (r : Row) : Hp := { h with rows := fun m => if m = n then some r else h.rows m }
def Hp.empty : Hp := ⟨fun _ => none, 0⟩

@[simp] theorem Hp.put_tick (h : Hp) (n : Nm) (r : Row) : (h.put n r).tick = h.tick := Nat.le_antisymm (Nat.le_refl _) (Nat.le_refl _)
theorem Hp.put_rows (h : Hp) (n m : Nm) (r : Row) : (h.put n r).rows m = if m = n then some r else h.rows m := rfl

def muPut (mu : Nm → Nat → Option Loc) (n : Nm) (v : Nat) (l : Loc) : Nm → Nat → Option Loc := fun m u => if m = n ∧ u = v then some l else mu m u

section
variable {P : Program} {mu : Nm → Nat → Option Loc} {pr : Bool → Nat → Prop} {h : Hp} {w w' : World}

theorem Rel.put (R : Rel mu pr h w) (n : Nm) (v esz : Nat) (elems : List (List AV)) (l : Loc) (arr : Array Value) (ty : TypeId)
    (hb : w'.heap[l.b]? = some (.cells arr ty (0, 0))) (he : l.esz = esz) (hr : l.rlen = elems.length) (hc : CellsR mu pr w.heap arr l.o esz elems) (hnp : ∀ c, ¬ pr c l.b)
    (hother : ∀ b, b ≠ l.b → b < w.heap.size → w'.heap[b]? = w.heap[b]?)
    (hsize : ∀ (a : Array Value) (t : TypeId) (fr : Nat × Nat), w.heap[l.b]? = some (.cells a t fr) → arr.size = a.size ∧ t = ty)
    (huniq : ∀ m r k, h.rows m = some r → mu m r.ver = some k → k.b = l.b → m = n)
    (hmu : mu n v = some l ∨ mu n v = none) (hver : ∀ u, v < u → mu n u = none) (htick : n.1 < h.tick) (F : Fr w w') :
    Rel (muPut mu n v l) pr (h.put n ⟨v, esz, elems⟩) w' ∧ Ext mu pr w.heap (muPut mu n v l) pr w'.heap := by
  have X : Ext mu pr w.heap (muPut mu n v l) pr w'.heap := by
    refine ⟨fun m u k hk => ?_, fun c b hb => hb, fun c b hb' => ?_, fun b a t fr hab => ?_⟩
    · unfold muPut
      split
      · rename_i h1
        obtain ⟨rfl, rfl⟩ := h1
        rcases hmu with h2 | h2 <;> rw [hk] at h2
        · exact h2.symm
        · cases h2
      · exact hk
    · exact hother b (fun e => hnp c (e ▸ hb')) (R.lt c b hb')
    · by_cases hbl : b = l.b
      · subst hbl
        obtain ⟨h1, h2⟩ := hsize a t fr hab
        subst h2
        exact ⟨arr, (0, 0), hb, h1⟩
      · have hlt : b < w.heap.size := (Array.getElem?_eq_some_iff.1 hab).1
        exact ⟨a, fr, by rw [hother b hbl hlt]; exact hab, rfl⟩
  refine ⟨⟨fun m r hm => ?_, fun m r m' r' k k' hm hm' hk hk' hkk => ?_, fun t i j u ht => ?_, fun m r u hm hu => ?_, fun c b hb' => Nat.lt_of_lt_of_le (R.lt c b hb') F.size⟩, X⟩
  · rw [Hp.put_rows] at hm
    split at hm
    · rename_i hmn
      subst hmn
      cases hm
      refine ⟨l, arr, ty, by simp [muPut], hnp, hb, he, hr, ?_⟩
      rw [he]
      exact ⟨hc.1, fun i e j c h1 h2 => ⟨(hc.2 i e j c h1 h2).1, let ⟨x, hx, hv⟩ := (hc.2 i e j c h1 h2).2; ⟨x, hx, hv.mono X⟩⟩⟩
    · rename_i hmn
      obtain ⟨k, a, t, h1, h2, h3, h4, h5, h6⟩ := R.row m r hm
      have hne : k.b ≠ l.b := fun e => hmn (huniq m r k hm h1 e)
      refine ⟨k, a, t, X.names _ _ _ h1, h2, ?_, h4, h5, h6.1, fun i e j c g1 g2 => ⟨(h6.2 i e j c g1 g2).1, let ⟨x, hx, hv⟩ := (h6.2 i e j c g1 g2).2; ⟨x, hx, hv.mono X⟩⟩⟩
      rw [hother k.b hne (Array.getElem?_eq_some_iff.1 h3).1]
      exact h3
  · rw [Hp.put_rows] at hm hm'
    have look : ∀ m r k, h.rows m = some r → m ≠ n → muPut mu n v l m r.ver = some k → mu m r.ver = some k := by
      intro m r k _ hmn hk
      unfold muPut at hk
      rwa [if_neg (fun e => hmn e.1)] at hk
    split at hm
    · rename_i hmn
      cases hm
      simp only [muPut, hmn, and_self, if_true, Option.some.injEq] at hk
      subst hk
      split at hm'
      · rename_i hmn'
        rw [hmn, hmn']
      · rename_i hmn'
        rw [hmn, huniq m' r' k' hm' (look m' r' k' hm' hmn' hk') hkk.symm]
    · rename_i hmn
      split at hm'
      · rename_i hmn'
        cases hm'
        simp only [muPut, hmn', and_self, if_true, Option.some.injEq] at hk'
        subst hk'
        rw [hmn', huniq m r k hm (look m r k hm hmn hk) hkk]
      · rename_i hmn'
        exact R.inj m r m' r' k k' hm hm' (look m r k hm hmn hk) (look m' r' k' hm' hmn' hk') hkk
  · unfold muPut
    rw [if_neg (fun e => by have := e.1; rw [← this] at htick; simp at htick; simp only [Hp.put_tick] at ht; omega)]
    exact R.fresh t i j u ht
  · rw [Hp.put_rows] at hm
    unfold muPut
    split at hm
    · rename_i hmn
      cases hm
      rw [if_neg (fun e => by simp at hu; omega), hmn]
      exact hver u hu
    · rename_i hmn
      rw [if_neg (fun e => hmn e.1)]
      exact R.vers m r u hm hu

/-- What a step of one operation gives: a value, and memory that stands for the heap of rows. -/
structure Gives (P : Program) (mu : Nm → Nat → Option Loc) (pr : Bool → Nat → Prop) (w : World) (s : Sem Value) (r : AV) (h' : Hp) (mu' : Nm → Nat → Option Loc) (z : Value) (w' : World) : Prop where
  run : s.run P w = .ok z w'
  val : VR mu' pr w'.heap r z
  rel : Rel mu' pr h' w'
  ext : Ext mu pr w.heap mu' pr w'.heap
  fr : Fr w w'

theorem alloc_heap_new (w : World) (o : Obj) : (w.alloc o).heap[w.heap.size]? = some o := heap_alloc_new w o
theorem alloc_fr (w : World) (o : Obj) : Fr w (w.alloc o) := ⟨rfl, rfl, rfl, by simp⟩

/-- A new row, at a name that is free. -/
theorem Rel.new (R : Rel mu pr h w) (n : Nm) (esz : Nat) (elems : List (List AV)) (arr : Array Value) (ty : TypeId) (hc : CellsR mu pr w.heap arr 0 esz elems) (hfree : ∀ v, mu n v = none) (htick : n.1 < h.tick) :
    Rel (muPut mu n 0 ⟨w.heap.size, 0, esz, elems.length⟩) pr (h.put n ⟨0, esz, elems⟩) (w.alloc (.cells arr ty)) ∧
    Ext mu pr w.heap (muPut mu n 0 ⟨w.heap.size, 0, esz, elems.length⟩) pr (w.alloc (.cells arr ty)).heap := by
  refine R.put n 0 esz elems ⟨w.heap.size, 0, esz, elems.length⟩ arr ty (alloc_heap_new w _) rfl rfl hc (fun c hp => Nat.lt_irrefl _ (R.lt c _ hp)) (fun b hb hlt => Below.heap_alloc w _ b hlt) (fun a t fr ha => ?_) (fun m r k hm hk hkb => ?_)
    (.inr (hfree 0)) (fun u _ => hfree u) htick (alloc_fr w _)
  · simp at ha
  · exfalso
    obtain ⟨k', a, t, h1, h2, h3, _⟩ := R.row m r hm
    rw [hk] at h1
    cases h1
    rw [hkb] at h3
    simp at h3

/-- One element. -/
theorem CellsR.one {hp : Array Obj} {cs : List AV} {arr : Array Value} (h : VRs mu pr hp cs arr.toList) (ho : ones cs = true) : CellsR mu pr hp arr 0 cs.length [cs] := by
  refine ⟨fun i e he => ?_, fun i e j c he hj => ?_⟩
  · cases i with
    | zero => simp at he; rw [he]
    | succ i => simp at he
  · cases i with
    | zero =>
      simp at he
      subst he
      obtain ⟨u, hu, r⟩ := h.2 j c hj
      exact ⟨ones_get ho hj, u, by simpa using hu, r⟩
    | succ i => simp at he

def allocA (P : Program) (t : TypeId) (h : Hp) (n : Nm) : Option (AV × Hp) :=
  match tzero P t with
  | some z => if ones z then some (.ptr n 0 0 0, h.put n ⟨0, z.length, [z]⟩) else none
  | none => none

theorem run_newRow (P : Program) (w : World) (ty : TypeId) (arr : Array Value) : (newRow ty arr).run P w = .ok ⟨w.heap.size, 0, none⟩ (w.alloc (.cells arr ty)) := by
  simp [newRow, newObj, Sem.run]

theorem allocA_ok (R : Rel mu pr h w) {t : TypeId} {n : Nm} {r : AV} {h' : Hp} (hfree : ∀ v, mu n v = none) (htick : n.1 < h.tick) (he : allocA P t h n = some (r, h')) (o : Value) :
    ∃ mu' z w', Gives P mu pr w (Instr.alloc t true o) r h' mu' z w' ∧ ∀ m v, m ≠ n → mu' m v = mu m v := by
  unfold allocA at he
  split at he
  case h_2 => simp at he
  case h_1 zs hz =>
    split at he
    case isFalse => simp at he
    case isTrue ho =>
      simp only [Option.some.injEq, Prod.mk.injEq] at he
      obtain ⟨rfl, rfl⟩ := he
      obtain ⟨v, hv1, hv2, _⟩ := tzero_run (mu := mu) (pr := pr) (hp := w.heap) hz w
      obtain ⟨h1, h2⟩ := R.new n zs.length [zs] v.cells t (.one hv2 ho) hfree htick
      refine ⟨_, .pointer (some ⟨w.heap.size, 0, none⟩), _, ⟨?_, ?_, h1, h2, alloc_fr w _⟩, fun m v hm => by simp [muPut, hm]⟩
      · simp [Instr.alloc, newVar, hv1, run_newRow]
      · have := VR.ptr (mu := muPut mu n 0 ⟨w.heap.size, 0, zs.length, 1⟩) (pr := pr) (hp := (w.alloc (.cells v.cells t)).heap) n 0 0 0 _ (by simp [muPut]; rfl)
        simpa using this

def boxA (x : AV) (h : Hp) (n : Nm) : Option (AV × Hp) :=
  if x.stored then some (.ptr n 0 0 0, h.put n ⟨0, x.cells.length, [x.cells]⟩) else none

theorem boxA_ok (R : Rel mu pr h w) {t : TypeId} {n : Nm} {x r : AV} {u : Value} {h' : Hp} (hu : VR mu pr w.heap x u) (hfree : ∀ v, mu n v = none) (htick : n.1 < h.tick) (he : boxA x h n = some (r, h')) :
    ∃ mu' z w', Gives P mu pr w (Instr.box t u) r h' mu' z w' ∧ ∀ m v, m ≠ n → mu' m v = mu m v := by
  unfold boxA at he
  split at he
  case isFalse => simp at he
  case isTrue hs =>
    simp only [Option.some.injEq, Prod.mk.injEq] at he
    obtain ⟨rfl, rfl⟩ := he
    obtain ⟨k1, k2, k3⟩ := cells_ok hu hs
    obtain ⟨h1, h2⟩ := R.new n x.cells.length [x.cells] u.cells t (.one k1 k2) hfree htick
    refine ⟨_, .pointer (some ⟨w.heap.size, 0, none⟩), _, ⟨?_, ?_, h1, h2, alloc_fr w _⟩, fun m v hm => by simp [muPut, hm]⟩
    · simp [Instr.box, newVar, run_newRow]
    · have := VR.ptr (mu := muPut mu n 0 ⟨w.heap.size, 0, x.cells.length, 1⟩) (pr := pr) (hp := (w.alloc (.cells u.cells t)).heap) n 0 0 0 _ (by simp [muPut]; rfl)
      simpa using this

/-- Elements, one behind the other. -/
theorem CellsR.flat {hp : Array Obj} {esz : Nat} : ∀ (elems : List (List AV)) (vs : List Value), (∀ e ∈ elems, e.length = esz ∧ ones e = true) → VRs mu pr hp elems.flatten vs → CellsR mu pr hp vs.toArray 0 esz elems := by
  intro elems vs hall hv
  have key : ∀ (l : List (List AV)) (i : Nat) (e : List AV) (j : Nat) (c : AV), (∀ e ∈ l, e.length = esz) → l[i]? = some e → e[j]? = some c → l.flatten[i * esz + j]? = some c := by
    intro l
    induction l with
    | nil => intro i e j c _ h; simp at h
    | cons x l ih =>
      intro i e j c hl hi hj
      have hx := hl x (by simp)
      cases i with
      | zero =>
        simp at hi
        subst hi
        have : j < x.length := (List.getElem?_eq_some_iff.1 hj).1
        simp only [List.flatten_cons, Nat.zero_mul, Nat.zero_add]
        rw [List.getElem?_append_left this]
        exact hj
      | succ i =>
        simp only [List.getElem?_cons_succ] at hi
        simp only [List.flatten_cons]
        rw [List.getElem?_append_right (by rw [hx, Nat.add_mul]; omega), hx, show (i + 1) * esz + j - esz = i * esz + j by rw [Nat.add_mul]; omega]
        exact ih i e j c (fun e he => hl e (by simp [he])) hi hj
  refine ⟨fun i e he => (hall e (List.mem_of_getElem? he)).1, fun i e j c he hj => ⟨ones_get (hall e (List.mem_of_getElem? he)).2 hj, ?_⟩⟩
  obtain ⟨u, hu, r⟩ := hv.2 _ c (key elems i e j c (fun e he => (hall e he).1) he hj)
  exact ⟨u, by simpa using hu, r⟩

end
end Go.Proofs.Ytfgaoojogididaa.AM
