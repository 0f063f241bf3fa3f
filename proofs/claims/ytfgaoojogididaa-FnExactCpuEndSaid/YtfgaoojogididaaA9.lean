/-
  The A-machine, part 9: values as trees (lent to a call, or handed back by one), values that may be kept; what a step leaves ('After').
-/
import Derived.Test.YtfgaoojogididaaA8
set_option linter.unusedVariables false
set_option linter.unusedSimpArgs false
namespace Go.Proofs.Ytfgaoojogididaa.AM
open Go.RowKit

/-- 'a' read as a tree 't'; c: whether what is lent may be read. -/
inductive DR (c : Bool) (rows : Nm → Option Row) : AV → AV → Prop
  | int (k : IntKind) (n : Int) : DR c rows (.int k n) (.int k n)
  | bool (b : Bool) : DR c rows (.bool b) (.bool b)
  | str (s : ByteArray) : DR c rows (.str s) (.str s)
  | nilp : DR c rows .nilp .nilp
  | nilif : DR c rows .nilif .nilif
  | errv : DR c rows .errv .errv
  | nilsl : DR c rows .nilsl (.tr c [])
  | tr0 (b : Bool) : DR c rows (.tr b []) (.tr c [])
  | tr (b : Bool) (es ts : List (List AV)) : (b = true → c = true) → ts.length = es.length → (∀ (i : Nat) (e t : List AV), es[i]? = some e → ts[i]? = some t → t.length = e.length) →
      (∀ (i : Nat) (e t : List AV) (j : Nat) (x y : AV), es[i]? = some e → ts[i]? = some t → e[j]? = some x → t[j]? = some y → DR c rows x y) → DR c rows (.tr b es) (.tr c ts)
  | sl (n : Nm) (v off len : Nat) (r : Row) (ts : List (List AV)) : rows n = some r → r.ver = v → off + len ≤ r.elems.length → ts.length = len →
      (∀ (i : Nat) (e t : List AV), r.elems[off + i]? = some e → ts[i]? = some t → t.length = e.length) →
      (∀ (i : Nat) (e t : List AV) (j : Nat) (x y : AV), r.elems[off + i]? = some e → ts[i]? = some t → e[j]? = some x → t[j]? = some y → DR c rows x y) → DR c rows (.sl n v off len) (.tr c ts)
  | ptr (n : Nm) (v i off : Nat) (r : Row) (e ts : List AV) : rows n = some r → r.ver = v → r.elems[i]? = some e → ts.length = e.length - off →
      (∀ (j : Nat) (x y : AV), e[off + j]? = some x → ts[j]? = some y → DR c rows x y) → DR c rows (.ptr n v i off) (.tptr c ts)
  | tptr (b : Bool) (cs ts : List AV) : (b = true → c = true) → ts.length = cs.length → (∀ (j : Nat) (x y : AV), cs[j]? = some x → ts[j]? = some y → DR c rows x y) → DR c rows (.tptr b cs) (.tptr c ts)
  | agg (cs ts : List AV) : ts.length = cs.length → (∀ (j : Nat) (x y : AV), cs[j]? = some x → ts[j]? = some y → DR c rows x y) → DR c rows (.agg cs) (.agg ts)
  | tup (cs ts : List AV) : ts.length = cs.length → (∀ (j : Nat) (x y : AV), cs[j]? = some x → ts[j]? = some y → DR c rows x y) → DR c rows (.tup cs) (.tup ts)
  | fn (f : FuncId) (cs ts : List AV) : ts.length = cs.length → (∀ (j : Nat) (x y : AV), cs[j]? = some x → ts[j]? = some y → DR c rows x y) → DR c rows (.fn f cs) (.fn f ts)

theorem DR.one {c : Bool} {rows : Nm → Option Row} {a t : AV} (h : DR c rows a t) (ho : a.one = true) : t.one = true := by
  cases h <;> first | rfl | simp [AV.one] at ho

/-- In a greater heap the same. -/
theorem DR.mono {c : Bool} {rows rows' : Nm → Option Row} (hr : ∀ n r, rows n = some r → rows' n = some r) {a t : AV} (h : DR c rows a t) : DR c rows' a t := by
  induction h with
  | int k n => exact .int k n
  | bool b => exact .bool b
  | str s => exact .str s
  | nilp => exact .nilp
  | nilif => exact .nilif
  | errv => exact .errv
  | nilsl => exact .nilsl
  | tr0 b => exact .tr0 b
  | tr b es ts h1 h2 h3 _ ih => exact .tr b es ts h1 h2 h3 ih
  | sl n v off len r ts h1 h2 h3 h4 h5 _ ih => exact .sl n v off len r ts (hr _ _ h1) h2 h3 h4 h5 ih
  | ptr n v i off r e ts h1 h2 h3 h4 _ ih => exact .ptr n v i off r e ts (hr _ _ h1) h2 h3 h4 ih
  | tptr b cs ts h1 h2 _ ih => exact .tptr b cs ts h1 h2 ih
  | agg cs ts h1 _ ih => exact .agg cs ts h1 ih
  | tup cs ts h1 _ ih => exact .tup cs ts h1 ih
  | fn f cs ts h1 _ ih => exact .fn f cs ts h1 ih

section
variable {P : Program} {mu mu' : Nm → Nat → Option Loc} {pr pr' : Bool → Nat → Prop} {hp hp' : Array Obj} {h h' : Hp} {w w' : World}

theorem lt_get {α : Type} {l : List α} {i : Nat} {x : α} (h : l[i]? = some x) : i < l.length := (List.getElem?_eq_some_iff.1 h).1
theorem get_of_len {α β : Type} {l : List α} {m : List β} (hl : m.length = l.length) {i : Nat} {x : β} (h : m[i]? = some x) : ∃ y, l[i]? = some y :=
  ⟨l[i]'(by rw [← hl]; exact lt_get h), by simp⟩

/-- The tree stands for the same value, where the blocks that are read count as kept there. -/
theorem DR.ok {c : Bool} (R : Rel mu pr h w) (hpr : ∀ b k, pr b k → (b = true → c = true) → pr' c k) (hrow : ∀ n r l, h.rows n = some r → mu n r.ver = some l → pr' c l.b)
    {a t : AV} (hd : DR c h.rows a t) : ∀ {u : Value}, VR mu pr w.heap a u → VR mu' pr' w.heap t u := by
  induction hd with
  | int k n => intro u hu; cases hu; exact .int k n
  | bool b => intro u hu; cases hu; exact .bool b
  | str s => intro u hu; cases hu; exact .str s
  | nilp => intro u hu; cases hu; exact .nilp
  | nilif => intro u hu; cases hu; exact .nilif
  | errv => intro u hu; cases hu; exact .errv _ _
  | nilsl => intro u hu; cases hu; exact .tr0 _ _ _
  | tr0 b =>
    intro u hu
    cases hu with
    | tr0 => exact .tr0 _ _ _
    | tr => exact .tr0 _ _ _
  | tr b es ts h1 h2 h3 h4 ih =>
    intro u hu
    cases hu with
    | tr0 g a cap =>
      have : ts = [] := List.eq_nil_of_length_eq_zero (by simpa using h2)
      subst this
      exact .tr0 _ _ _
    | tr g bk o cap esz arr ty fr _ us g1 g2 g3 g4 g5 g6 g7 =>
      rw [← h2]
      refine .tr c bk o cap esz arr ty fr ts us (hpr _ _ g1 h1) g2 (by omega) (fun i t hi => ?_) (fun i t j y hi hj => ?_) (fun i t j y hi hj => ?_) (fun i t j y hi hj => ?_) <;>
        obtain ⟨e, he⟩ := get_of_len h2 hi
      · rw [h3 i e t he hi]; exact g4 i e he
      all_goals obtain ⟨x, hx⟩ := get_of_len (h3 i e t he hi) hj
      · exact g5 i e j x he hx
      · exact (h4 i e t j x y he hi hx hj).one (g6 i e j x he hx)
      · exact ih i e t j x y he hi hx hj (g7 i e j x he hx)
  | sl n v off len r ts h1 h2 h3 h4 h5 h6 ih =>
    intro u hu
    cases hu with
    | sl _ _ _ _ cap ao l arr0 ty0 fr0 g1 g2 g3 g4 g5 g6 g7 g8 =>
      obtain ⟨l2, arr, ty, k1, k2, k3, k4, k5, k6⟩ := R.row n r h1
      rw [h2, g1] at k1
      cases k1
      rcases Nat.eq_zero_or_pos len with h0 | h0
      · subst h0
        have : ts = [] := List.eq_nil_of_length_eq_zero h4
        subst this
        exact .tr0 _ _ _
      · rw [g8 (by omega)]
        have hget : ∀ (i : Nat) (t : List AV), ts[i]? = some t → ∃ e, r.elems[off + i]? = some e := fun i t hi => ⟨r.elems[off + i]'(by have := lt_get hi; omega), by simp⟩
        have key : ∀ (i : Nat) (e : List AV) (j : Nat) (x : AV), r.elems[off + i]? = some e → e[j]? = some x → x.one = true ∧ ∃ u, arr[l.o + off * l.esz + i * l.esz + j]? = some u ∧ VR mu pr w.heap x u := by
          intro i e j x he hx
          obtain ⟨q1, u, q2, q3⟩ := k6.2 (off + i) e j x he hx
          exact ⟨q1, u, by rw [← q2, Nat.add_mul]; congr 1; omega, q3⟩
        have htl : ts.length = len := h4
        have hl' : ts.length ≤ cap := by omega
        have hfin := VR.tr (mu := mu') (pr := pr') (hp := w.heap) c l.b (l.o + off * l.esz) cap l.esz arr ty (0, 0) ts (fun i j => (arr[l.o + off * l.esz + i * l.esz + j]?).getD undef) (hrow n r l h1 (by rw [h2]; exact g1)) k3 hl'
          (fun i t hi => by obtain ⟨e, he⟩ := hget i t hi; rw [h5 i e t he hi]; exact k6.1 _ e he)
          (fun i t j y hi hj => by
            obtain ⟨e, he⟩ := hget i t hi
            obtain ⟨x, hx⟩ := get_of_len (h5 i e t he hi) hj
            obtain ⟨_, u, q2, _⟩ := key i e j x he hx
            simp [q2])
          (fun i t j y hi hj => by
            obtain ⟨e, he⟩ := hget i t hi
            obtain ⟨x, hx⟩ := get_of_len (h5 i e t he hi) hj
            exact (h6 i e t j x y he hi hx hj).one (key i e j x he hx).1)
          (fun i t j y hi hj => by
            obtain ⟨e, he⟩ := hget i t hi
            obtain ⟨x, hx⟩ := get_of_len (h5 i e t he hi) hj
            obtain ⟨_, u, q2, q3⟩ := key i e j x he hx
            simp only [q2, Option.getD_some]
            exact ih i e t j x y he hi hx hj q3)
        rw [htl] at hfin
        exact hfin
  | ptr n v i off r e ts h1 h2 h3 h4 h5 ih =>
    intro u hu
    cases hu with
    | ptr _ _ _ _ l hl =>
      obtain ⟨l2, arr, ty, k1, k2, k3, k4, k5, k6⟩ := R.row n r h1
      rw [h2, hl] at k1
      cases k1
      have key : ∀ (j : Nat) (x : AV), e[j]? = some x → x.one = true ∧ ∃ u, arr[l.o + i * l.esz + j]? = some u ∧ VR mu pr w.heap x u := fun j x hx => k6.2 i e j x h3 hx
      have hget : ∀ (j : Nat) (y : AV), ts[j]? = some y → ∃ x, e[off + j]? = some x := fun j y hj => ⟨e[off + j]'(by have := lt_get hj; omega), by simp⟩
      refine .tptr c l.b _ arr ty (0, 0) ts (fun j => (arr[l.o + i * l.esz + off + j]?).getD undef) (hrow n r l h1 (by rw [h2]; exact hl)) k3 (fun j y hj => ?_) (fun j y hj => ?_) (fun j y hj => ?_) <;>
        obtain ⟨x, hx⟩ := hget j y hj <;> obtain ⟨q1, u, q2, q3⟩ := key _ x hx <;> rw [← Nat.add_assoc] at q2
      · simp [q2]
      · exact (h5 j x y hx hj).one q1
      · simp only [q2, Option.getD_some]
        exact ih j x y hx hj q3
  | tptr b cs ts h1 h2 h3 ih =>
    intro u hu
    cases hu with
    | tptr g bk o arr ty fr _ us g1 g2 g3 g4 g5 =>
      refine .tptr c bk o arr ty fr ts us (hpr _ _ g1 h1) g2 (fun j y hj => ?_) (fun j y hj => ?_) (fun j y hj => ?_) <;> obtain ⟨x, hx⟩ := get_of_len h2 hj
      · exact g3 j x hx
      · exact (h3 j x y hx hj).one (g4 j x hx)
      · exact ih j x y hx hj (g5 j x hx)
  | agg cs ts h1 h2 ih =>
    intro u hu
    cases hu with
    | agg _ carr us g1 g2 g3 g4 =>
      refine .agg ts carr us (by rw [g1, h1]) (fun j y hj => ?_) (fun j y hj => ?_) (fun j y hj => ?_) <;> obtain ⟨x, hx⟩ := get_of_len h1 hj
      · exact g2 j x hx
      · exact (h2 j x y hx hj).one (g3 j x hx)
      · exact ih j x y hx hj (g4 j x hx)
  | tup cs ts h1 h2 ih =>
    intro u hu
    cases hu with
    | tup _ carr us g1 g2 g3 =>
      refine .tup ts carr us (by rw [g1, h1]) (fun j y hj => ?_) (fun j y hj => ?_) <;> obtain ⟨x, hx⟩ := get_of_len h1 hj
      · exact g2 j x hx
      · exact ih j x y hx hj (g3 j x hx)
  | fn f cs ts h1 h2 ih =>
    intro u hu
    cases hu with
    | fn _ _ carr us g1 g2 g3 =>
      refine .fn f ts carr us (by rw [g1, h1]) (fun j y hj => ?_) (fun j y hj => ?_) <;> obtain ⟨x, hx⟩ := get_of_len h1 hj
      · exact g2 j x hx
      · exact ih j x y hx hj (g3 j x hx)

/-- Nothing lent in it. -/
inductive Cl : AV → Prop
  | undef : Cl .undef
  | int (k : IntKind) (n : Int) : Cl (.int k n)
  | bool (b : Bool) : Cl (.bool b)
  | str (s : ByteArray) : Cl (.str s)
  | nilp : Cl .nilp
  | nilif : Cl .nilif
  | errv : Cl .errv
  | nilsl : Cl .nilsl
  | tr0 (b : Bool) : Cl (.tr b [])
  | tr (es : List (List AV)) : (∀ (i : Nat) (e : List AV) (j : Nat) (x : AV), es[i]? = some e → e[j]? = some x → Cl x) → Cl (.tr false es)
  | sl (n : Nm) (v off len : Nat) : Cl (.sl n v off len)
  | ptr (n : Nm) (v i off : Nat) : Cl (.ptr n v i off)
  | tptr (cs : List AV) : (∀ (j : Nat) (x : AV), cs[j]? = some x → Cl x) → Cl (.tptr false cs)
  | agg (cs : List AV) : (∀ (j : Nat) (x : AV), cs[j]? = some x → Cl x) → Cl (.agg cs)
  | tup (cs : List AV) : (∀ (j : Nat) (x : AV), cs[j]? = some x → Cl x) → Cl (.tup cs)
  | fn (f : FuncId) (cs : List AV) : (∀ (j : Nat) (x : AV), cs[j]? = some x → Cl x) → Cl (.fn f cs)

theorem Cl.ok (hpr : ∀ k, pr false k → pr' false k) (hmu : ∀ n v l, mu n v = some l → mu' n v = some l) {a : AV} (hc : Cl a) : ∀ {u : Value}, VR mu pr hp a u → VR mu' pr' hp a u := by
  induction hc with
  | undef => intro u _; exact .undef u
  | int k n => intro u hu; cases hu; exact .int k n
  | bool b => intro u hu; cases hu; exact .bool b
  | str s => intro u hu; cases hu; exact .str s
  | nilp => intro u hu; cases hu; exact .nilp
  | nilif => intro u hu; cases hu; exact .nilif
  | errv => intro u hu; cases hu; exact .errv _ _
  | nilsl => intro u hu; cases hu; exact .nilsl
  | tr0 b =>
    intro u hu
    cases hu with
    | tr0 => exact .tr0 _ _ _
    | tr => exact .tr0 _ _ _
  | tr es _ ih =>
    intro u hu
    cases hu with
    | tr0 => exact .tr0 _ _ _
    | tr g b o cap esz arr ty fr _ us g1 g2 g3 g4 g5 g6 g7 => exact .tr false b o cap esz arr ty fr es us (hpr _ g1) g2 g3 g4 g5 g6 (fun i e j x hi hj => ih i e j x hi hj (g7 i e j x hi hj))
  | sl n v off len =>
    intro u hu
    cases hu with
    | sl _ _ _ _ cap ao l arr ty fr g1 g2 g3 g4 g5 g6 g7 g8 => exact .sl n v off len cap ao l arr ty fr (hmu _ _ _ g1) g2 g3 g4 g5 g6 g7 g8
  | ptr n v i off =>
    intro u hu
    cases hu with
    | ptr _ _ _ _ l hl => exact .ptr n v i off l (hmu _ _ _ hl)
  | tptr cs _ ih =>
    intro u hu
    cases hu with
    | tptr g b o arr ty fr _ us g1 g2 g3 g4 g5 => exact .tptr false b o arr ty fr cs us (hpr _ g1) g2 g3 g4 (fun j x hj => ih j x hj (g5 j x hj))
  | agg cs _ ih =>
    intro u hu
    cases hu with
    | agg _ carr us g1 g2 g3 g4 => exact .agg cs carr us g1 g2 g3 (fun j x hj => ih j x hj (g4 j x hj))
  | tup cs _ ih =>
    intro u hu
    cases hu with
    | tup _ carr us g1 g2 g3 => exact .tup cs carr us g1 g2 (fun j x hj => ih j x hj (g3 j x hj))
  | fn f cs _ ih =>
    intro u hu
    cases hu with
    | fn _ _ carr us g1 g2 g3 => exact .fn f cs carr us g1 g2 (fun j x hj => ih j x hj (g3 j x hj))

def ClRow (r : Row) : Prop := ∀ (i : Nat) (e : List AV) (j : Nat) (x : AV), r.elems[i]? = some e → e[j]? = some x → Cl x

/-- What a step leaves ('B': names below that tick that are free stay free). -/
structure AfterB (B : Nat) (mu : Nm → Nat → Option Loc) (pr : Bool → Nat → Prop) (h : Hp) (w : World) (mu' : Nm → Nat → Option Loc) (pr' : Bool → Nat → Prop) (h' : Hp) (w' : World) : Prop where
  rel : Rel mu' pr' h' w'
  ext : Ext mu pr w.heap mu' pr' w'.heap
  fr : Fr w w'
  grow : ∀ b, pr' false b → pr false b ∨ w.heap.size ≤ b
  tru : ∀ b, pr' true b → pr true b
  names : ∀ n, n.1 < B → (∀ v, mu n v = none) → ∀ v, mu' n v = none
  tick : h.tick ≤ h'.tick

def After (mu : Nm → Nat → Option Loc) (pr : Bool → Nat → Prop) (h : Hp) (w : World) (mu' : Nm → Nat → Option Loc) (pr' : Bool → Nat → Prop) (h' : Hp) (w' : World) : Prop := AfterB h.tick mu pr h w mu' pr' h' w'

theorem AfterB.refl (B : Nat) (R : Rel mu pr h w) : AfterB B mu pr h w mu pr h w := ⟨R, .refl, .refl w, fun b hb => .inl hb, fun b hb => hb, fun n _ hn => hn, Nat.le_refl _⟩

theorem AfterB.trans {B : Nat} {mu'' : Nm → Nat → Option Loc} {pr'' : Bool → Nat → Prop} {h'' : Hp} {w'' : World} (x : AfterB B mu pr h w mu' pr' h' w') (y : AfterB B mu' pr' h' w' mu'' pr'' h'' w'') : AfterB B mu pr h w mu'' pr'' h'' w'' := by
  refine ⟨y.rel, x.ext.trans y.ext, x.fr.trans y.fr, fun b hb => ?_, fun b hb => x.tru b (y.tru b hb), fun n hn hf => y.names n hn (x.names n hn hf), Nat.le_trans x.tick y.tick⟩
  rcases y.grow b hb with h1 | h1
  · exact x.grow b h1
  · exact .inr (Nat.le_trans x.fr.size h1)

theorem AfterB.lower {B B' : Nat} (hB : B' ≤ B) (x : AfterB B mu pr h w mu' pr' h' w') : AfterB B' mu pr h w mu' pr' h' w' :=
  ⟨x.rel, x.ext, x.fr, x.grow, x.tru, fun n hn hf => x.names n (Nat.lt_of_lt_of_le hn hB) hf, x.tick⟩

end
end Go.Proofs.Ytfgaoojogididaa.AM
