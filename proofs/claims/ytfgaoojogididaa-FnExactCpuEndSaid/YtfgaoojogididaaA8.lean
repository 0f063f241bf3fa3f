/-
  The A-machine, part 8: append, copy, clear.
-/
import Derived.Test.YtfgaoojogididaaA7
set_option linter.unusedVariables false
set_option linter.unusedSimpArgs false
namespace Go.Proofs.Ytfgaoojogididaa.AM
open Go.RowKit

/-- A slice's elements. -/
def srcElems (rows : Nm → Option Row) : AV → Option (List (List AV))
  | .nilsl => some []
  | .tr _ es => some es
  | .sl n v off len => match rows n with
    | some r => if r.ver = v ∧ off + len ≤ r.elems.length then some ((r.elems.drop off).take len) else none
    | none => none
  | _ => none

section
variable {P : Program} {mu mu' : Nm → Nat → Option Loc} {pr pr' : Bool → Nat → Prop} {hp hp' : Array Obj} {h : Hp} {w w' : World}

theorem srcElems_ok (R : Rel mu pr h w) {x : AV} {u : Value} {es : List (List AV)} {s : Nat} (hu : VR mu pr w.heap x u) (he : srcElems h.rows x = some es) (hs : ∀ e ∈ es, e.length = s) :
    ∃ a cap, u = .slice a es.length cap ∧ (∀ e ∈ es, ones e = true) ∧ (es ≠ [] → ∃ ad vs, a = some ad ∧ VRs mu pr w.heap es.flatten vs ∧ vs.length = es.length * s ∧ (∀ (j : Nat) (v : Value), vs[j]? = some v → w.cell? (ad.add j) = some v)) := by
  have fin : ∀ {arr : Array Value} {ty : TypeId} {fr : Nat × Nat} {b o esz : Nat} {elems : List (List AV)}, w.heap[b]? = some (.cells arr ty fr) → CellsR mu pr w.heap arr o esz elems → (∀ e ∈ elems, e.length = s) → elems ≠ [] →
      (∀ e ∈ elems, ones e = true) ∧ ∃ vs, VRs mu pr w.heap elems.flatten vs ∧ vs.length = elems.length * s ∧ (∀ (j : Nat) (v : Value), vs[j]? = some v → w.cell? (Addr.add ⟨b, o, none⟩ j) = some v) := by
    intro arr ty fr b o esz elems hb hc hl hne
    obtain ⟨vs, h1, h2, h3⟩ := CellsR.values elems o hc
    have hez : esz = s := by
      cases elems with
      | nil => exact absurd rfl hne
      | cons e es => rw [← hl e (by simp), hc.1 0 e rfl]
    refine ⟨fun e hm => ?_, vs, h1, by rw [h2, hez], fun j v hj => by rw [Addr.add_lit, cell_of_row w b (o + j) arr ty fr hb]; exact h3 j v hj⟩
    obtain ⟨i, hi⟩ := List.mem_iff_getElem?.1 hm
    exact ones_of fun j c hj => (hc.2 i e j c hi hj).1
  cases x with
  | nilsl =>
    simp [srcElems] at he
    subst he
    cases hu
    exact ⟨none, 0, rfl, by simp, fun h => absurd rfl h⟩
  | tr g elems =>
    simp [srcElems] at he
    subst he
    cases hu with
    | tr0 _ a cap => exact ⟨a, cap, rfl, by simp, fun h => absurd rfl h⟩
    | tr _ b o cap esz arr ty fr _ us h1 h2 h3 h4 h5 h6 h7 =>
      have hc : CellsR mu pr w.heap arr o esz elems := ⟨h4, fun i e j c g1 g2 => ⟨h6 i e j c g1 g2, us i j, h5 i e j c g1 g2, h7 i e j c g1 g2⟩⟩
      by_cases hne : elems = []
      · subst hne
        exact ⟨_, cap, rfl, by simp, fun h => absurd rfl h⟩
      · obtain ⟨g1, vs, g2, g3, g4⟩ := fin h2 hc hs hne
        exact ⟨_, cap, rfl, g1, fun _ => ⟨_, vs, rfl, g2, g3, g4⟩⟩
  | sl n ver off len =>
    simp only [srcElems] at he
    split at he
    case h_2 => simp at he
    case h_1 r hrow =>
      split at he
      case isFalse => simp at he
      case isTrue hc =>
        obtain ⟨rfl, c2⟩ := hc
        simp only [Option.some.injEq] at he
        subst he
        cases hu with
        | sl _ _ _ _ cap ao l arr ty fr g1 g2 g3 g4 g5 g6 g7 g8 =>
          obtain ⟨l2, arr2, ty2, k1, k2, k3, k4, k5, k6⟩ := R.row n r hrow
          rw [g1] at k1
          cases k1
          have hlen : ((r.elems.drop off).take len).length = len := by simp; omega
          refine ⟨some ⟨l.b, ao, none⟩, cap, by rw [hlen], ?_, fun hne => ?_⟩
          · by_cases hne : (r.elems.drop off).take len = []
            · rw [hne]; simp
            · exact (fin k3 ((k6.drop off).take len) hs hne).1
          · have hpos : 0 < len := by
              rcases Nat.eq_zero_or_pos len with h0 | h0
              · subst h0; simp at hne
              · exact h0
            obtain ⟨q1, vs, q2, q3, q4⟩ := fin k3 ((k6.drop off).take len) hs hne
            exact ⟨_, vs, rfl, q2, q3, by rw [g8 (by omega)]; exact q4⟩
  | _ => simp [srcElems] at he

def appendA (P : Program) (t : TypeId) (d x : AV) (h : Hp) (n : Nm) : Option (AV × Hp) :=
  match telem P t, srcElems h.rows x with
  | some e, some es => match tsz P e, tby P e, tzero P e with
    | some s, some b, some z => if 0 < s ∧ b ≤ 32768 ∧ z.length = s ∧ es.all (fun e => e.length == s) = true then match d with
        | .nilsl => if es = [] then some (.nilsl, h) else if es.length ≤ 4294967296 then some (.sl n 0 0 es.length, h.put n ⟨0, s, es⟩) else none
        | .sl m v off len => match h.rows m with
          | some r => if r.ver = v ∧ r.esz = s ∧ off + len ≤ r.elems.length ∧ len + es.length ≤ 4294967296 ∧ m.1 < h.tick then
              if es = [] then some (.sl m v off len, h)
              else if off + (len + es.length) ≤ r.elems.length then some (.sl m v off (len + es.length), h.put m ⟨v, s, r.elems.take (off + len) ++ es ++ r.elems.drop (off + (len + es.length))⟩)
              else some (.sl m (v + 1) 0 (len + es.length), h.put m ⟨v + 1, s, (r.elems.drop off).take len ++ es⟩)
            else none
          | none => none
        | _ => none
      else none
    | _, _, _ => none
  | _, _ => none

theorem run_append_zero (t ty e : TypeId) (i : TypeInfo) (ht : P.underlying t = some (.slice e)) (hi : P.info? e = some i) (base a : Option Addr) (sLen sCap c : Nat) (hcap : sLen ≤ sCap) (w : World) :
    (Builtin.append_ #[t, t] ty #[.slice base sLen sCap, .slice a 0 c]).run P w = .ok (.slice base sLen sCap) w := by
  have hf : (Builtin.firstCells i.size 0 (.slice a 0 c)).run P w = .ok #[] w := by
    cases a <;> simp [Builtin.firstCells, loadCells, loadCellsFrom]
  cases base <;> simp [Builtin.append_, run_underlying ht, sizeOf, typeInfo, hi, Builtin.lenOf, hcap, hf, storeCells]

theorem run_append_place (t ty e : TypeId) (i : TypeInfo) (ht : P.underlying t = some (.slice e)) (hi : P.info? e = some i)
    (g o sLen sCap : Nat) (cur : Array Value) (tt : TypeId) (w : World) (hg : w.heap[g]? = some (.cells cur tt (0, 0)))
    (a : Addr) (m c : Nat) (news : List Value) (hl : news.length = m * i.size) (hnews : ∀ j u, news[j]? = some u → w.cell? (a.add j) = some u) (h1 : ∀ u ∈ news, u.oneCell' = true)
    (hroom : sLen + m ≤ sCap) (hfit : o + sLen * i.size + news.length ≤ cur.size) :
    (Builtin.append_ #[t, t] ty #[.slice (some ⟨g, o, none⟩) sLen sCap, .slice (some a) m c]).run P w =
      .ok (.slice (some ⟨g, o, none⟩) (sLen + m) sCap) (w.setRow g (cur.toList.take (o + sLen * i.size) ++ news ++ cur.toList.drop (o + sLen * i.size + news.length)).toArray) := by
  have hf := run_firstCells_some (P := P) w i.size m a m c news hl hnews
  have hst := run_storeCells_at P g (o + sLen * i.size) tt news 0 cur w hg (by simpa using hfit) h1
  simp only [Nat.add_zero] at hst
  simp [Builtin.append_, run_underlying ht, sizeOf, typeInfo, hi, Builtin.lenOf, hroom, hf, Addr.add_lit, hst]

theorem drew_alloc_fr (w : World) (o : Obj) : Fr w (w.drew.alloc o) := ⟨rfl, rfl, rfl, by show w.heap.size ≤ (w.heap.push o).size; simp⟩

theorem flatten_len {s : Nat} : ∀ (es : List (List AV)), (∀ e ∈ es, e.length = s) → es.flatten.length = es.length * s
  | [], _ => by simp
  | e :: es, h => by
    simp only [List.flatten_cons, List.length_append, List.length_cons, h e (by simp), flatten_len es fun q hq => h q (by simp [hq]), Nat.add_mul]
    omega

theorem VRs.oneAll {cs : List AV} {vs : List Value} (h : VRs mu pr hp cs vs) (ho : ones cs = true) : ∀ u ∈ vs, u.oneCell' = true := by
  intro u hu
  obtain ⟨i, hi⟩ := List.mem_iff_getElem?.1 hu
  have hlt : i < cs.length := by rw [← h.1]; exact (List.getElem?_eq_some_iff.1 hi).1
  obtain ⟨u', hu', r⟩ := h.2 i cs[i] (by simp [hlt])
  rw [hi] at hu'
  cases hu'
  exact r.oneCell (ones_get ho (i := i) (by simp [hlt]))

theorem ones_flatten {es : List (List AV)} (h : ∀ e ∈ es, ones e = true) : ones es.flatten = true := by
  simp only [ones, List.all_eq_true, List.mem_flatten] at *
  rintro x ⟨l, hl, hx⟩
  exact h l hl x hx

theorem appendA_ok (R : Rel mu pr h w) {t ty : TypeId} {d x : AV} {u v : Value} {n : Nm} {r : AV} {h' : Hp} (hu : VR mu pr w.heap d u) (hv : VR mu pr w.heap x v)
    (hfree : ∀ v, mu n v = none) (htick : n.1 < h.tick) (he : appendA P t d x h n = some (r, h')) :
    ∃ mu' z w', Gives P mu pr w (Builtin.append_ #[t, t] ty #[u, v]) r h' mu' z w' ∧ ∀ m', m' ≠ n → (∀ v, mu m' v = none) → ∀ v, mu' m' v = none := by
  unfold appendA at he
  split at he
  case h_2 => simp at he
  case h_1 e es ht hsrc =>
    have hd := telem_inv ht
    split at he
    case h_2 => simp at he
    case h_1 s b z hs hb hz =>
      split at he
      case isFalse => simp at he
      case isTrue hc =>
        obtain ⟨c1, c2, c3, c4⟩ := hc
        have hels : ∀ e ∈ es, e.length = s := by simpa using c4
        obtain ⟨i, hi, hisz⟩ := tsz_inv hs
        have hiby : i.bytes = b := by
          obtain ⟨i', hi', hb'⟩ := tby_inv hb
          rw [hi] at hi'
          cases hi'
          exact hb'
        obtain ⟨zv, hz1, hz2, hz3⟩ := tzero_run (mu := mu) (pr := pr) (hp := w.heap) hz w
        have hzero := hz3 i hi
        have hzsz : zv.cells.size = s := by have := hz2.1; simp at this; omega
        obtain ⟨a, ca, rfl, hones, hsome⟩ := srcElems_ok R hv hsrc hels
        have hfits : ∀ need, need ≤ 4294967296 → need * i.bytes ≤ 140737488355328 := by
          intro need hn
          rw [hiby]
          have : need * b ≤ 4294967296 * 32768 := Nat.mul_le_mul hn c2
          omega
        split at he
        case h_3 => simp at he
        case h_1 =>
          split at he
          case isTrue hnil =>
            simp only [Option.some.injEq, Prod.mk.injEq] at he
            obtain ⟨rfl, rfl⟩ := he
            subst hnil
            cases hu
            exact ⟨mu, _, w, ⟨run_append_zero t ty e i hd hi none a 0 0 ca (Nat.le_refl 0) w, .nilsl, R, .refl, .refl w⟩, fun _ _ h => h⟩
          case isFalse hne =>
            split at he
            case isFalse => simp at he
            case isTrue hlen =>
              simp only [Option.some.injEq, Prod.mk.injEq] at he
              obtain ⟨rfl, rfl⟩ := he
              cases hu
              obtain ⟨ad, vs, rfl, q1, q2, q3⟩ := hsome hne
              have hpos : 0 < es.length := List.length_pos_iff.2 hne
              have hr := run_append_nil (P := P) w t ty e i zv hd hi hzero ad es.length ca vs (by rw [q2, hisz]) q3 hpos (by omega) (by have := hfits es.length hlen; omega)
              have hge := grownCap_ge w es.length 0 e
              have hcm := grownCap_le_maxLen w es.length 0 e (by unfold maxLen; omega)
              let arr : Array Value := vs.toArray ++ Builtin.zeroCells zv.cells (grownCap w es.length 0 e - es.length)
              have hvsz : vs.length = es.length * s := q2
              have hcells : CellsR mu pr w.heap arr 0 s es := by
                refine .ofVs (fun e he => ⟨hels e he, hones e he⟩) q1 (fun k u hk => ?_)
                have hlt := (List.getElem?_eq_some_iff.1 hk).1
                simp only [arr, Nat.zero_add]
                rw [Array.getElem?_append_left (by simpa using hlt)]
                simpa using hk
              have hasz : arr.size = grownCap w es.length 0 e * s := by
                simp only [arr, Array.size_append, List.size_toArray, size_zeroCells, hzsz, hvsz, ← Nat.add_mul]
                congr 1
                omega
              have R' : Rel mu pr h w.drew := ⟨R.row, R.inj, R.fresh, R.vers, R.lt⟩
              obtain ⟨h1, h2⟩ := R'.new n s es arr e hcells hfree htick
              refine ⟨_, _, _, ⟨hr, ?_, h1, h2, drew_alloc_fr w _⟩, fun m' hm hf v => by simp [muPut, hm, hf]⟩
              exact .newSl n 0 w.heap.size s es.length arr e (by simp [muPut]) (alloc_heap_new w.drew _) _ hge (by rw [hasz]; exact Nat.le_refl _) hcm
        case h_2 m v off len =>
          split at he
          case h_2 => simp at he
          case h_1 row hrow =>
            split at he
            case isFalse => simp at he
            case isTrue hcc =>
              obtain ⟨rfl, d2, d3, d4, d5⟩ := hcc
              cases hu with
              | sl _ _ _ _ cap ao l arr0 ty0 fr0 g1 g2 g3 g4 g5 g6 g7 g8 =>
                obtain ⟨l2, arr, tyr, k1, k2, k3, k4, k5, k6⟩ := R.row m row hrow
                rw [g1] at k1
                cases k1
                rw [k3] at g2
                simp only [Option.some.injEq, Obj.cells.injEq] at g2
                obtain ⟨rfl, rfl, rfl⟩ := g2
                have hesz : l.esz = s := k4.trans d2
                split at he
                case isTrue hnil =>
                  simp only [Option.some.injEq, Prod.mk.injEq] at he
                  obtain ⟨rfl, rfl⟩ := he
                  subst hnil
                  exact ⟨mu, _, w, ⟨run_append_zero t ty e i hd hi _ a len cap ca g3 w, .sl m row.ver off len cap ao l arr tyr (0, 0) g1 k3 g3 g4 g5 g6 g7 g8, R, .refl, .refl w⟩, fun _ _ h => h⟩
                case isFalse hne =>
                  obtain ⟨ad, vs, rfl, q1, q2, q3⟩ := hsome hne
                  have hfr : ∀ (v' : Nat) (l' : Loc) (m' : Nm), m' ≠ n → (∀ v, mu m' v = none) → ∀ v, muPut mu m v' l' m' v = none := by
                    intro v' l' m' _ hf v
                    unfold muPut
                    rw [if_neg (fun e => by have := hf row.ver; rw [e.1, g1] at this; cases this)]
                    exact hf v
                  have hpos : 0 < es.length := List.length_pos_iff.2 hne
                  have hone : ∀ u ∈ vs, u.oneCell' = true := q1.oneAll (ones_flatten hones)
                  have hnewlen : vs.length = es.length * s := q2
                  -- in place
                  have place : len + es.length ≤ cap → ∃ arr', arr'.size = arr.size ∧ (∀ k, arr'[k]? = if k < l.o + (off + len) * s then arr[k]? else if k < l.o + (off + len) * s + vs.length then vs[k - (l.o + (off + len) * s)]? else arr[k]?) ∧
                      ao = l.o + off * s ∧ (Builtin.append_ #[t, t] ty #[.slice (some ⟨l.b, ao, none⟩) len cap, .slice (some ad) es.length ca]).run P w = .ok (.slice (some ⟨l.b, ao, none⟩) (len + es.length) cap) (w.setRow l.b arr') := by
                    intro hroom
                    have hao := g8 (by omega)
                    rw [hesz] at hao
                    have hS : ao + len * s = l.o + (off + len) * s := by rw [hao, Nat.add_mul]; omega
                    have hfit : l.o + (off + len) * s + vs.length ≤ arr.size := by
                      have h1 : (off + len) * s + es.length * s ≤ (off + cap) * s := by rw [← Nat.add_mul]; exact Nat.mul_le_mul_right _ (by omega)
                      rw [hesz] at g6
                      omega
                    have hr := run_append_place (P := P) t ty e i hd hi l.b ao len cap arr tyr w k3 ad es.length ca vs (by rw [q2, hisz]) q3 hone hroom (by rw [hisz, hS]; exact hfit)
                    rw [hisz, hS] at hr
                    exact ⟨_, size_splice hfit, splice_get hfit, hao, hr⟩
                  -- cells behind, where it goes in place
                  have hnews : ∀ (arr' : Array Value) (S : Nat), (∀ k, arr'[k]? = if k < S then arr[k]? else if k < S + vs.length then vs[k - S]? else arr[k]?) → CellsR mu pr w.heap arr' S s es := by
                    intro arr' S hg
                    refine .ofVs (fun e he => ⟨hels e he, hones e he⟩) q1 (fun k u hk => ?_)
                    have hlt := (List.getElem?_eq_some_iff.1 hk).1
                    rw [hg, if_neg (by omega), if_pos (by omega), ← hk]
                    congr 1
                    omega
                  split at he
                  case isTrue hroomA =>
                    simp only [Option.some.injEq, Prod.mk.injEq] at he
                    obtain ⟨rfl, rfl⟩ := he
                    obtain ⟨arr', p1, p2, p3, p4⟩ := place (by omega)
                    have hcells : CellsR mu pr w.heap arr' l.o row.esz (row.elems.take (off + len) ++ es ++ row.elems.drop (off + (len + es.length))) := by
                      rw [d2]
                      rw [hesz] at k6
                      have e1 : (row.elems.take (off + len)).length = off + len := by simp; omega
                      have A := (k6.take (off + len)).congr (arr' := arr') (fun k hk1 hk2 => by
                        rw [e1] at hk2
                        rw [p2, if_pos hk2])
                      have B := A.append (bs := es) (by rw [e1]; exact hnews arr' _ p2)
                      refine B.append ?_
                      have e2 : (row.elems.take (off + len) ++ es).length = off + (len + es.length) := by simp; omega
                      rw [e2]
                      refine (k6.drop _).congr (fun k hk1 hk2 => ?_)
                      have : (off + (len + es.length)) * s = (off + len) * s + es.length * s := by rw [← Nat.add_mul]; congr 1; omega
                      rw [p2, if_neg (by omega), if_neg (by omega)]
                    obtain ⟨z1, z2, z3⟩ := R.write hrow g1 k3 p1 d5 (v' := row.ver) (l' := l) rfl k4 (by simp; omega) hcells (.inl ⟨rfl, rfl⟩)
                    have hmu : muPut mu m row.ver l = mu := by
                      funext q x
                      unfold muPut
                      split
                      · rename_i hm
                        rw [hm.1, hm.2, g1]
                      · rfl
                    rw [hmu, d2] at z1
                    rw [hmu] at z2
                    refine ⟨mu, _, _, ⟨p4, ?_, z1, z2, z3⟩, fun _ _ h => h⟩
                    exact .sl m row.ver off _ cap ao l arr' tyr (0, 0) g1 (setRow_heap w l.b arr arr' tyr (0, 0) k3) (by omega) (by omega) g5 (by rw [p1]; exact g6) g7 g8
                  case isFalse hroomA =>
                    simp only [Option.some.injEq, Prod.mk.injEq] at he
                    obtain ⟨rfl, rfl⟩ := he
                    have hkeep : (row.elems.drop off).take len ++ es = (row.elems.drop off).take len ++ es := rfl
                    have e1 : ((row.elems.drop off).take len).length = len := by simp; omega
                    by_cases hroom : len + es.length ≤ cap
                    · obtain ⟨arr', p1, p2, p3, p4⟩ := place hroom
                      have hcells : CellsR mu pr w.heap arr' (l.o + off * s) row.esz ((row.elems.drop off).take len ++ es) := by
                        rw [d2]
                        rw [hesz] at k6
                        have A := ((k6.drop off).take len).congr (arr' := arr') (fun k hk1 hk2 => by
                          rw [e1] at hk2
                          rw [p2, if_pos (by rw [Nat.add_mul]; omega)])
                        refine A.append ?_
                        rw [e1, Nat.add_assoc, ← Nat.add_mul]
                        exact hnews arr' _ p2
                      obtain ⟨z1, z2, z3⟩ := R.write hrow g1 k3 p1 d5 (v' := row.ver + 1) (l' := ⟨l.b, l.o + off * s, s, len + es.length⟩) rfl (by simp [d2]) (by simp; omega) hcells (.inr (by omega))
                      rw [d2] at z1
                      refine ⟨_, _, _, ⟨p4, ?_, z1, z2, z3⟩, hfr _ _⟩
                      refine .sl m (row.ver + 1) 0 _ cap ao ⟨l.b, l.o + off * s, s, len + es.length⟩ arr' tyr (0, 0) (by simp [muPut]) (setRow_heap w l.b arr arr' tyr (0, 0) k3) hroom (by simp) (by simpa using hroom) ?_ (by omega) (fun _ => by simp [p3])
                      rw [p1]
                      rw [hesz, Nat.add_mul] at g6
                      simp only [Nat.zero_add]
                      omega
                    · -- a new array
                      obtain ⟨ovs, o1, o2, o3⟩ := CellsR.values _ _ ((k6.drop off).take len)
                      have o2' : ovs.length = len * s := by rw [o2, e1, hesz]
                      have hao : 0 < len → ao = l.o + off * l.esz := fun hl0 => g8 (by omega)
                      have hold : ∀ (j : Nat) (v : Value), ovs[j]? = some v → w.cell? (Addr.add ⟨l.b, ao, none⟩ j) = some v := by
                        intro j v hj
                        have hlt := (List.getElem?_eq_some_iff.1 hj).1
                        have hl0 : 0 < len := by
                          rcases Nat.eq_zero_or_pos len with h0 | h0
                          · rw [o2', h0] at hlt; simp at hlt
                          · exact h0
                        rw [Addr.add_lit, cell_of_row w l.b _ arr tyr (0, 0) k3, hao hl0]
                        exact o3 j v hj
                      have hr := run_append_grow (P := P) w t ty e i zv hd hi hzero ⟨l.b, ao, none⟩ len cap ovs (by rw [o2', hisz]) hold ad es.length ca vs (by rw [q2, hisz]) q3 (by omega) (by omega) (growslice_fits (by omega) (hfits _ d4))
                      have hge := grownCap_ge w (len + es.length) cap e
                      have hcm := grownCap_le_maxLen w (len + es.length) cap e (by unfold maxLen; omega)
                      let arr' : Array Value := ovs.toArray ++ vs.toArray ++ Builtin.zeroCells zv.cells (grownCap w (len + es.length) cap e - (len + es.length))
                      have hall : ∀ e ∈ (row.elems.drop off).take len ++ es, e.length = s ∧ ones e = true := by
                        intro q hq
                        rcases List.mem_append.1 hq with hq | hq
                        · obtain ⟨j, hj⟩ := List.mem_iff_getElem?.1 hq
                          have := ((k6.drop off).take len)
                          exact ⟨by rw [← hesz]; exact this.1 j q hj, ones_of fun a c ha => (this.2 j q a c hj ha).1⟩
                        · exact ⟨hels q hq, hones q hq⟩
                      have hcells : CellsR mu pr w.heap arr' 0 s ((row.elems.drop off).take len ++ es) := by
                        refine .ofVs hall (by rw [List.flatten_append]; exact o1.append q1) (fun k u hk => ?_)
                        have hlt := (List.getElem?_eq_some_iff.1 hk).1
                        simp only [arr', Nat.zero_add]
                        rw [Array.getElem?_append_left (by simpa using hlt)]
                        simpa using hk
                      have hasz : arr'.size = grownCap w (len + es.length) cap e * s := by
                        simp only [arr', Array.size_append, List.size_toArray, size_zeroCells, hzsz, hnewlen, o2', ← Nat.add_mul]
                        congr 1
                        omega
                      obtain ⟨h1, h2⟩ := R.put (w' := w.drew.alloc (.cells arr' e)) m (row.ver + 1) s ((row.elems.drop off).take len ++ es) ⟨w.heap.size, 0, s, len + es.length⟩ arr' e (alloc_heap_new w.drew _) rfl (by simp; omega) hcells
                        (fun c hp => Nat.lt_irrefl _ (R.lt c _ hp)) (fun b hb hlt => Below.heap_alloc w.drew _ b hlt) (fun a t fr ha => by simp at ha) (fun q x k hm hk hkb => by
                          exfalso
                          obtain ⟨k', a, t, f1, f2, f3, _⟩ := R.row q x hm
                          rw [hk] at f1
                          cases f1
                          rw [hkb] at f3
                          simp at f3) (.inr (R.vers m row _ hrow (by omega))) (fun u hu => R.vers m row u hrow (by omega)) d5 (drew_alloc_fr w _)
                      refine ⟨_, _, _, ⟨hr, ?_, h1, h2, drew_alloc_fr w _⟩, hfr _ _⟩
                      exact .newSl m (row.ver + 1) w.heap.size s (len + es.length) arr' e (by simp [muPut]) (alloc_heap_new w.drew _) _ hge (by rw [hasz]; exact Nat.le_refl _) hcm

/-! ### copy, clear -/
/-- Elements of a slice are replaced, from its first on. -/
def overA (rows : Nm → Option Row) (tick : Nat) (s : Nat) (d : AV) (es : List (List AV)) : Option (Nm × Row) :=
  match d with
  | .sl m v off len => match rows m with
    | some r => if r.ver = v ∧ r.esz = s ∧ off + len ≤ r.elems.length ∧ es.length ≤ len ∧ m.1 < tick then some (m, ⟨v, s, r.elems.take off ++ es ++ r.elems.drop (off + es.length)⟩) else none
    | none => none
  | _ => none

theorem overA_ok (R : Rel mu pr h w) {d : AV} {u : Value} {s : Nat} {es : List (List AV)} {m : Nm} {q : Row} (hu : VR mu pr w.heap d u) (he : overA h.rows h.tick s d es = some (m, q)) (hs : ∀ e ∈ es, e.length = s) (hones : ∀ e ∈ es, ones e = true) (hne : es ≠ []) (h0 : 0 < s)
    {vs : List Value} (hv : VRs mu pr w.heap es.flatten vs) :
    ∃ mu' w' a n c, u = .slice (some a) n c ∧ es.length ≤ n ∧ (storeCells a vs).run P w = .ok () w' ∧ Rel mu' pr (h.put m q) w' ∧ Ext mu pr w.heap mu' pr w'.heap ∧ Fr w w' ∧ ∀ n v, mu' n v = mu n v := by
  unfold overA at he
  split at he
  case h_2 => simp at he
  case h_1 m' v off len =>
    split at he
    case h_2 => simp at he
    case h_1 row hrow =>
      split at he
      case isFalse => simp at he
      case isTrue hc =>
        obtain ⟨rfl, d2, d3, d4, d5⟩ := hc
        simp only [Option.some.injEq, Prod.mk.injEq] at he
        obtain ⟨rfl, rfl⟩ := he
        cases hu with
        | sl _ _ _ _ cap ao l arr0 ty0 fr0 g1 g2 g3 g4 g5 g6 g7 g8 =>
          obtain ⟨l2, arr, tyr, k1, k2, k3, k4, k5, k6⟩ := R.row m' row hrow
          rw [g1] at k1
          cases k1
          rw [k3] at g2
          simp only [Option.some.injEq, Obj.cells.injEq] at g2
          obtain ⟨rfl, rfl, rfl⟩ := g2
          have hesz : l.esz = s := k4.trans d2
          have hpos : 0 < es.length := List.length_pos_iff.2 hne
          have hao := g8 (by omega)
          have hvl : vs.length = es.length * s := by rw [hv.1, flatten_len es hs]
          have hfit : ao + vs.length ≤ arr.size := by
            rw [hao, hvl, ← hesz]
            have : off * l.esz + es.length * l.esz ≤ (off + cap) * l.esz := by rw [← Nat.add_mul]; exact Nat.mul_le_mul_right _ (by omega)
            omega
          let arr' : Array Value := (arr.toList.take ao ++ vs ++ arr.toList.drop (ao + vs.length)).toArray
          have p2 : ∀ k, arr'[k]? = _ := fun k => splice_get hfit k
          have hcells : CellsR mu pr w.heap arr' l.o row.esz (row.elems.take off ++ es ++ row.elems.drop (off + es.length)) := by
            rw [d2]
            rw [hesz] at k6 hao
            have e1 : (row.elems.take off).length = off := by simp; omega
            have A := (k6.take off).congr (arr' := arr') (fun k hk1 hk2 => by
              rw [e1] at hk2
              rw [p2, if_pos (by omega)])
            have B := A.append (bs := es) (by
              rw [e1, ← hao]
              refine .ofVs (fun e he => ⟨hs e he, hones e he⟩) hv (fun k u hk => ?_)
              have hlt := (List.getElem?_eq_some_iff.1 hk).1
              rw [p2, if_neg (by omega), if_pos (by omega), ← hk]
              congr 1
              omega)
            refine B.append ?_
            have e2 : (row.elems.take off ++ es).length = off + es.length := by simp; omega
            rw [e2]
            refine (k6.drop _).congr (fun k hk1 hk2 => ?_)
            rw [Nat.add_mul] at hk1
            rw [p2, if_neg (by omega), if_neg (by omega)]
          obtain ⟨z1, z2, z3⟩ := R.write hrow g1 k3 (size_splice hfit) d5 (v' := row.ver) (l' := l) rfl k4 (by simp; omega) hcells (.inl ⟨rfl, rfl⟩)
          have hmu : muPut mu m' row.ver l = mu := by
            funext q x
            unfold muPut
            split
            · rename_i hm
              rw [hm.1, hm.2, g1]
            · rfl
          rw [hmu, d2] at z1
          rw [hmu] at z2
          have hst := run_storeCells_at P l.b ao tyr vs 0 arr w k3 (by simpa using hfit) (hv.oneAll (ones_flatten hones))
          simp only [Nat.add_zero] at hst
          exact ⟨mu, _, _, _, _, rfl, by omega, hst, z1, z2, z3, fun _ _ => rfl⟩

def lenOfA : AV → Option Nat
  | .nilsl => some 0
  | .tr _ es => some es.length
  | .sl _ _ _ n => some n
  | _ => none

theorem lenOfA_ok {a : AV} {u : Value} {n : Nat} (hu : VR mu pr hp a u) (h : lenOfA a = some n) : ∃ ad c, u = .slice ad n c := by
  cases a <;> simp [lenOfA] at h <;> subst h <;> cases hu <;> exact ⟨_, _, rfl⟩

def copyA (P : Program) (t : TypeId) (d x : AV) (h : Hp) : Option (AV × Hp) :=
  match telem P t, lenOfA d, srcElems h.rows x with
  | some e, some n, some es => match tsz P e with
    | some s => if es.all (fun e => e.length == s) = true ∧ 0 < s then
        if es.take n = [] then some (.int .i64 0, h) else match overA h.rows h.tick s d (es.take n) with
          | some (m, q) => some (.int .i64 (es.take n).length, h.put m q)
          | none => none
      else none
    | none => none
  | _, _, _ => none

theorem copyA_ok (R : Rel mu pr h w) {t t' ty : TypeId} {d x : AV} {u v : Value} {r : AV} {h' : Hp} (hu : VR mu pr w.heap d u) (hv : VR mu pr w.heap x v) (he : copyA P t d x h = some (r, h')) :
    ∃ mu' z w', Gives P mu pr w (Builtin.copy_ #[t, t'] ty #[u, v]) r h' mu' z w' ∧ ∀ n v, mu' n v = mu n v := by
  unfold copyA at he
  split at he
  case h_2 => simp at he
  case h_1 e n es ht hn hsrc =>
    have hd := telem_inv ht
    split at he
    case h_2 => simp at he
    case h_1 s hs =>
      split at he
      case isFalse => simp at he
      case isTrue hc =>
        have hels : ∀ e ∈ es, e.length = s := by simpa using hc.1
        obtain ⟨a, ca, rfl, hones, hsome⟩ := srcElems_ok R hv hsrc hels
        obtain ⟨ad, cd, rfl⟩ := lenOfA_ok hu hn
        have hmin : Nat.min es.length n = (es.take n).length := by simp [Nat.min_comm]
        split at he
        case isTrue hnil =>
          simp only [Option.some.injEq, Prod.mk.injEq] at he
          obtain ⟨rfl, rfl⟩ := he
          have h0 : Nat.min es.length n = 0 := by rw [hmin, hnil]; rfl
          have hf : (Builtin.firstCells s 0 (.slice a es.length ca)).run P w = .ok #[] w := by
            cases a <;> simp [Builtin.firstCells, loadCells, loadCellsFrom]
          refine ⟨mu, .int .i64 0, w, ⟨?_, .int _ _, R, .refl, .refl w⟩, fun _ _ => rfl⟩
          cases ad <;> simp [Builtin.copy_, run_underlying hd, Builtin.lenOf, h0, run_sizeOf' hs, hf, storeCells, goInt]
        case isFalse hne =>
          split at he
          case h_2 => simp at he
          case h_1 m q hov =>
            simp only [Option.some.injEq, Prod.mk.injEq] at he
            obtain ⟨rfl, rfl⟩ := he
            have hesne : es ≠ [] := fun h => hne (by rw [h]; simp)
            obtain ⟨ax, vs, rfl, q1, q2, q3⟩ := hsome hesne
            have htake : ∀ (l : List (List AV)) (n : Nat), (∀ e ∈ l, e.length = s) → (l.take n).flatten = l.flatten.take (n * s) := by
              intro l
              induction l with
              | nil => intro n _; simp
              | cons e l ih =>
                intro n hl
                cases n with
                | zero => simp
                | succ n =>
                  have h1 := hl e (by simp)
                  simp only [List.take_succ_cons, List.flatten_cons, ih n fun q hq => hl q (by simp [hq])]
                  have h2 : e.take ((n + 1) * s) = e := List.take_of_length_le (by rw [h1, Nat.add_mul]; omega)
                  have h3 : (n + 1) * s - s = n * s := by rw [Nat.add_mul]; omega
                  rw [List.take_append, h2, h1, h3]
            have hvt : VRs mu pr w.heap (es.take n).flatten (vs.take (n * s)) := by rw [htake es n hels]; exact q1.take _
            obtain ⟨mu', w', a', n', c', hue, hle, hst, z1, z2, z3, z4⟩ := overA_ok (P := P) R hu hov (fun e he => hels e (List.mem_of_mem_take he)) (fun e he => hones e (List.mem_of_mem_take he)) hne hc.2 hvt
            cases hue
            have hfl : (vs.take (n * s)).length = Nat.min es.length n * s := by
              rw [hvt.1, flatten_len _ fun e he => hels e (List.mem_of_mem_take he), hmin]
            have hf := run_firstCells_some (P := P) w s (Nat.min es.length n) ax es.length ca (vs.take (n * s)) hfl (fun j v hj => q3 j v (by
              rw [List.getElem?_take] at hj
              split at hj
              · exact hj
              · simp at hj))
            refine ⟨mu', .int .i64 (es.take n).length, w', ⟨?_, .int _ _, z1, z2, z3⟩, z4⟩
            simp only [Builtin.copy_]
            simp only [Array.getElem?_eq_getElem, List.getElem?_toArray, List.getElem?_cons_zero, List.getElem?_cons_succ, Sem.run_bind, run_underlying hd, Result.andThen_ok, Builtin.lenOf, Sem.run_pure, run_sizeOf' hs]
            rw [hf]
            simp only [Result.andThen_ok, hst, hmin, goInt]

theorem flatten_get {α : Type} {s : Nat} : ∀ (l : List (List α)) (i : Nat) (e : List α) (j : Nat) (c : α), (∀ e ∈ l, e.length = s) → l[i]? = some e → e[j]? = some c → l.flatten[i * s + j]? = some c
  | [], i, e, j, c, _, h, _ => by simp at h
  | x :: l, i, e, j, c, hl, hi, hj => by
    have hx := hl x (by simp)
    cases i with
    | zero =>
      simp at hi
      subst hi
      have : j < x.length := (List.getElem?_eq_some_iff.1 hj).1
      simp only [List.flatten_cons, Nat.zero_mul, Nat.zero_add]
      rw [List.getElem?_append_left this]
      exact hj
    | succ i =>
      simp only [List.getElem?_cons_succ] at hi
      simp only [List.flatten_cons]
      rw [List.getElem?_append_right (by rw [hx, Nat.add_mul]; omega), hx, show (i + 1) * s + j - s = i * s + j by rw [Nat.add_mul]; omega]
      exact flatten_get l i e j c (fun e he => hl e (by simp [he])) hi hj

theorem zeroCells_flat (z : Array Value) (n : Nat) (h0 : 0 < z.size) : (Builtin.zeroCells z n).toList = (List.replicate n z.toList).flatten := by
  have hl : (List.replicate n z.toList).flatten.length = n * z.size := by simp
  apply List.ext_getElem?
  intro k
  by_cases hk : k < n * z.size
  · have hm : k % z.size < z.size := Nat.mod_lt _ h0
    have hd : k / z.size < n := by rw [Nat.div_lt_iff_lt_mul h0]; exact hk
    have hz : z[k % z.size]? = some z[k % z.size] := by simp [hm]
    have h1 := flatten_get (s := z.size) (List.replicate n z.toList) (k / z.size) z.toList (k % z.size) z[k % z.size] (fun e he => by rw [(List.mem_replicate.1 he).2]; simp) (by simp [hd]) (by simp [hm])
    rw [show k / z.size * z.size + k % z.size = k by rw [Nat.mul_comm]; exact Nat.div_add_mod k z.size] at h1
    rw [h1]
    simp only [Builtin.zeroCells, Array.toList_map, Array.toList_range, List.getElem?_map, List.getElem?_range hk, Option.map_some]
    rw [getElem!_def, hz]
  · rw [List.getElem?_eq_none (by simp [Builtin.zeroCells]; omega), List.getElem?_eq_none (by rw [hl]; omega)]

def clearA (P : Program) (t : TypeId) (d : AV) (h : Hp) : Option Hp :=
  match telem P t, lenOfA d with
  | some e, some n => if n = 0 then some h else match tsz P e, tzero P e with
    | some s, some z => if z.length = s ∧ 0 < s ∧ ones z = true then match overA h.rows h.tick s d (List.replicate n z) with
        | some (m, q) => some (h.put m q)
        | none => none
      else none
    | _, _ => none
  | _, _ => none

theorem clearA_ok (R : Rel mu pr h w) {t ty : TypeId} {d : AV} {u : Value} {h' : Hp} (hu : VR mu pr w.heap d u) (he : clearA P t d h = some h') :
    ∃ mu' w', (Builtin.clear_ #[t] ty #[u]).run P w = .ok (.tuple #[]) w' ∧ Rel mu' pr h' w' ∧ Ext mu pr w.heap mu' pr w'.heap ∧ Fr w w' ∧ ∀ n v, mu' n v = mu n v := by
  unfold clearA at he
  split at he
  case h_2 => simp at he
  case h_1 e n ht hn =>
    have hd := telem_inv ht
    obtain ⟨ad, cd, rfl⟩ := lenOfA_ok hu hn
    split at he
    case isTrue h0 =>
      simp only [Option.some.injEq] at he
      subst he
      subst h0
      refine ⟨mu, w, ?_, R, .refl, .refl w, fun _ _ => rfl⟩
      cases ad <;> simp [Builtin.clear_, run_underlying hd]
    case isFalse h0 =>
      split at he
      case h_2 => simp at he
      case h_1 s z hs hz =>
        split at he
        case isFalse => simp at he
        case isTrue hc =>
          split at he
          case h_2 => simp at he
          case h_1 m q hov =>
            simp only [Option.some.injEq] at he
            subst he
            obtain ⟨zv, hz1, hz2, _⟩ := tzero_run (mu := mu) (pr := pr) (hp := w.heap) hz w
            have hzsz : zv.cells.size = s := by have := hz2.1; simp at this; omega
            have hrep : ∀ n, VRs mu pr w.heap (List.replicate n z).flatten (List.replicate n zv.cells.toList).flatten := by
              intro n
              induction n with
              | zero => exact .nil
              | succ n ih => simp only [List.replicate_succ, List.flatten_cons]; exact hz2.append ih
            obtain ⟨mu', w', a', n', c', hue, hle, hst, z1, z2, z3, z4⟩ := overA_ok (P := P) R hu hov (fun e he => by rw [(List.mem_replicate.1 he).2, hc.1]) (fun e he => by rw [(List.mem_replicate.1 he).2]; exact hc.2.2)
              (fun h => h0 (by simpa using h)) hc.2.1 (hrep n)
            cases hue
            refine ⟨mu', w', ?_, z1, z2, z3, z4⟩
            have hzc : (Builtin.zeroCells zv.cells n).toList = (List.replicate n zv.cells.toList).flatten := zeroCells_flat zv.cells n (by omega)
            cases n with
            | zero => exact absurd rfl h0
            | succ k =>
              simp [Builtin.clear_, run_underlying hd, hz1, hzc, hst]

end
end Go.Proofs.Ytfgaoojogididaa.AM
