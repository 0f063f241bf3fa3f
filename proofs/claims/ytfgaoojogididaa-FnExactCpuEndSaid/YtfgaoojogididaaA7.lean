/-
  The A-machine, part 7: stores, append, copy, clear: rows that are written.
-/
import Derived.Test.YtfgaoojogididaaA6
set_option linter.unusedVariables false
set_option linter.unusedSimpArgs false
namespace Go.Proofs.Ytfgaoojogididaa.AM
open Go.RowKit

section
variable {P : Program} {mu mu' : Nm → Nat → Option Loc} {pr pr' : Bool → Nat → Prop} {hp hp' : Array Obj} {h : Hp} {w w' : World}

/-! ### Rows, cut and put together -/
theorem idx_lt {i n s j : Nat} (hi : i < n) (hj : j < s) : i * s + j < n * s := by
  have : (i + 1) * s ≤ n * s := Nat.mul_le_mul_right _ hi
  rw [Nat.add_mul] at this
  omega

theorem CellsR.congr {arr arr' : Array Value} {o s : Nat} {elems : List (List AV)} (h : CellsR mu pr hp arr o s elems) (he : ∀ k, o ≤ k → k < o + elems.length * s → arr'[k]? = arr[k]?) : CellsR mu pr hp arr' o s elems := by
  refine ⟨h.1, fun i e j c h1 h2 => ?_⟩
  obtain ⟨g1, u, g2, g3⟩ := h.2 i e j c h1 h2
  have hj : j < s := by rw [← h.1 i e h1]; exact (List.getElem?_eq_some_iff.1 h2).1
  have := idx_lt (List.getElem?_eq_some_iff.1 h1).1 hj
  exact ⟨g1, u, by rw [he _ (by omega) (by omega)]; exact g2, g3⟩

theorem CellsR.mono {arr : Array Value} {o s : Nat} {elems : List (List AV)} (x : Ext mu pr hp mu' pr' hp') (h : CellsR mu pr hp arr o s elems) : CellsR mu' pr' hp' arr o s elems :=
  ⟨h.1, fun i e j c h1 h2 => let ⟨g1, u, g2, g3⟩ := h.2 i e j c h1 h2; ⟨g1, u, g2, g3.mono x⟩⟩

theorem CellsR.take {arr : Array Value} {o s : Nat} {elems : List (List AV)} (n : Nat) (h : CellsR mu pr hp arr o s elems) : CellsR mu pr hp arr o s (elems.take n) := by
  have key : ∀ (i : Nat) (e : List AV), (elems.take n)[i]? = some e → elems[i]? = some e := by
    intro i e he
    rw [List.getElem?_take] at he
    split at he
    · exact he
    · simp at he
  exact ⟨fun i e he => h.1 i e (key i e he), fun i e j c he hj => h.2 i e j c (key i e he) hj⟩

theorem CellsR.drop {arr : Array Value} {o s : Nat} {elems : List (List AV)} (n : Nat) (h : CellsR mu pr hp arr o s elems) : CellsR mu pr hp arr (o + n * s) s (elems.drop n) := by
  refine ⟨fun i e he => h.1 (n + i) e (by rw [List.getElem?_drop] at he; exact he), fun i e j c he hj => ?_⟩
  rw [List.getElem?_drop] at he
  obtain ⟨g1, u, g2, g3⟩ := h.2 (n + i) e j c he hj
  exact ⟨g1, u, by rw [← g2]; congr 1; rw [Nat.add_mul]; omega, g3⟩

theorem CellsR.append {arr : Array Value} {o s : Nat} {as bs : List (List AV)} (h : CellsR mu pr hp arr o s as) (k : CellsR mu pr hp arr (o + as.length * s) s bs) : CellsR mu pr hp arr o s (as ++ bs) := by
  have key : ∀ (i : Nat) (e : List AV), (as ++ bs)[i]? = some e → as[i]? = some e ∨ (as.length ≤ i ∧ bs[i - as.length]? = some e) := by
    intro i e he
    by_cases hi : i < as.length
    · rw [List.getElem?_append_left hi] at he; exact .inl he
    · rw [List.getElem?_append_right (by omega)] at he; exact .inr ⟨by omega, he⟩
  refine ⟨fun i e he => ?_, fun i e j c he hj => ?_⟩
  · rcases key i e he with h1 | ⟨_, h1⟩
    · exact h.1 i e h1
    · exact k.1 _ e h1
  · rcases key i e he with h1 | ⟨h0, h1⟩
    · exact h.2 i e j c h1 hj
    · obtain ⟨g1, u, g2, g3⟩ := k.2 _ e j c h1 hj
      refine ⟨g1, u, ?_, g3⟩
      rw [← g2]
      congr 1
      have : as.length * s + (i - as.length) * s = i * s := by rw [← Nat.add_mul]; congr 1; omega
      omega

theorem CellsR.ofVs {arr : Array Value} {o s : Nat} {elems : List (List AV)} {vs : List Value} (hall : ∀ e ∈ elems, e.length = s ∧ ones e = true) (hv : VRs mu pr hp elems.flatten vs)
    (he : ∀ (k : Nat) (u : Value), vs[k]? = some u → arr[o + k]? = some u) : CellsR mu pr hp arr o s elems := by
  have hf := CellsR.flat elems vs hall hv
  refine ⟨hf.1, fun i e j c h1 h2 => ?_⟩
  obtain ⟨g1, u, g2, g3⟩ := hf.2 i e j c h1 h2
  have : o + i * s + j = o + (0 + i * s + j) := by omega
  exact ⟨g1, u, by rw [this]; exact he _ _ (by simpa using g2), g3⟩

/-- A row's values, in a list. -/
theorem CellsR.values {arr : Array Value} {s : Nat} : ∀ (elems : List (List AV)) (o : Nat), CellsR mu pr hp arr o s elems → ∃ vs, VRs mu pr hp elems.flatten vs ∧ vs.length = elems.length * s ∧
    ∀ (k : Nat) (u : Value), vs[k]? = some u → arr[o + k]? = some u
  | [], o, _ => ⟨[], .nil, by simp, fun k u h => by simp at h⟩
  | e :: es, o, h => by
    have hes : CellsR mu pr hp arr (o + s) s es := by
      have := h.drop 1
      simpa using this
    obtain ⟨vs, h1, h2, h3⟩ := CellsR.values es (o + s) hes
    have hel : e.length = s := h.1 0 e rfl
    have hget : ∀ (j : Nat) (c : AV), e[j]? = some c → ∃ u, arr[o + j]? = some u ∧ VR mu pr hp c u := by
      intro j c hj
      obtain ⟨_, u, g2, g3⟩ := h.2 0 e j c rfl hj
      exact ⟨u, by simpa using g2, g3⟩
    let us : List Value := (List.range e.length).map fun j => (arr[o + j]?).getD undef
    have hus : VRs mu pr hp e us := ⟨by simp [us], fun j c hj => by
      obtain ⟨u, g1, g2⟩ := hget j c hj
      have := (List.getElem?_eq_some_iff.1 hj).1
      exact ⟨u, by simp [us, this, g1], g2⟩⟩
    refine ⟨us ++ vs, by rw [List.flatten_cons]; exact hus.append h1, by simp [us, hel, h2, Nat.add_mul]; omega, fun k u hk => ?_⟩
    have hul : us.length = s := by simp [us, hel]
    by_cases hks : k < s
    · rw [List.getElem?_append_left (by omega)] at hk
      obtain ⟨u', g1, _⟩ := hget k e[k] (by simp [hel, hks])
      have : us[k]? = some u' := by simp [us, hel, hks, g1]
      rw [this] at hk
      cases hk
      exact g1
    · rw [List.getElem?_append_right (by omega), hul] at hk
      have := h3 _ _ hk
      rw [← this]
      congr 1
      omega

theorem splice_get {arr : Array Value} {S : Nat} {vs : List Value} (hl : S + vs.length ≤ arr.size) (k : Nat) :
    (arr.toList.take S ++ vs ++ arr.toList.drop (S + vs.length)).toArray[k]? = if k < S then arr[k]? else if k < S + vs.length then vs[k - S]? else arr[k]? := by
  have h1 : (arr.toList.take S).length = S := by simp; omega
  simp only [List.getElem?_toArray, List.append_assoc]
  split
  · rename_i hk
    rw [List.getElem?_append_left (by rw [h1]; exact hk), List.getElem?_take, if_pos hk]
    simp
  · rename_i hk
    rw [List.getElem?_append_right (by rw [h1]; omega), h1]
    split
    · rw [List.getElem?_append_left (by omega)]
    · rw [List.getElem?_append_right (by omega), List.getElem?_drop]
      have : S + vs.length + (k - S - vs.length) = k := by omega
      rw [this]
      simp

theorem size_splice {arr : Array Value} {S : Nat} {vs : List Value} (hl : S + vs.length ≤ arr.size) : (arr.toList.take S ++ vs ++ arr.toList.drop (S + vs.length)).toArray.size = arr.size := by
  simp
  omega

theorem setRow_fr (w : World) (g : Nat) (cs : Array Value) : Fr w (w.setRow g cs) := ⟨rfl, rfl, rfl, by simp⟩

/-- A row is written in its own block (its version the same, or a new one). -/
theorem Rel.write (R : Rel mu pr h w) {n : Nm} {r : Row} (hrow : h.rows n = some r) {l : Loc} (hl : mu n r.ver = some l) {arr arr' : Array Value} {ty : TypeId} (hb : w.heap[l.b]? = some (.cells arr ty (0, 0))) (hs : arr'.size = arr.size)
    (htick : n.1 < h.tick) {v' : Nat} {l' : Loc} (hlb : l'.b = l.b) (he : l'.esz = r.esz) {elems : List (List AV)} (hr : l'.rlen = elems.length) (hc : CellsR mu pr w.heap arr' l'.o r.esz elems)
    (hv : (v' = r.ver ∧ l' = l) ∨ r.ver < v') :
    Rel (muPut mu n v' l') pr (h.put n ⟨v', r.esz, elems⟩) (w.setRow l.b arr') ∧ Ext mu pr w.heap (muPut mu n v' l') pr (w.setRow l.b arr').heap ∧ Fr w (w.setRow l.b arr') := by
  obtain ⟨l2, a2, t2, g1, g2, g3, g4, g5, g6⟩ := R.row n r hrow
  rw [hl] at g1
  cases g1
  have hF := setRow_fr w l.b arr'
  obtain ⟨h1, h2⟩ := R.put (w' := w.setRow l.b arr') n v' r.esz elems l' arr' ty (by rw [hlb]; exact setRow_heap w l.b arr arr' ty (0, 0) hb) he hr hc (by rw [hlb]; exact g2)
    (fun b hbb hlt => setRow_other w l.b b arr' (by rw [← hlb]; exact hbb)) (fun a t fr ha => by rw [hlb, hb] at ha; cases ha; exact ⟨hs, rfl⟩)
    (fun m q k hm hk hkb => R.inj m q n r k l hm hrow hk hl (by rw [hkb, hlb]))
    (by rcases hv with ⟨rfl, rfl⟩ | hv
        · exact .inl hl
        · exact .inr (R.vers n r v' hrow hv))
    (fun u hu => R.vers n r u hrow (by rcases hv with ⟨rfl, _⟩ | hv <;> omega)) htick hF
  exact ⟨h1, h2, hF⟩

/-! ### A store -/
def storeA (P : Program) (t : TypeId) (p x : AV) (h : Hp) : Option Hp :=
  match p, tsz P t with
  | .ptr n v i off, some s => match h.rows n with
    | some r => match r.elems[i]? with
      | some e => if r.ver = v ∧ x.stored = true ∧ x.cells.length = s ∧ 0 < s ∧ off + s ≤ e.length ∧ n.1 < h.tick then some (h.put n ⟨r.ver, r.esz, r.elems.set i (setCs e off x.cells)⟩) else none
      | none => none
    | none => none
  | _, _ => none

theorem storeA_ok (R : Rel mu pr h w) {t : TypeId} {p x : AV} {u v : Value} {h' : Hp} (hu : VR mu pr w.heap p u) (hv : VR mu pr w.heap x v) (he : storeA P t p x h = some h') :
    ∃ mu' w', (Instr.storeAt t u v).run P w = .ok () w' ∧ Rel mu' pr h' w' ∧ Ext mu pr w.heap mu' pr w'.heap ∧ Fr w w' ∧ ∀ n v, mu' n v = mu n v := by
  unfold storeA at he
  split at he
  case h_2 => simp at he
  case h_1 n ver i off s hs =>
    split at he
    case h_2 => simp at he
    case h_1 r hrow =>
      split at he
      case h_2 => simp at he
      case h_1 e hel =>
        split at he
        case isFalse => simp at he
        case isTrue hc =>
          simp only [Option.some.injEq] at he
          subst he
          obtain ⟨rfl, c2, c3, c0, c4, c5⟩ := hc
          cases hu with
          | ptr _ _ _ _ l hl =>
            obtain ⟨l2, arr, ty, g1, g2, g3, g4, g5, g6⟩ := R.row n r hrow
            rw [hl] at g1
            cases g1
            obtain ⟨k1, k2, k3⟩ := cells_ok hv c2
            have hvl : v.cells.toList.length = s := by rw [k1.1, c3]
            have hesz : e.length = l.esz := g6.1 i e hel
            have hbase : ∀ j, j < l.esz → l.o + i * l.esz + j < arr.size := by
              intro j hj
              obtain ⟨_, u, q, _⟩ := g6.2 i e j e[j] hel (by simp [hesz, hj])
              exact (Array.getElem?_eq_some_iff.1 q).1
            have hfit : l.o + i * l.esz + off + v.cells.toList.length ≤ arr.size := by
              have := hbase (off + s - 1) (by omega)
              omega
            let arr' : Array Value := (arr.toList.take (l.o + i * l.esz + off) ++ v.cells.toList ++ arr.toList.drop (l.o + i * l.esz + off + v.cells.toList.length)).toArray
            have hget : ∀ k, arr'[k]? = _ := fun k => splice_get (arr := arr) (S := l.o + i * l.esz + off) (vs := v.cells.toList) hfit k
            have hil : i < r.elems.length := (List.getElem?_eq_some_iff.1 hel).1
            have hsl : (setCs e off x.cells).length = l.esz := by
              simp only [setCs, List.length_append, List.length_take, List.length_drop, c3]
              omega
            have hcells : CellsR mu pr w.heap arr' l.o r.esz (r.elems.set i (setCs e off x.cells)) := by
              rw [← g4]
              refine ⟨fun i' e1 he1 => ?_, fun i' e1 j c he1 hj => ?_⟩
              · by_cases hii : i' = i
                · subst hii
                  rw [List.getElem?_set_self hil] at he1
                  cases he1
                  exact hsl
                · rw [List.getElem?_set_ne (Ne.symm hii)] at he1
                  exact g6.1 i' e1 he1
              · by_cases hii : i' = i
                · subst hii
                  rw [List.getElem?_set_self hil] at he1
                  cases he1
                  have hj' := hj
                  unfold setCs at hj'
                  by_cases hj1 : j < off
                  · rw [List.append_assoc, List.getElem?_append_left (by simp; omega), List.getElem?_take, if_pos hj1] at hj'
                    obtain ⟨q1, u, q2, q3⟩ := g6.2 i' e j c hel hj'
                    exact ⟨q1, u, by rw [hget, if_pos (by omega)]; exact q2, q3⟩
                  · by_cases hj2 : j < off + s
                    · rw [List.append_assoc, List.getElem?_append_right (by simp; omega), List.getElem?_append_left (by simp; omega)] at hj'
                      have e0 : (e.take off).length = off := by simp; omega
                      rw [e0] at hj'
                      obtain ⟨u, q2, q3⟩ := k1.2 _ c hj'
                      refine ⟨ones_get k2 hj', u, ?_, q3⟩
                      rw [hget, if_neg (by omega), if_pos (by omega), ← q2]
                      congr 1
                      omega
                    · rw [List.append_assoc, List.getElem?_append_right (by simp; omega), List.getElem?_append_right (by simp; omega), List.getElem?_drop] at hj'
                      have e0 : (e.take off).length = off := by simp; omega
                      rw [e0, c3] at hj'
                      have e1 : off + s + (j - off - s) = j := by omega
                      rw [e1] at hj'
                      obtain ⟨q1, u, q2, q3⟩ := g6.2 i' e j c hel hj'
                      exact ⟨q1, u, by rw [hget, if_neg (by omega), if_neg (by omega)]; exact q2, q3⟩
                · rw [List.getElem?_set_ne (Ne.symm hii)] at he1
                  obtain ⟨q1, u, q2, q3⟩ := g6.2 i' e1 j c he1 hj
                  have hjl : j < l.esz := by rw [← g6.1 i' e1 he1]; exact (List.getElem?_eq_some_iff.1 hj).1
                  refine ⟨q1, u, ?_, q3⟩
                  rw [hget]
                  rcases Nat.lt_or_gt_of_ne hii with hlt | hgt
                  · have := idx_lt hlt hjl
                    rw [if_pos (by omega)]
                    exact q2
                  · have h5 : (i + 1) * l.esz ≤ i' * l.esz := Nat.mul_le_mul_right _ hgt
                    rw [Nat.add_mul] at h5
                    rw [if_neg (by omega), if_neg (by omega)]
                    exact q2
            obtain ⟨z1, z2, z3⟩ := R.write hrow hl g3 (size_splice hfit) c5 (v' := r.ver) (l' := l) rfl g4 (by simp [g5]) hcells (.inl ⟨rfl, rfl⟩)
            have hmu : muPut mu n r.ver l = mu := by
              funext m q
              unfold muPut
              split
              · rename_i hm
                rw [hm.1, hm.2, hl]
              · rfl
            rw [hmu] at z1 z2
            refine ⟨mu, _, ?_, z1, z2, z3, fun _ _ => rfl⟩
            have hst := run_storeCells_at P l.b (l.o + i * l.esz + off) ty v.cells.toList 0 arr w g3 (by simpa using hfit) (List.all_eq_true.1 k3)
            simp only [Nat.add_zero] at hst
            have hsz : v.cells.size = s := by simpa using hvl
            simp only [Instr.storeAt, Instr.sureAddr, Sem.run_bind, Sem.run_pure, Result.andThen_ok, storeVar, run_sizeOf' hs]
            rw [if_neg (by simp [hsz])]
            exact hst

end
end Go.Proofs.Ytfgaoojogididaa.AM
