/-
  The A-machine, part 16: a region that draws its order is sound.
-/
import Derived.Test.YtfgaoojogididaaA15
set_option linter.unusedVariables false
set_option linter.unusedSimpArgs false
namespace Go.Proofs.Ytfgaoojogididaa.AM
open Go.RowKit

def we (ops : Array Oper) (vals : Nat → AV) (j : Nat) : Option (Nat × AV) := (ops[j]?).bind fun o => o.dst.map fun d => (d, vals j)

theorem we_some {ops : Array Oper} {vals : Nat → AV} {j : Nat} {o : Oper} (ho : ops[j]? = some o) : we ops vals j = o.dst.map fun d => (d, vals j) := by simp [we, ho]

theorem hits_we {ops : Array Oper} {vals : Nat → AV} {j t : Nat} (h : hits (we ops vals j) t) : ∃ o, ops[j]? = some o ∧ o.dst = some t := by
  obtain ⟨v, hv⟩ := h
  unfold we at hv
  cases ho : ops[j]? with
  | none => rw [ho] at hv; cases hv
  | some o =>
    rw [ho] at hv
    simp only [Option.bind_some, Option.map_eq_some_iff, Prod.mk.injEq] at hv
    obtain ⟨d, h1, h2, _⟩ := hv
    exact ⟨o, rfl, by rw [h1, h2]⟩

def allL : Nat → Bool := fun _ => true

section
variable {P : Program} {M : FuncId → Mode} {C : CS} {ops : Array Oper} {T : Nat} {W : Nm → Bool} {rows0 : Nm → Option Row} {f : Nat} {σ : Nat → AV}

def hpA (T : Nat) (act : Nat → Option (Nm × Option Row)) (L : Nat → Bool) (n : Nat) (rows0 : Nm → Option Row) : Hp := ⟨lw act L n rows0, T + 1⟩

theorem trace {K : (Nat → AV) → Hp → Prop} (hf : f ≤ ops.size) : ∀ (n i : Nat) (vals : Nat → AV) (act : Nat → Option (Nm × Option Row)), i + n = f →
    frontW P M C ops T W rows0 ((ops.toList.take f).drop i) i (lw (we ops vals) allL i σ) (hpA T act allL i rows0) K →
    ∃ vals' act', (∀ j, j < i → vals' j = vals j ∧ act' j = act j) ∧
      (∀ j, i ≤ j → j < f → ∃ o, ops[j]? = some o ∧ OpSpec P C ops T W rows0 o j (lw (we ops vals') allL j σ) (hpA T act' allL j rows0) (vals' j) (act' j)) ∧
      K (lw (we ops vals') allL f σ) (hpA T act' allL f rows0)
  | 0, i, vals, act, hi, hw => by
    obtain rfl : i = f := by omega
    rw [List.drop_eq_nil_of_le (by simp; omega)] at hw
    exact ⟨vals, act, fun _ _ => ⟨rfl, rfl⟩, fun j h1 h2 => by omega, hw⟩
  | n + 1, i, vals, act, hi, hw => by
    have hlt : i < ops.size := by omega
    have hl : (ops.toList.take f).drop i = ops[i] :: (ops.toList.take f).drop (i + 1) := by
      rw [List.drop_eq_getElem_cons (by simp; omega)]
      simp
    rw [hl] at hw
    obtain ⟨v, a, h1, h2⟩ := front_step hw
    have ho : ops[i]? = some ops[i] := by simp
    have e1 : lw (we ops fun j => if j = i then v else vals j) allL i σ = lw (we ops vals) allL i σ := lw_congr i fun j hj => ⟨by
      have hne : ¬ j = i := by omega
      simp only [we, if_neg hne], rfl⟩
    have e2 : lw (fun j => if j = i then a else act j) allL i rows0 = lw act allL i rows0 := lw_congr i fun j hj => ⟨by
      show (if j = i then a else act j) = act j
      rw [if_neg (by omega)], rfl⟩
    obtain ⟨vals', act', g1, g2, g3⟩ := trace hf n (i + 1) (fun j => if j = i then v else vals j) (fun j => if j = i then a else act j) (by omega) (by
      have e3 : lw (we ops fun j => if j = i then v else vals j) allL (i + 1) σ = upd (ops[i].dst.map fun d => (d, v)) (lw (we ops vals) allL i σ) := by
        simp only [lw, allL, if_true]
        rw [we_some ho, if_pos rfl]
        congr 1
      have e4 : hpA T (fun j => if j = i then a else act j) allL (i + 1) rows0 = ⟨upd a (hpA T act allL i rows0).rows, (hpA T act allL i rows0).tick⟩ := by
        simp only [hpA, lw, allL, if_true]
        congr 2
      rw [e3, e4]
      exact h2)
    refine ⟨vals', act', fun j hj => ?_, fun j h3 h4 => ?_, g3⟩
    · have := g1 j (by omega)
      rw [if_neg (by omega), if_neg (by omega)] at this
      exact this
    · rcases Nat.lt_or_ge i j with h5 | h5
      · exact g2 j h5 h4
      · obtain rfl : j = i := by omega
        refine ⟨_, ho, ?_⟩
        have q := g1 j (by omega)
        rw [if_pos rfl, if_pos rfl] at q
        rw [q.1, q.2]
        have e5 : lw (we ops vals') allL j σ = lw (we ops vals) allL j σ := lw_congr j fun k hk => ⟨by
          unfold we
          rw [(g1 k (by omega)).1, if_neg (by omega)], rfl⟩
        have e6 : lw act' allL j rows0 = lw act allL j rows0 := lw_congr j fun k hk => ⟨by
          rw [(g1 k (by omega)).2, if_neg (by omega)], rfl⟩
        rw [e5]
        unfold hpA
        rw [e6]
        exact h1

/-- The text's order's way, for the operations up to 'f'. -/
def Traced (P : Program) (C : CS) (ops : Array Oper) (T : Nat) (W : Nm → Bool) (rows0 : Nm → Option Row) (f : Nat) (σ : Nat → AV) (vals : Nat → AV) (act : Nat → Option (Nm × Option Row)) : Prop :=
  ∀ j, j < f → ∃ o, ops[j]? = some o ∧ OpSpec P C ops T W rows0 o j (lw (we ops vals) allL j σ) (hpA T act allL j rows0) (vals j) (act j)

variable {vals : Nat → AV} {act : Nat → Option (Nm × Option Row)}

theorem draw_step (S : DrawS ops f) (Tr : Traced P C ops T W rows0 f σ vals act) {L : Nat → Bool} (hc : Closed ops L) {i : Nat} {o : Oper} (ho : ops[i]? = some o) (hi : i < f) (hL : L i = false)
    (hready : ∀ e ∈ o.after, Region.binds .any e = true → L e.on = true) :
    lw (we ops vals) (fun j => L j || j == i) f σ = upd (o.dst.map fun d => (d, vals i)) (lw (we ops vals) L f σ) ∧
    lw act (fun j => L j || j == i) f rows0 = upd (act i) (lw act L f rows0) ∧
    ((wantedA ops (lw (we ops vals) L f σ) o = some false ∧ vals i = .tup [] ∧ act i = none) ∨
     (wantedA ops (lw (we ops vals) L f σ) o = some true ∧ stepW P (fun _ => .tree) C (T, i, 0) o (lw (we ops vals) L f σ) (hpA T act L f rows0) (fun v' h'' => v' = vals i ∧ h'' = ⟨upd (act i) (lw act L f rows0), T + 1⟩))) := by
  have hbef : ∀ j, befB (Region.before ops) i j = true → L j = true := S.listed hc i o ho hready
  have hno : ∀ j oj, ops[j]? = some oj → L j = true → befB (Region.before ops) j i = true → False := fun j oj hoj hlj hb => by
    have := S.listed hc j oj hoj (hc j oj hoj hlj) i hb
    rw [hL] at this
    cases this
  have hlst : ∀ j, j < f → L j = true → ∃ oj, ops[j]? = some oj ∧ OpSpec P C ops T W rows0 oj j (lw (we ops vals) allL j σ) (hpA T act allL j rows0) (vals j) (act j) := fun j hj _ => Tr j hj
  obtain ⟨o', ho', spec⟩ := Tr i hi
  rw [ho] at ho'
  cases ho'
  refine ⟨?_, ?_, ?_⟩
  · rw [← we_some ho]
    refine lw_set hL (fun j t hj hlj hh hh' => ?_) f hi
    obtain ⟨oj, h1, h2⟩ := hits_we hh
    obtain ⟨oi, h3, h4⟩ := hits_we hh'
    rw [ho] at h3
    cases h3
    rcases S.apart j i oj o h1 ho hj with h5 | h5
    · exact (Oper.apart_spec h5).2.1 t h2 h4
    · exact hno j oj h1 hlj h5
  · rcases Nat.lt_or_ge i ops.size with hsz | hsz
    case inr => rw [Array.getElem?_eq_none hsz] at ho; cases ho
    have key : ∀ n, n ≤ f → i < n → lw act (fun j => L j || j == i) n rows0 = upd (act i) (lw act L n rows0) := fun n hn hin => by
      have e : ∀ (L' : Nat → Bool) , lw act L' n rows0 = lw (fun j => if j < f then act j else none) L' n rows0 := fun L' => lw_congr n fun j hj => ⟨by
        show act j = if j < f then act j else none
        rw [if_pos (by omega)], rfl⟩
      rw [e, e]
      have e2 : act i = (fun j => if j < f then act j else none) i := by
        show act i = if i < f then act i else none
        rw [if_pos hi]
      rw [e2]
      refine lw_set hL (fun j m hj hlj hh hh' => ?_) n hin
      rw [if_pos hi] at hh'
      split at hh
      case isFalse => obtain ⟨_, h⟩ := hh; cases h
      case isTrue hjf =>
        obtain ⟨oj, h1, h2⟩ := Tr j hjf
        rcases h2.act hh with h3 | ⟨h3, h4, h5⟩
        · rcases spec.act hh' with h6 | ⟨h6, h7, h8⟩
          · rw [h3] at h6; cases h6; omega
          · subst h3
            have := S.bits i j o ho (h7 rfl).1
            omega
        · rcases spec.act hh' with h6 | ⟨h6, h7, h8⟩
          · subst h6
            exact hno j oj h1 hlj (h4 rfl).1
          · exact hno j oj h1 hlj (S.app j i oj o h1 ho hj h3 h6)
    exact key f (Nat.le_refl f) hi
  · refine spec.any (h := hpA T act allL i rows0) (h' := hpA T act L f rows0) rfl rfl (fun t ht => ?_) (fun n r hn => ?_) (fun happ m hm => ?_)
    · refine lw_same (fun j hj hh => ?_) f (Nat.le_of_lt hi) (fun j hj hjf hh => ?_)
      · obtain ⟨oj, h1, h2⟩ := hits_we hh
        rcases S.apart i j o oj ho h1 hj with h5 | h5
        · exact absurd ht ((Oper.apart_spec h5).2.2 t h2)
        · exact hbef j h5
      · obtain ⟨oj, h1, h2⟩ := hits_we hh
        rcases Nat.lt_or_ge i j with hij | hij
        · cases hlj : L j with
          | false => rfl
          | true =>
            rcases S.apart j i oj o h1 ho hij with h5 | h5
            · exact absurd ht ((Oper.apart_spec h5).1 t h2)
            · exact (hno j oj h1 hlj h5).elim
        · obtain rfl : j = i := by omega
          exact hL
    · unfold maskR at hn
      split at hn
      case isTrue => cases hn
      case isFalse hno' =>
        show lw act L f rows0 n = some r
        rw [lw_none f fun j hj hh => ?_]
        · exact hn
        · obtain ⟨oj, h1, h2⟩ := Tr j hj
          rcases h2.act hh with h3 | ⟨h3, h4, h5⟩
          · exact hno' (.inl (by rw [h3]))
          · by_cases hT : n.1 = T
            · exact hno' (.inl hT)
            · exact hno' (.inr (h5 hT))
    · show lw act L f rows0 m = lw act allL i rows0 m
      refine lw_same (fun j hj hh => ?_) f (Nat.le_of_lt hi) (fun j hj hjf hh => ?_)
      · obtain ⟨oj, h1, h2⟩ := Tr j (by omega)
        rcases h2.act hh with h3 | ⟨h3, h4, h5⟩
        · subst h3; exact hbef j (hm rfl).1
        · exact hbef j (S.app i j o oj ho h1 hj happ h3)
      · obtain ⟨oj, h1, h2⟩ := Tr j hjf
        rcases Nat.lt_or_ge i j with hij | hij
        · cases hlj : L j with
          | false => rfl
          | true =>
            rcases h2.act hh with h3 | ⟨h3, h4, h5⟩
            · subst h3
              have := S.bits i j o ho (hm rfl).1
              omega
            · exact (hno j oj h1 hlj (S.app j i oj o h1 ho hij h3 happ)).elim
        · obtain rfl : j = i := by omega
          exact hL
end
end Go.Proofs.Ytfgaoojogididaa.AM
