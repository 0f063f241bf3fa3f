/-
  The A-machine, part 17: a region that draws its order is sound: whatever comes up.
-/
import Derived.Test.YtfgaoojogididaaA16
set_option linter.unusedVariables false
set_option linter.unusedSimpArgs false
namespace Go.Proofs.Ytfgaoojogididaa.AM
open Go.RowKit

section
variable {P : Program} {M : FuncId → Mode} {ops : Array Oper} {T : Nat} {W : Nm → Bool} {rows0 : Nm → Option Row} {f N : Nat}

def lst (listed : Array Bool) (j : Nat) : Bool := listed.getD j false

theorem lst_set {listed : Array Bool} {i : Nat} (hi : i < listed.size) (j : Nat) : lst (listed.setIfInBounds i true) j = (lst listed j || j == i) := by
  unfold lst
  by_cases h : j = i
  · subst h; simp [hi]
  · rw [getD_set_ne false (Ne.symm h)]; simp [h]

theorem mem_ready' {listed : Array Bool} (hs : listed.size = ops.size) {i : Nat} : i ∈ Region.ready .any ops listed ↔ lst listed i = false ∧ ∃ o, ops[i]? = some o ∧ ∀ e ∈ o.after, Region.binds .any e = true → lst listed e.on = true := by
  rw [mem_ready]
  refine and_congr_left fun ⟨o, ho, _⟩ => ?_
  have hlt : i < listed.size := by rw [hs]; exact (Array.getElem?_eq_some_iff.1 ho).1
  simp [lst, hlt]

/-- The least that isn't listed may come up. -/
theorem ready_least (S : DrawS ops f) {listed : Array Bool} (hs : listed.size = ops.size) : ∀ (i : Nat), i < ops.size → lst listed i = false → Region.ready .any ops listed ≠ [] := by
  intro i
  induction i using Nat.strongRecOn with
  | _ i ih =>
    intro hi hl hr
    by_cases hex : ∃ j, j < i ∧ lst listed j = false
    · obtain ⟨j, h1, h2⟩ := hex
      exact ih j h1 (by omega) h2 hr
    · have ho : ops[i]? = some ops[i] := by simp
      have : i ∈ Region.ready .any ops listed := (mem_ready' hs).2 ⟨hl, _, ho, fun e he hb => by
        have := S.edge i _ ho e he hb
        cases h : lst listed e.on with
        | true => rfl
        | false => exact (hex ⟨e.on, this, h⟩).elim⟩
      rw [hr] at this
      cases this

/-- The operations behind all others. -/
theorem tail_ok (S : DrawS ops f) (hall : ∀ (j : Nat) (o : Oper), ops[j]? = some o → dstOk N o.dst = true) {Q : Exit → Act → World → Prop} :
    ∀ (n k fuel : Nat) (listed : Array Bool) (a : Act) (w : World), k + n = ops.size → f ≤ k → n ≤ fuel → listed.size = ops.size → (∀ j, j < ops.size → lst listed j = decide (j < k)) →
    Go.wpOps P ops Q (List.range' k n) a w → wpAny P .any ops Q fuel listed a w
  | 0, k, fuel, listed, a, w, hk, hf, hfu, hs, hl, hw => by
    have hr : Region.ready .any ops listed = [] := by
      refine List.eq_nil_iff_forall_not_mem.2 fun i hi => ?_
      obtain ⟨h1, o, ho, _⟩ := (mem_ready' hs).1 hi
      have := (Array.getElem?_eq_some_iff.1 ho).1
      rw [hl i this] at h1
      simp at h1
      omega
    cases fuel with
    | zero => exact ⟨hr, hw⟩
    | succ m => exact ⟨fun _ => hw, fun i hi => by rw [hr] at hi; cases hi⟩
  | n + 1, k, fuel, listed, a, w, hk, hf, hfu, hs, hl, hw => by
    obtain ⟨m, rfl⟩ : ∃ m, fuel = m + 1 := ⟨fuel - 1, by omega⟩
    have hkl : lst listed k = false := by rw [hl k (by omega)]; simp
    refine ⟨fun hr => absurd hr (ready_least S hs k (by omega) hkl), fun i hi => ?_⟩
    obtain ⟨h1, o, ho, h2⟩ := (mem_ready' hs).1 hi
    have hilt := (Array.getElem?_eq_some_iff.1 ho).1
    have hki : k ≤ i := by
      rw [hl i hilt] at h1
      simpa using h1
    have hik : i = k := by
      rcases Nat.lt_or_ge k i with h3 | h3
      · exfalso
        obtain ⟨ok, hok⟩ := S.get ho h3
        have hb := S.tail i k o ok ho hok h3 (by omega)
        have hc : Closed ops (lst listed) := fun j oj hoj hlj e he hb => by
          have hj := (Array.getElem?_eq_some_iff.1 hoj).1
          have h5 := S.edge j oj hoj e he hb
          rw [hl j hj] at hlj
          rw [hl e.on (by omega)]
          simp at hlj ⊢
          omega
        have := S.listed hc i o ho h2 k hb
        rw [hkl] at this
        cases this
      · omega
    subst hik
    rw [List.range'_succ, wpOps_cons] at hw
    refine wpOp_mono (fun a' w' h' => ?_) hw
    refine tail_ok S hall n (i + 1) m _ a' w' (by omega) (by omega) (by omega) (by simp [hs]) (fun j hj => ?_) h'
    rw [lst_set (by omega), hl j hj]
    by_cases h : j = i
    · subst h; simp
    · have : (j == i) = false := by simp [h]
      rw [this, Bool.or_false, decide_eq_decide]
      omega

variable {σ : Nat → AV} {vals : Nat → AV} {act : Nat → Option (Nm × Option Row)}

theorem front_ok (S : DrawS ops f) (hall : ∀ (j : Nat) (o : Oper), ops[j]? = some o → dstOk N o.dst = true) (Tr : Traced P (Sound P) ops T W rows0 f σ vals act) {K : (Nat → AV) → Hp → Prop}
    (htail : wpOps P M (Sound P) ops T (ops.toList.drop f) f (lw (we ops vals) allL f σ) (hpA T act allL f rows0) K) {Q : Exit → Act → World → Prop} {mu0 : Nm → Nat → Option Loc} {pr0 : Bool → Nat → Prop} {h0 : Hp} {w0 : World} {a0 : Act}
    (hQ : ∀ σ' h' mu' pr' w' a', K σ' h' → EnvR mu' pr' w'.heap σ' a' N → AfterB T mu0 pr0 h0 w0 mu' pr' h' w' → a'.defers = a0.defers → Q .normal a' w') :
    ∀ (fuel : Nat) (listed : Array Bool) (mu : Nm → Nat → Option Loc) (pr : Bool → Nat → Prop) (w : World) (a : Act), listed.size = ops.size → Closed ops (lst listed) → (∀ j, f ≤ j → lst listed j = false) → cnt (lst listed) ops.size ≤ fuel →
    EnvR mu pr w.heap (lw (we ops vals) (lst listed) f σ) a N → Rel mu pr (hpA T act (lst listed) f rows0) w → (∀ i j v, lst listed i = false → mu (T, i, j) v = none) →
    AfterB T mu0 pr0 h0 w0 mu pr (hpA T act (lst listed) f rows0) w → a.defers = a0.defers → wpAny P .any ops Q fuel listed a w := by
  have fin : ∀ (fuel : Nat) (listed : Array Bool) (mu : Nm → Nat → Option Loc) (pr : Bool → Nat → Prop) (w : World) (a : Act), listed.size = ops.size → (∀ j, f ≤ j → lst listed j = false) → (∀ j, j < f → lst listed j = true) → cnt (lst listed) ops.size ≤ fuel →
      EnvR mu pr w.heap (lw (we ops vals) (lst listed) f σ) a N → Rel mu pr (hpA T act (lst listed) f rows0) w → (∀ i j v, lst listed i = false → mu (T, i, j) v = none) →
      AfterB T mu0 pr0 h0 w0 mu pr (hpA T act (lst listed) f rows0) w → a.defers = a0.defers → wpAny P .any ops Q fuel listed a w := by
    intro fuel listed mu pr w a hs hhi hlo hcnt E R hfree A hd
    have e1 : lw (we ops vals) (lst listed) f σ = lw (we ops vals) allL f σ := lw_congr f fun j hj => ⟨rfl, hlo j hj⟩
    have e2 : hpA T act (lst listed) f rows0 = hpA T act allL f rows0 := by
      have : lw act (lst listed) f rows0 = lw act allL f rows0 := lw_congr f fun j hj => ⟨rfl, hlo j hj⟩
      unfold hpA
      rw [this]
    rw [e1] at E
    rw [e2] at R A
    have hL : ∀ j, lst listed j = decide (j < f) := fun j => by
      rcases Nat.lt_or_ge j f with h | h
      · rw [hlo j h]; simp [h]
      · rw [hhi j h]; simp; omega
    have hsz := S.size
    have hc : ∀ n, f ≤ n → cnt (lst listed) n = n - f := by
      intro n
      induction n with
      | zero => intro h; simp [cnt]
      | succ n ihn =>
        intro h
        simp only [cnt]
        rcases Nat.lt_or_ge n f with h1 | h1
        · have : f = n + 1 := by omega
          have hz : ∀ n', n' ≤ f → cnt (lst listed) n' = 0 := by
            intro n'
            induction n' with
            | zero => intro _; rfl
            | succ n' ih' => intro h'; simp only [cnt]; rw [ih' (by omega), hL n', if_pos (by simp; omega)]
          rw [hz n (by omega), hL n, if_pos (by simp [h1])]
          omega
        · rw [ihn h1, hL n, if_neg (by simp; omega)]
          omega
    refine tail_ok S hall (ops.size - f) f fuel listed a w (by omega) (Nat.le_refl f) (by rw [hc _ hsz] at hcnt; exact hcnt) hs (fun j _ => hL j) ?_
    have h1 := wpOps_ok (Q := Q) hall (ops.toList.drop f) f _ _ K mu pr w a (fun j => by simp [List.getElem?_drop]) htail E R (Nat.lt_succ_self T) (fun i j v hi => hfree i j v (hhi i hi)) (fun σ' h' mu' pr' w' a' hk E' A' hd' => hQ σ' h' mu' pr' w' a' hk E' (A.trans A') (hd'.trans hd))
    simpa using h1
  intro fuel
  induction fuel with
  | zero =>
    intro listed mu pr w a hs hc hhi hcnt E R hfree A hd
    exact fin 0 listed mu pr w a hs hhi (fun j hj => cnt_zero _ (Nat.le_zero.1 hcnt) j (Nat.lt_of_lt_of_le hj S.size)) hcnt E R hfree A hd
  | succ m ih =>
    intro listed mu pr w a hs hc hhi hcnt E R hfree A hd
    by_cases hex : ∃ j, j < f ∧ lst listed j = false
    case neg =>
      exact fin (m + 1) listed mu pr w a hs hhi (fun j hj => by
        cases h : lst listed j with
        | true => rfl
        | false => exact (hex ⟨j, hj, h⟩).elim) hcnt E R hfree A hd
    case pos =>
      obtain ⟨j0, hj0, hlj0⟩ := hex
      refine ⟨fun hr => absurd hr (ready_least S hs j0 (Nat.lt_of_lt_of_le hj0 S.size) hlj0), fun i hi => ?_⟩
      obtain ⟨h1, o, ho, h2⟩ := (mem_ready' hs).1 hi
      have hilt := (Array.getElem?_eq_some_iff.1 ho).1
      have hif : i < f := by
        rcases Nat.lt_or_ge i f with h3 | h3
        · exact h3
        · exfalso
          obtain ⟨o', ho'⟩ := S.get ho (show j0 < i by omega)
          have := S.listed hc i o ho h2 j0 (S.tail i j0 o o' ho ho' (by omega) h3)
          rw [hlj0] at this
          cases this
      obtain ⟨g1, g2, g3⟩ := draw_step S Tr hc ho hif h1 h2
      have hset : lst (listed.setIfInBounds i true) = fun j => lst listed j || j == i := funext fun j => lst_set (by omega) j
      have hsz' : (listed.setIfInBounds i true).size = ops.size := by simp [hs]
      have hc' : Closed ops (lst (listed.setIfInBounds i true)) := fun j oj hoj hlj e he hb => by
        rw [hset] at hlj ⊢
        simp only [Bool.or_eq_true, beq_iff_eq] at hlj ⊢
        rcases hlj with hlj | rfl
        · exact .inl (hc j oj hoj hlj e he hb)
        · rw [ho] at hoj; cases hoj
          exact .inl (h2 e he hb)
      have hhi' : ∀ j, f ≤ j → lst (listed.setIfInBounds i true) j = false := fun j hj => by
        rw [hset]
        have : (j == i) = false := by simp; omega
        simp [hhi j hj, this]
      have hcnt' : cnt (lst (listed.setIfInBounds i true)) ops.size ≤ m := by
        have := cnt_set h1 ops.size hilt
        rw [hset]
        omega
      have hdst := hall i o ho
      have step : ∀ (mu' : Nm → Nat → Option Loc) (pr' : Bool → Nat → Prop) (w' : World) (a' : Act), EnvR mu' pr' w'.heap (upd (o.dst.map fun d => (d, vals i)) (lw (we ops vals) (lst listed) f σ)) a' N →
          Rel mu' pr' ⟨upd (act i) (lw act (lst listed) f rows0), T + 1⟩ w' → (∀ i' j v, lst listed i' = false → i' ≠ i → mu' (T, i', j) v = none) →
          AfterB T mu0 pr0 h0 w0 mu' pr' ⟨upd (act i) (lw act (lst listed) f rows0), T + 1⟩ w' → a'.defers = a0.defers → wpAny P .any ops Q m (listed.setIfInBounds i true) a' w' := by
        intro mu' pr' w' a' E' R' hf' A' hd'
        refine ih (listed.setIfInBounds i true) mu' pr' w' a' hsz' hc' hhi' hcnt' ?_ ?_ ?_ ?_ hd'
        · rw [hset, g1]; exact E'
        · unfold hpA; rw [hset, g2]; exact R'
        · intro i' j v hl
          rw [hset] at hl
          simp only [Bool.or_eq_false_iff, beq_eq_false_iff_ne] at hl
          exact hf' i' j v hl.1 hl.2
        · unfold hpA; rw [hset, g2]; exact A'
      have hput : ∀ v : AV, putA o.dst v (lw (we ops vals) (lst listed) f σ) = upd (o.dst.map fun d => (d, v)) (lw (we ops vals) (lst listed) f σ) := fun v => by cases o.dst <;> rfl
      unfold wpOp
      simp only [ho]
      rcases g3 with ⟨q1, q2, q3⟩ | ⟨q1, q2⟩
      · rw [wantedA_ok E hall q1, if_neg (by simp)]
        refine step mu pr w _ ?_ ?_ (fun i' j v hl _ => hfree i' j v hl) ?_ ((Act.put_defers' _ _ _).trans hd)
        · rw [q2, ← hput]; exact E.put hdst (VR.tup_mk .nil)
        · rw [q3]; exact R
        · rw [q3]; exact A
      · rw [wantedA_ok E hall q1, if_pos rfl]
        left
        refine stepW_ok q2 E R (fun v => hfree i 0 v h1) (Nat.lt_succ_self T) (fun v z h' mu' pr' w' hk hv A' hfr => ?_)
        obtain ⟨rfl, rfl⟩ := hk
        refine step mu' pr' w' _ ?_ A'.rel (fun i' j v' hl hne => hfr (T, i', j) rfl (fun e => by cases e; exact hne rfl) (fun v => hfree i' j v hl) v') (A.trans A') ((Act.put_defers' _ _ _).trans hd)
        rw [← hput]
        exact (E.mono A'.ext).put hdst hv

/-- **What is asked of a region that draws its order is enough.** -/
theorem drawW_ok (hm : P.follows .mixedOrders = true) : DrawOk P (drawW P M (Sound P)) := by
  intro id ops σ h K N hw hall mu pr w a Q E R hQ
  obtain ⟨f, W, hd, hfr⟩ := hw
  have S := drawS_of hd
  obtain ⟨vals, act, _, Tr, htail⟩ := trace (M := M) (C := Sound P) (T := h.tick) (rows0 := h.rows) (σ := σ) S.size f 0 (fun _ => .undef) (fun _ => none) (by omega) (by rw [List.drop_zero]; exact hfr)
  refine wp_region_any hm ?_
  have hl : lst (Array.replicate ops.size false) = fun _ => false := funext fun j => by
    unfold lst
    by_cases h : j < ops.size <;> simp [h]
  have hz : ∀ {K V : Type} [DecidableEq K] (wr : Nat → Option (K × V)) (b : K → V) (n : Nat), lw wr (fun _ => false) n b = b := by
    intro K V _ wr b n
    induction n with
    | zero => rfl
    | succ n ih => simp only [lw]; rw [if_neg (by simp), ih]
  have hcz : ∀ n, cnt (fun _ => false) n = n := by
    intro n
    induction n with
    | zero => rfl
    | succ n ih => simp only [cnt, ih]; simp
  have R' : Rel mu pr (hpA h.tick act (fun _ => false) f h.rows) { w with drawn := w.drawn + 1 } := by
    unfold hpA
    rw [hz]
    have := R.next
    exact ⟨this.row, this.inj, this.fresh, this.vers, this.lt⟩
  refine front_ok (M := M) S hall (fun j hj => Tr j (Nat.zero_le j) hj) htail (mu0 := mu) (pr0 := pr) (h0 := h.next) (w0 := w) (a0 := a) (fun σ' h' mu' pr' w' a' hk E' A hd => ?_) ops.size _ mu pr _ a (by simp) ?_ ?_ ?_ ?_ ?_ ?_ ?_ rfl
  · exact hQ σ' h' mu' pr' w' a' hk E' ⟨A.rel, A.ext, A.fr, A.grow, A.tru, A.names, Nat.le_trans (Nat.le_succ _) A.tick⟩ hd
  · rw [hl]; intro i o ho hli; cases hli
  · rw [hl]; intro j _; rfl
  · rw [hl, hcz]; exact Nat.le_refl _
  · rw [hl, hz]; exact E
  · rw [hl]; exact R'
  · intro i j v _; exact R.fresh h.tick i j v (Nat.le_refl _)
  · rw [hl]
    exact ⟨R', .refl, ⟨rfl, rfl, rfl, Nat.le_refl _⟩, fun b hb => .inl hb, fun b hb => hb, fun n _ hn => hn, Nat.le_refl _⟩
end
end Go.Proofs.Ytfgaoojogididaa.AM
