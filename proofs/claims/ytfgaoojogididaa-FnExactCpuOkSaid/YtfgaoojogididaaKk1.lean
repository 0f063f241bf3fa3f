/- Lemmas: an abstract machine over named rows, and what single functions compute (parts A17, A18, A19, A20, A21, A22, A23, A24, A25, A26, A27, U0, U1). -/
import Derived.Test.YtfgaoojogididaaKk0
import Derived.ChangeArms
import Derived.WideShapes
import Derived.ChangeOld
import Derived.Below
import Derived.Carry
import Derived.Test.YtfgaoojogididaaRows
/-
  The A-machine, part 17: a region that draws its order is sound: whatever comes up.
-/
set_option linter.unusedVariables false
set_option linter.unusedSimpArgs false
namespace Go.Proofs.Ytfgaoojogididaa.AM
open Go.RowKit

section
variable {P : Program} {M : FuncId → Mode} {ops : Array Oper} {T : Nat} {W : Nm → Bool} {rows0 : Nm → Option Row} {f N : Nat}

def lst (listed : Array Bool) (j : Nat) : Bool := listed.getD j false

theorem lst_set {listed : Array Bool} {i : Nat} (hi : i < listed.size) (j : Nat) : lst (listed.setIfInBounds i true) j = (lst listed j || j == i) := by
  unfold lst
  by_cases h : j = i
  · subst h; simp [hi]
  · rw [getD_set_ne false (Ne.symm h)]; simp [h]

theorem mem_ready' {listed : Array Bool} (hs : listed.size = ops.size) {i : Nat} : i ∈ Region.ready .any ops listed ↔ lst listed i = false ∧ ∃ o, ops[i]? = some o ∧ ∀ e ∈ o.after, Region.binds .any e = true → lst listed e.on = true := by
  rw [mem_ready]
  refine and_congr_left fun ⟨o, ho, _⟩ => ?_
  have hlt : i < listed.size := by rw [hs]; exact (Array.getElem?_eq_some_iff.1 ho).1
  simp [lst, hlt]

/-- The least that isn't listed may come up. -/
theorem ready_least (S : DrawS ops f) {listed : Array Bool} (hs : listed.size = ops.size) : ∀ (i : Nat), i < ops.size → lst listed i = false → Region.ready .any ops listed ≠ [] := by
  intro i
  induction i using Nat.strongRecOn with
  | _ i ih =>
    intro hi hl hr
    by_cases hex : ∃ j, j < i ∧ lst listed j = false
    · obtain ⟨j, h1, h2⟩ := hex
      exact ih j h1 (by omega) h2 hr
    · have ho : ops[i]? = some ops[i] := by simp
      have : i ∈ Region.ready .any ops listed := (mem_ready' hs).2 ⟨hl, _, ho, fun e he hb => by
        have := S.edge i _ ho e he hb
        cases h : lst listed e.on with
        | true => rfl
        | false => exact (hex ⟨e.on, this, h⟩).elim⟩
      rw [hr] at this
      cases this

/-- The operations behind all others. -/
theorem tail_ok (S : DrawS ops f) (hall : ∀ (j : Nat) (o : Oper), ops[j]? = some o → dstOk N o.dst = true) {Q : Exit → Act → World → Prop} :
    ∀ (n k fuel : Nat) (listed : Array Bool) (a : Act) (w : World), k + n = ops.size → f ≤ k → n ≤ fuel → listed.size = ops.size → (∀ j, j < ops.size → lst listed j = decide (j < k)) →
    Go.wpOps P ops Q (List.range' k n) a w → wpAny P .any ops Q fuel listed a w
  | 0, k, fuel, listed, a, w, hk, hf, hfu, hs, hl, hw => by
    have hr : Region.ready .any ops listed = [] := by
      refine List.eq_nil_iff_forall_not_mem.2 fun i hi => ?_
      obtain ⟨h1, o, ho, _⟩ := (mem_ready' hs).1 hi
      have := (Array.getElem?_eq_some_iff.1 ho).1
      rw [hl i this] at h1
      simp at h1
      omega
    cases fuel with
    | zero => exact ⟨hr, hw⟩
    | succ m => exact ⟨fun _ => hw, fun i hi => by rw [hr] at hi; cases hi⟩
  | n + 1, k, fuel, listed, a, w, hk, hf, hfu, hs, hl, hw => by
    obtain ⟨m, rfl⟩ : ∃ m, fuel = m + 1 := ⟨fuel - 1, by omega⟩
    have hkl : lst listed k = false := by rw [hl k (by omega)]; simp
    refine ⟨fun hr => absurd hr (ready_least S hs k (by omega) hkl), fun i hi => ?_⟩
    obtain ⟨h1, o, ho, h2⟩ := (mem_ready' hs).1 hi
    have hilt := (Array.getElem?_eq_some_iff.1 ho).1
    have hki : k ≤ i := by
      rw [hl i hilt] at h1
      simpa using h1
    have hik : i = k := by
      rcases Nat.lt_or_ge k i with h3 | h3
      · exfalso
        obtain ⟨ok, hok⟩ := S.get ho h3
        have hb := S.tail i k o ok ho hok h3 (by omega)
        have hc : Closed ops (lst listed) := fun j oj hoj hlj e he hb => by
          have hj := (Array.getElem?_eq_some_iff.1 hoj).1
          have h5 := S.edge j oj hoj e he hb
          rw [hl j hj] at hlj
          rw [hl e.on (by omega)]
          simp at hlj ⊢
          omega
        have := S.listed hc i o ho h2 k hb
        rw [hkl] at this
        cases this
      · omega
    subst hik
    rw [List.range'_succ, wpOps_cons] at hw
    refine wpOp_mono (fun a' w' h' => ?_) hw
    refine tail_ok S hall n (i + 1) m _ a' w' (by omega) (by omega) (by omega) (by simp [hs]) (fun j hj => ?_) h'
    rw [lst_set (by omega), hl j hj]
    by_cases h : j = i
    · subst h; simp
    · have : (j == i) = false := by simp [h]
      rw [this, Bool.or_false, decide_eq_decide]
      omega

variable {σ : Nat → AV} {vals : Nat → AV} {act : Nat → Option (Nm × Option Row)}

theorem front_ok (S : DrawS ops f) (hall : ∀ (j : Nat) (o : Oper), ops[j]? = some o → dstOk N o.dst = true) (Tr : Traced P (Sound P) ops T W rows0 f σ vals act) {K : (Nat → AV) → Hp → Prop}
    (htail : wpOps P M (Sound P) ops T (ops.toList.drop f) f (lw (we ops vals) allL f σ) (hpA T act allL f rows0) K) {Q : Exit → Act → World → Prop} {mu0 : Nm → Nat → Option Loc} {pr0 : Bool → Nat → Prop} {h0 : Hp} {w0 : World} {a0 : Act}
    (hQ : ∀ σ' h' mu' pr' w' a', K σ' h' → EnvR mu' pr' w'.heap σ' a' N → AfterB T mu0 pr0 h0 w0 mu' pr' h' w' → a'.defers = a0.defers → Q .normal a' w') :
    ∀ (fuel : Nat) (listed : Array Bool) (mu : Nm → Nat → Option Loc) (pr : Bool → Nat → Prop) (w : World) (a : Act), listed.size = ops.size → Closed ops (lst listed) → (∀ j, f ≤ j → lst listed j = false) → cnt (lst listed) ops.size ≤ fuel →
    EnvR mu pr w.heap (lw (we ops vals) (lst listed) f σ) a N → Rel mu pr (hpA T act (lst listed) f rows0) w → (∀ i j v, lst listed i = false → mu (T, i, j) v = none) →
    AfterB T mu0 pr0 h0 w0 mu pr (hpA T act (lst listed) f rows0) w → a.defers = a0.defers → wpAny P .any ops Q fuel listed a w := by
  have fin : ∀ (fuel : Nat) (listed : Array Bool) (mu : Nm → Nat → Option Loc) (pr : Bool → Nat → Prop) (w : World) (a : Act), listed.size = ops.size → (∀ j, f ≤ j → lst listed j = false) → (∀ j, j < f → lst listed j = true) → cnt (lst listed) ops.size ≤ fuel →
      EnvR mu pr w.heap (lw (we ops vals) (lst listed) f σ) a N → Rel mu pr (hpA T act (lst listed) f rows0) w → (∀ i j v, lst listed i = false → mu (T, i, j) v = none) →
      AfterB T mu0 pr0 h0 w0 mu pr (hpA T act (lst listed) f rows0) w → a.defers = a0.defers → wpAny P .any ops Q fuel listed a w := by
    intro fuel listed mu pr w a hs hhi hlo hcnt E R hfree A hd
    have e1 : lw (we ops vals) (lst listed) f σ = lw (we ops vals) allL f σ := lw_congr f fun j hj => ⟨rfl, hlo j hj⟩
    have e2 : hpA T act (lst listed) f rows0 = hpA T act allL f rows0 := by
      have : lw act (lst listed) f rows0 = lw act allL f rows0 := lw_congr f fun j hj => ⟨rfl, hlo j hj⟩
      unfold hpA
      rw [this]
    rw [e1] at E
    rw [e2] at R A
    have hL : ∀ j, lst listed j = decide (j < f) := fun j => by
      rcases Nat.lt_or_ge j f with h | h
      · rw [hlo j h]; simp [h]
      · rw [hhi j h]; simp; omega
    have hsz := S.size
    have hc : ∀ n, f ≤ n → cnt (lst listed) n = n - f := by
      intro n
      induction n with
      | zero => intro h; simp [cnt]
      | succ n ihn =>
        intro h
        simp only [cnt]
        rcases Nat.lt_or_ge n f with h1 | h1
        · have : f = n + 1 := by omega
          have hz : ∀ n', n' ≤ f → cnt (lst listed) n' = 0 := by
            intro n'
            induction n' with
            | zero => intro _; rfl
            | succ n' ih' => intro h'; simp only [cnt]; rw [ih' (by omega), hL n', if_pos (by simp; omega)]
          rw [hz n (by omega), hL n, if_pos (by simp [h1])]
          omega
        · rw [ihn h1, hL n, if_neg (by simp; omega)]
          omega
    refine tail_ok S hall (ops.size - f) f fuel listed a w (by omega) (Nat.le_refl f) (by rw [hc _ hsz] at hcnt; exact hcnt) hs (fun j _ => hL j) ?_
    have h1 := wpOps_ok (Q := Q) hall (ops.toList.drop f) f _ _ K mu pr w a (fun j => by simp [List.getElem?_drop]) htail E R (Nat.lt_succ_self T) (fun i j v hi => hfree i j v (hhi i hi)) (fun σ' h' mu' pr' w' a' hk E' A' hd' => hQ σ' h' mu' pr' w' a' hk E' (A.trans A') (hd'.trans hd))
    simpa using h1
  intro fuel
  induction fuel with
  | zero =>
    intro listed mu pr w a hs hc hhi hcnt E R hfree A hd
    exact fin 0 listed mu pr w a hs hhi (fun j hj => cnt_zero _ (Nat.le_zero.1 hcnt) j (Nat.lt_of_lt_of_le hj S.size)) hcnt E R hfree A hd
  | succ m ih =>
    intro listed mu pr w a hs hc hhi hcnt E R hfree A hd
    by_cases hex : ∃ j, j < f ∧ lst listed j = false
    case neg =>
      exact fin (m + 1) listed mu pr w a hs hhi (fun j hj => by
        cases h : lst listed j with
        | true => rfl
        | false => exact (hex ⟨j, hj, h⟩).elim) hcnt E R hfree A hd
    case pos =>
      obtain ⟨j0, hj0, hlj0⟩ := hex
      refine ⟨fun hr => absurd hr (ready_least S hs j0 (Nat.lt_of_lt_of_le hj0 S.size) hlj0), fun i hi => ?_⟩
      obtain ⟨h1, o, ho, h2⟩ := (mem_ready' hs).1 hi
      have hilt := (Array.getElem?_eq_some_iff.1 ho).1
      have hif : i < f := by
        rcases Nat.lt_or_ge i f with h3 | h3
        · exact h3
        · exfalso
          obtain ⟨o', ho'⟩ := S.get ho (show j0 < i by omega)
          have := S.listed hc i o ho h2 j0 (S.tail i j0 o o' ho ho' (by omega) h3)
          rw [hlj0] at this
          cases this
      obtain ⟨g1, g2, g3⟩ := draw_step S Tr hc ho hif h1 h2
      have hset : lst (listed.setIfInBounds i true) = fun j => lst listed j || j == i := funext fun j => lst_set (by omega) j
      have hsz' : (listed.setIfInBounds i true).size = ops.size := by simp [hs]
      have hc' : Closed ops (lst (listed.setIfInBounds i true)) := fun j oj hoj hlj e he hb => by
        rw [hset] at hlj ⊢
        simp only [Bool.or_eq_true, beq_iff_eq] at hlj ⊢
        rcases hlj with hlj | rfl
        · exact .inl (hc j oj hoj hlj e he hb)
        · rw [ho] at hoj; cases hoj
          exact .inl (h2 e he hb)
      have hhi' : ∀ j, f ≤ j → lst (listed.setIfInBounds i true) j = false := fun j hj => by
        rw [hset]
        have : (j == i) = false := by simp; omega
        simp [hhi j hj, this]
      have hcnt' : cnt (lst (listed.setIfInBounds i true)) ops.size ≤ m := by
        have := cnt_set h1 ops.size hilt
        rw [hset]
        omega
      have hdst := hall i o ho
      have step : ∀ (mu' : Nm → Nat → Option Loc) (pr' : Bool → Nat → Prop) (w' : World) (a' : Act), EnvR mu' pr' w'.heap (upd (o.dst.map fun d => (d, vals i)) (lw (we ops vals) (lst listed) f σ)) a' N →
          Rel mu' pr' ⟨upd (act i) (lw act (lst listed) f rows0), T + 1⟩ w' → (∀ i' j v, lst listed i' = false → i' ≠ i → mu' (T, i', j) v = none) →
          AfterB T mu0 pr0 h0 w0 mu' pr' ⟨upd (act i) (lw act (lst listed) f rows0), T + 1⟩ w' → a'.defers = a0.defers → wpAny P .any ops Q m (listed.setIfInBounds i true) a' w' := by
        intro mu' pr' w' a' E' R' hf' A' hd'
        refine ih (listed.setIfInBounds i true) mu' pr' w' a' hsz' hc' hhi' hcnt' ?_ ?_ ?_ ?_ hd'
        · rw [hset, g1]; exact E'
        · unfold hpA; rw [hset, g2]; exact R'
        · intro i' j v hl
          rw [hset] at hl
          simp only [Bool.or_eq_false_iff, beq_eq_false_iff_ne] at hl
          exact hf' i' j v hl.1 hl.2
        · unfold hpA; rw [hset, g2]; exact A'
      have hput : ∀ v : AV, putA o.dst v (lw (we ops vals) (lst listed) f σ) = upd (o.dst.map fun d => (d, v)) (lw (we ops vals) (lst listed) f σ) := fun v => by cases o.dst <;> rfl
      unfold wpOp
      simp only [ho]
      rcases g3 with ⟨q1, q2, q3⟩ | ⟨q1, q2⟩
      · rw [wantedA_ok E hall q1, if_neg (by simp)]
        refine step mu pr w _ ?_ ?_ (fun i' j v hl _ => hfree i' j v hl) ?_ ((Act.put_defers' _ _ _).trans hd)
        · rw [q2, ← hput]; exact E.put hdst (VR.tup_mk .nil)
        · rw [q3]; exact R
        · rw [q3]; exact A
      · rw [wantedA_ok E hall q1, if_pos rfl]
        left
        refine stepW_ok q2 E R (fun v => hfree i 0 v h1) (Nat.lt_succ_self T) (fun v z h' mu' pr' w' hk hv A' hfr => ?_)
        obtain ⟨rfl, rfl⟩ := hk
        refine step mu' pr' w' _ ?_ A'.rel (fun i' j v' hl hne => hfr (T, i', j) rfl (fun e => by cases e; exact hne rfl) (fun v => hfree i' j v hl) v') (A.trans A') ((Act.put_defers' _ _ _).trans hd)
        rw [← hput]
        exact (E.mono A'.ext).put hdst hv

/-- **What is asked of a region that draws its order is enough.** -/
theorem drawW_ok (hm : P.follows .mixedOrders = true) : DrawOk P (drawW P M (Sound P)) := by
  intro id ops σ h K N hw hall mu pr w a Q E R hQ
  obtain ⟨f, W, hd, hfr⟩ := hw
  have S := drawS_of hd
  obtain ⟨vals, act, _, Tr, htail⟩ := trace (M := M) (C := Sound P) (T := h.tick) (rows0 := h.rows) (σ := σ) S.size f 0 (fun _ => .undef) (fun _ => none) (by omega) (by rw [List.drop_zero]; exact hfr)
  refine wp_region_any hm ?_
  have hl : lst (Array.replicate ops.size false) = fun _ => false := funext fun j => by
    unfold lst
    by_cases h : j < ops.size <;> simp [h]
  have hz : ∀ {K V : Type} [DecidableEq K] (wr : Nat → Option (K × V)) (b : K → V) (n : Nat), lw wr (fun _ => false) n b = b := by
    intro K V _ wr b n
    induction n with
    | zero => rfl
    | succ n ih => simp only [lw]; rw [if_neg (by simp), ih]
  have hcz : ∀ n, cnt (fun _ => false) n = n := by
    intro n
    induction n with
    | zero => rfl
    | succ n ih => simp only [cnt, ih]; simp
  have R' : Rel mu pr (hpA h.tick act (fun _ => false) f h.rows) { w with drawn := w.drawn + 1 } := by
    unfold hpA
    rw [hz]
    have := R.next
    exact ⟨this.row, this.inj, this.fresh, this.vers, this.lt⟩
  refine front_ok (M := M) S hall (fun j hj => Tr j (Nat.zero_le j) hj) htail (mu0 := mu) (pr0 := pr) (h0 := h.next) (w0 := w) (a0 := a) (fun σ' h' mu' pr' w' a' hk E' A hd => ?_) ops.size _ mu pr _ a (by simp) ?_ ?_ ?_ ?_ ?_ ?_ ?_ rfl
  · exact hQ σ' h' mu' pr' w' a' hk E' ⟨A.rel, A.ext, A.fr, A.grow, A.tru, A.names, Nat.le_trans (Nat.le_succ _) A.tick⟩ hd
  · rw [hl]; intro i o ho hli; cases hli
  · rw [hl]; intro j _; rfl
  · rw [hl, hcz]; exact Nat.le_refl _
  · rw [hl, hz]; exact E
  · rw [hl]; exact R'
  · intro i j v _; exact R.fresh h.tick i j v (Nat.le_refl _)
  · rw [hl]
    exact ⟨R', .refl, ⟨rfl, rfl, rfl, Nat.le_refl _⟩, fun b hb => .inl hb, fun b hb => hb, fun n _ hn => hn, Nat.le_refl _⟩
end

/-! ### In every order -/
def readyL (ops : Array Oper) (done : List Nat) : List Nat := (List.range ops.size).filter fun i => !done.contains i && match ops[i]? with
  | some o => o.after.toList.all fun e => !Region.binds .any e || done.contains e.on
  | none => false
def allW : List Nat → (Nat → Prop) → Prop
  | [], _ => True
  | i :: l, k => k i ∧ allW l k
theorem allW_mem {k : Nat → Prop} : ∀ {l : List Nat}, allW l k → ∀ i ∈ l, k i
  | [], _, i, hi => by cases hi
  | j :: l, h, i, hi => by
    simp only [List.mem_cons] at hi
    rcases hi with rfl | hi
    · exact h.1
    · exact allW_mem h.2 i hi
theorem all_nil {k : Nat → Prop} : allW [] k := trivial
theorem all_cons {k : Nat → Prop} {i : Nat} {l : List Nat} (h1 : k i) (h2 : allW l k) : allW (i :: l) k := ⟨h1, h2⟩

def anyW (P : Program) (M : FuncId → Mode) (C : CS) (ops : Array Oper) (T : Nat) : Nat → List Nat → (Nat → AV) → Hp → ((Nat → AV) → Hp → Prop) → Prop
  | 0, done, σ, h, K => readyL ops done = [] ∧ K σ h
  | n + 1, done, σ, h, K => (readyL ops done = [] → K σ h) ∧ allW (readyL ops done) fun i => ∃ o, ops[i]? = some o ∧ wpOps P M C ops T [o] i σ h (fun σ' h' => anyW P M C ops T n (i :: done) σ' h' K)

section
variable {P : Program} {M : FuncId → Mode} {ops : Array Oper} {T N : Nat} {K : (Nat → AV) → Hp → Prop}

theorem anyW_mono {C C' : CS} (hC : CS.le C C') {K' : (Nat → AV) → Hp → Prop} (hK : ∀ σ' h', K σ' h' → K' σ' h') : ∀ (n : Nat) (done : List Nat) (σ : Nat → AV) (h : Hp), anyW P M C ops T n done σ h K → anyW P M C' ops T n done σ h K'
  | 0, _, _, _, hw => ⟨hw.1, hK _ _ hw.2⟩
  | n + 1, done, σ, h, hw => by
    refine ⟨fun e => hK _ _ (hw.1 e), ?_⟩
    have h2 := hw.2
    generalize readyL ops done = l at h2
    induction l with
    | nil => exact trivial
    | cons i l ih =>
      obtain ⟨⟨o, ho, h3⟩, h4⟩ := h2
      exact ⟨⟨o, ho, wpOps_mono hC _ _ _ _ _ _ (fun σ' h' hr => anyW_mono hC hK n _ _ _ hr) h3⟩, ih h4⟩

theorem any_ok (hall : ∀ (j : Nat) (o : Oper), ops[j]? = some o → dstOk N o.dst = true) {Q : Exit → Act → World → Prop} {mu0 : Nm → Nat → Option Loc} {pr0 : Bool → Nat → Prop} {h0 : Hp} {w0 : World} {a0 : Act}
    (hQ : ∀ σ' h' mu' pr' w' a', K σ' h' → EnvR mu' pr' w'.heap σ' a' N → AfterB T mu0 pr0 h0 w0 mu' pr' h' w' → a'.defers = a0.defers → Q .normal a' w') :
    ∀ (fuel : Nat) (done : List Nat) (listed : Array Bool) (σ : Nat → AV) (h : Hp) (mu : Nm → Nat → Option Loc) (pr : Bool → Nat → Prop) (w : World) (a : Act), listed.size = ops.size → (∀ j ∈ done, j < ops.size) → (∀ j, j < ops.size → lst listed j = done.contains j) →
    anyW P M (Sound P) ops T fuel done σ h K → EnvR mu pr w.heap σ a N → Rel mu pr h w → T < h.tick → (∀ i j v, i < ops.size → done.contains i = false → mu (T, i, j) v = none) →
    AfterB T mu0 pr0 h0 w0 mu pr h w → a.defers = a0.defers → wpAny P .any ops Q fuel listed a w := by
  have hrd : ∀ (done : List Nat) (listed : Array Bool), listed.size = ops.size → (∀ j, j < ops.size → lst listed j = done.contains j) → ∀ i, i ∈ Region.ready .any ops listed → i ∈ readyL ops done := by
    intro done listed hs hl i hi
    obtain ⟨h1, o, ho, h2⟩ := (mem_ready' hs).1 hi
    have hilt := (Array.getElem?_eq_some_iff.1 ho).1
    simp only [readyL, List.mem_filter, List.mem_range, ho, Bool.and_eq_true]
    refine ⟨hilt, by rw [← hl i hilt, h1]; rfl, ?_⟩
    rw [List.all_eq_true]
    intro e he
    cases hb : Region.binds .any e with
    | false => rfl
    | true =>
      have h3 := h2 e (by simpa using he) hb
      have h4 : e.on < ops.size := by
        rcases Nat.lt_or_ge e.on ops.size with h | h
        · exact h
        · exfalso
          unfold lst at h3
          rw [← hs] at h
          simp [Array.getD, Nat.not_lt.2 h] at h3
      rw [hl e.on h4] at h3
      simp only [Bool.not_true, Bool.false_or, h3]
  have hrd2 : ∀ (done : List Nat) (listed : Array Bool), listed.size = ops.size → (∀ j ∈ done, j < ops.size) → (∀ j, j < ops.size → lst listed j = done.contains j) → Region.ready .any ops listed = [] → readyL ops done = [] := by
    intro done listed hs hdn hl he
    refine List.eq_nil_iff_forall_not_mem.2 fun i hi => ?_
    simp only [readyL, List.mem_filter, List.mem_range, Bool.and_eq_true] at hi
    obtain ⟨hilt, h1, h2⟩ := hi
    have ho : ops[i]? = some ops[i] := by simp [hilt]
    rw [ho] at h2
    simp only [List.all_eq_true] at h2
    have : i ∈ Region.ready .any ops listed := (mem_ready' hs).2 ⟨by rw [hl i hilt]; simpa using h1, _, ho, fun e hee hb => by
      have h3 := h2 e (by simpa using hee)
      rw [hb] at h3
      simp only [Bool.not_true, Bool.false_or] at h3
      rw [hl e.on (hdn _ (by simpa using h3))]
      exact h3⟩
    rw [he] at this
    cases this
  intro fuel
  induction fuel with
  | zero =>
    intro done listed σ h mu pr w a hs hdn hl hw E R hT hfree A hd
    refine ⟨List.eq_nil_iff_forall_not_mem.2 fun i hi => ?_, hQ _ _ _ _ _ _ hw.2 E A hd⟩
    have := hrd done listed hs hl i hi
    rw [hw.1] at this
    cases this
  | succ m ih =>
    intro done listed σ h mu pr w a hs hdn hl hw E R hT hfree A hd
    refine ⟨fun hr => hQ _ _ _ _ _ _ (hw.1 (hrd2 done listed hs hdn hl hr)) E A hd, fun i hi => ?_⟩
    obtain ⟨h1, o', ho', _⟩ := (mem_ready' hs).1 hi
    have hilt := (Array.getElem?_eq_some_iff.1 ho').1
    obtain ⟨o, ho, h3⟩ := allW_mem hw.2 i (hrd done listed hs hl i hi)
    have hni : done.contains i = false := by rw [← hl i hilt]; exact h1
    have hdst := hall i o ho
    have hl' : ∀ j, j < ops.size → lst (listed.setIfInBounds i true) j = (i :: done).contains j := fun j hj => by
      rw [lst_set (by omega), hl j hj]
      simp only [List.contains_cons]
      rw [Bool.or_comm]
    have hdn' : ∀ j ∈ i :: done, j < ops.size := fun j hj => by
      simp only [List.mem_cons] at hj
      rcases hj with rfl | hj
      · exact hilt
      · exact hdn j hj
    unfold wpOps at h3
    unfold wpOp
    simp only [ho]
    split at h3
    case h_2 => 
      rename_i hwt
      rw [wantedA_ok E hall hwt, if_neg (by simp)]
      refine ih (i :: done) (listed.setIfInBounds i true) _ h mu pr w _ (by simp [hs]) hdn' hl' h3 (E.put hdst (VR.tup_mk .nil)) R hT (fun i' j v hi' hc => hfree i' j v hi' ?_) A ((Act.put_defers' _ _ _).trans hd)
      simp only [List.contains_cons, Bool.or_eq_false_iff] at hc
      exact hc.2
    case h_1 =>
      rename_i hwt
      rw [wantedA_ok E hall hwt, if_pos rfl]
      left
      refine stepW_ok h3 E R (fun v => hfree i 0 v hilt hni) hT (fun v z h' mu' pr' w' hk hv A' hfr => ?_)
      refine ih (i :: done) (listed.setIfInBounds i true) _ h' mu' pr' w' _ (by simp [hs]) hdn' hl' hk ((E.mono A'.ext).put hdst hv) A'.rel (Nat.lt_of_lt_of_le hT A'.tick) (fun i' j v' hi' hc => ?_) (A.trans A') ((Act.put_defers' _ _ _).trans hd)
      simp only [List.contains_cons, Bool.or_eq_false_iff, beq_eq_false_iff_ne] at hc
      exact hfr (T, i', j) rfl (fun e => by cases e; exact hc.1 rfl) (fun v => hfree i' j v hi' hc.2) v'
    case h_3 => exact h3.elim
end

/-- What is asked of a region that draws its order: by fronts, or in every order. -/
def drawW2 (P : Program) (M : FuncId → Mode) (C : CS) (ops : Array Oper) (σ : Nat → AV) (h : Hp) (K : (Nat → AV) → Hp → Prop) : Prop :=
  drawW P M C ops σ h K ∨ anyW P M C ops h.tick ops.size [] σ h.next K

theorem drawW2_ok {P : Program} {M : FuncId → Mode} (hm : P.follows .mixedOrders = true) : DrawOk P (drawW2 P M (Sound P)) := by
  intro id ops σ h K N hw hall mu pr w a Q E R hQ
  rcases hw with hw | hw
  · exact drawW_ok hm id ops σ h K N hw hall mu pr w a Q E R hQ
  refine wp_region_any hm ?_
  have hl : ∀ j, j < ops.size → lst (Array.replicate ops.size false) j = ([] : List Nat).contains j := fun j hj => by simp [lst, hj]
  have R' : Rel mu pr h.next { w with drawn := w.drawn + 1 } := by
    have := R.next
    exact ⟨this.row, this.inj, this.fresh, this.vers, this.lt⟩
  refine any_ok (M := M) hall (mu0 := mu) (pr0 := pr) (h0 := h.next) (w0 := w) (a0 := a) (fun σ' h' mu' pr' w' a' hk E' A hd => ?_) ops.size [] _ σ h.next mu pr _ a (by simp) (by simp) hl hw E R' (Nat.lt_succ_self _) (fun i j v _ _ => R.fresh h.tick i j v (Nat.le_refl _)) ?_ rfl
  · exact hQ σ' h' mu' pr' w' a' hk E' ⟨A.rel, A.ext, A.fr, A.grow, A.tru, A.names, Nat.le_trans (Nat.le_succ _) A.tick⟩ hd
  · exact ⟨R', .refl, ⟨rfl, rfl, rfl, Nat.le_refl _⟩, fun b hb => .inl hb, fun b hb => hb, fun n _ hn => hn, Nat.le_refl _⟩
theorem drawW2_le {P : Program} {M : FuncId → Mode} {C C' : CS} (hC : CS.le C C') : Dle (drawW2 P M C) (drawW2 P M C') := by
  intro ops σ h K K' hK hw
  rcases hw with hw | hw
  · exact .inl (drawW_mono hC _ _ _ _ _ hK hw)
  · exact .inr (anyW_mono hC hK _ _ _ _ hw)
end Go.Proofs.Ytfgaoojogididaa.AM

/-
  The A-machine, part 18: arguments: what is read as data is a tree.
-/
set_option linter.unusedVariables false
set_option linter.unusedSimpArgs false
namespace Go.Proofs.Ytfgaoojogididaa.AM
open Go.RowKit

/-- Cells of a type: a tree of numbers, bools, strings, slices, structs. -/
inductive Shp (P : Program) : TypeId → List AV → Prop
  | bool (t : TypeId) (b : Bool) : P.underlying t = some .bool → Shp P t [.bool b]
  | int (t : TypeId) (k : IntKind) (n : Int) : P.underlying t = some (.int k) → (Lit.int k n).wf = true → Shp P t [.int k n]
  | str (t : TypeId) (s : ByteArray) : P.underlying t = some .string → s.size ≤ maxLen → Shp P t [.str s]
  | sl (t e : TypeId) (elems : List (List AV)) : P.underlying t = some (.slice e) → elems.length ≤ maxLen → (∀ (i : Nat) (el : List AV), elems[i]? = some el → Shp P e el) → Shp P t [.tr true elems]
  | st (t : TypeId) (fs : Array Field) (parts : List (List AV)) : P.underlying t = some (.struct fs) → parts.length = fs.size → (∀ (i : Nat) (f : Field) (p : List AV), fs[i]? = some f → parts[i]? = some p → Shp P f.type p) → Shp P t parts.flatten

def fsOk (P : Program) (ts : List TypeId) (total : Nat) : List Field → Nat → Bool
  | [], off => off == total
  | f :: l, off => f.offset == off && ts.contains f.type && fsOk P ts total l (off + P.cellsOf f.type)

/-- A set of types, closed. -/
def tyOk (P : Program) (ts : List TypeId) : Bool := ts.all fun t => match P.underlying t with
  | some .bool | some (.int _) | some .string => true
  | some (.slice e) => decide (0 < P.cellsOf e) && ts.contains e
  | some (.struct fs) => fsOk P ts (P.cellsOf t) fs.toList 0
  | _ => false

section
variable {H : Type} {enc : TypeId × Value → H} {P : Program} {w : World} {mu : Nm → Nat → Option Loc} {pr : Bool → Nat → Prop}

theorem VRs.one_mk {c : AV} {v : Value} (h : VR mu pr w.heap c v) : VRs mu pr w.heap [c] [v] := .cons h .nil

theorem fields_av {ts : List TypeId} {cs : List Value} {total : Nat} (hcs : cs.length = total) : ∀ (l : List Field) (off : Nat), fsOk P ts total l off = true → off ≤ total →
    (∀ f ∈ l, f.type ∈ ts → ∃ p, VRs mu pr w.heap p ((cs.drop f.offset).take (P.cellsOf f.type)) ∧ ones p = true ∧ Shp P f.type p) →
    ∃ parts : List (List AV), parts.length = l.length ∧ (∀ (i : Nat) (f : Field) (p : List AV), l[i]? = some f → parts[i]? = some p → Shp P f.type p) ∧ VRs mu pr w.heap parts.flatten (cs.drop off) ∧ ones parts.flatten = true
  | [], off, h, ho, _ => by
    simp only [fsOk, beq_iff_eq] at h
    refine ⟨[], rfl, fun i f p hf => by simp at hf, ?_, rfl⟩
    rw [List.drop_eq_nil_of_le (by omega)]
    exact .nil
  | f :: l, off, h, ho, hf => by
    simp only [fsOk, Bool.and_eq_true, beq_iff_eq, List.contains_iff_mem] at h
    obtain ⟨⟨h1, h2⟩, h3⟩ := h
    obtain ⟨p, hp1, hp2, hp3⟩ := hf f (by simp) h2
    rcases Nat.lt_or_ge total (off + P.cellsOf f.type) with hlt | hge
    case inl =>
      exfalso
      have : ∀ (l : List Field) (o : Nat), total < o → fsOk P ts total l o = false := by
        intro l
        induction l with
        | nil => intro o ho; simp only [fsOk, beq_eq_false_iff_ne]; omega
        | cons g l ih => intro o ho; simp only [fsOk, ih _ (by omega : total < o + P.cellsOf g.type), Bool.and_false]
      rw [this l _ hlt] at h3
      cases h3
    case inr =>
      obtain ⟨parts, g1, g2, g3, g4⟩ := fields_av hcs l _ h3 hge (fun g hg => hf g (by simp [hg]))
      refine ⟨p :: parts, by simp [g1], fun i g q hg hq => ?_, ?_, ?_⟩
      · cases i with
        | zero => simp at hg hq; subst hg hq; exact hp3
        | succ i => simp at hg hq; exact g2 i g q hg hq
      · rw [List.flatten_cons]
        have : cs.drop off = (cs.drop f.offset).take (P.cellsOf f.type) ++ cs.drop (off + P.cellsOf f.type) := by
          rw [h1, ← List.drop_drop, List.take_append_drop]
        rw [this]
        exact hp1.append g3
      · rw [List.flatten_cons]
        simp [ones] at hp2 g4 ⊢
        exact ⟨hp2, g4⟩

theorem shp_of {ts : List TypeId} (hts : tyOk P ts = true) (hpr : ∀ b, b < w.heap.size → pr true b) : ∀ (fuel : Nat) (t : TypeId) (cs : List Value) (x : DataW H × List MemPlace), t ∈ ts → DataW.trod enc P w 0 (fun _ => true) true fuel t cs = some x →
    ∃ cells, VRs mu pr w.heap cells cs ∧ ones cells = true ∧ Shp P t cells := by
  intro fuel
  induction fuel with
  | zero => intro t cs x _ h; simp [DataW.trod] at h
  | succ n ih =>
    intro t cs x ht h
    have hok := List.all_eq_true.1 hts t ht
    split at hok
    case h_1 hu => obtain ⟨b, rfl, rfl⟩ := DataW.trod_bool hu h; exact ⟨_, .one_mk (.bool b), rfl, .bool t b hu⟩
    case h_2 k hu => obtain ⟨m, rfl, rfl, hw⟩ := DataW.trod_int hu h; exact ⟨_, .one_mk (.int k m), rfl, .int t k m hu hw⟩
    case h_3 hu => obtain ⟨s, rfl, rfl, hs⟩ := DataW.trod_string hu h; exact ⟨_, .one_mk (.str s), rfl, .str t s hu hs⟩
    case h_4 e hu =>
      simp only [Bool.and_eq_true, decide_eq_true_eq, List.contains_iff_mem] at hok
      obtain ⟨hpos, he⟩ := hok
      rcases DataW.trod_slice hu h with ⟨rfl, rfl⟩ | ⟨a, len, cap, elems, rest, m, hm, rfl, rfl, hb, hlc, hcm, hlen, hel, _, _⟩
      · exact ⟨_, .one_mk (.tr0 true none 0), rfl, .sl t e [] hu (Nat.zero_le _) (fun i el h => by simp at h)⟩
      · obtain rfl : m = n := by omega
        have each : ∀ i, i < len → ∃ (cells : List AV) (vs : List Value), w.cells? 0 (a.add (i * P.cellsOf e)) (P.cellsOf e) = some vs ∧ VRs mu pr w.heap cells vs ∧ ones cells = true ∧ Shp P e cells ∧ vs.length = P.cellsOf e := by
          intro i hi
          have h1 := hel i hi
          have h2 : elems[i]? = some (elems[i]'(by omega)) := by simp
          rw [h2] at h1
          obtain ⟨vs, h3, h4⟩ := Option.bind_eq_some_iff.1 h1
          obtain ⟨cells, g1, g2, g3⟩ := ih e vs _ he h4
          refine ⟨cells, vs, h3, g1, g2, g3, ?_⟩
          unfold World.cells? at h3
          split at h3
          · simpa using mapM_some_length h3
          · cases h3
        have hch : ∃ f : Nat → List AV × List Value, ∀ i, i < len → w.cells? 0 (a.add (i * P.cellsOf e)) (P.cellsOf e) = some (f i).2 ∧ VRs mu pr w.heap (f i).1 (f i).2 ∧ ones (f i).1 = true ∧ Shp P e (f i).1 ∧ (f i).2.length = P.cellsOf e := by
          refine ⟨fun i => if h : i < len then ((each i h).choose, (each i h).choose_spec.choose) else ([], []), fun i hi => ?_⟩
          simp only [dif_pos hi]
          exact (each i hi).choose_spec.choose_spec
        obtain ⟨f, hf⟩ := hch
        have hget : ∀ (i : Nat) (el : List AV), ((List.range len).map fun i => (f i).1)[i]? = some el → i < len ∧ el = (f i).1 := by
          intro i el h
          rw [List.getElem?_map, Option.map_eq_some_iff] at h
          obtain ⟨j, hj, rfl⟩ := h
          have := List.getElem?_eq_some_iff.1 hj
          obtain ⟨h1, h2⟩ := this
          simp at h1 h2
          subst h2
          exact ⟨h1, rfl⟩
        rcases Nat.eq_zero_or_pos len with h0 | hl0
        · subst h0
          exact ⟨_, .one_mk (.tr0 true (some a) cap), rfl, .sl t e [] hu (Nat.zero_le _) (fun i el h => by simp at h)⟩
        · have cellAt : ∀ i j, i < len → j < P.cellsOf e → ∃ u, (f i).2[j]? = some u ∧ w.cell? ((a.add (i * P.cellsOf e)).add j) = some u := by
            intro i j hi hj
            obtain ⟨q1, _, _, _, q5⟩ := hf i hi
            unfold World.cells? at q1
            split at q1
            case isFalse => cases q1
            case isTrue =>
              have := mapM_some_get q1 j j (by simp [hj])
              refine ⟨_, List.getElem?_eq_getElem (by omega), ?_⟩
              rw [List.getElem?_eq_getElem (by omega : j < (f i).2.length)] at this
              exact this
          obtain ⟨b, off, spot⟩ := a
          have hspot : spot = none := by
            obtain ⟨u, _, hu⟩ := cellAt 0 0 hl0 hpos
            rw [Nat.zero_mul, show ∀ x : Addr, x.add 0 = x from fun x => rfl, show ∀ x : Addr, x.add 0 = x from fun x => rfl] at hu
            unfold World.cell? at hu
            split at hu
            · cases spot with
              | none => rfl
              | some s => simp at hu
            · cases hu
          subst hspot
          have hblk : ∃ arr ty fr, w.heap[b]? = some (.cells arr ty fr) := by
            obtain ⟨u, _, hu⟩ := cellAt 0 0 hl0 hpos
            rw [Go.WideShapes.add_plain, Go.WideShapes.add_plain] at hu
            unfold World.cell? at hu
            split at hu
            · rename_i c t' fr' hc; exact ⟨c, t', fr', hc⟩
            · cases hu
          obtain ⟨arr, ty, fr, hblk⟩ := hblk
          have harr : ∀ i j, i < len → j < P.cellsOf e → (f i).2[j]? = arr[off + i * P.cellsOf e + j]? := by
            intro i j hi hj
            obtain ⟨u, h1, h2⟩ := cellAt i j hi hj
            rw [Go.WideShapes.add_plain, Go.WideShapes.add_plain] at h2
            unfold World.cell? at h2
            simp only [hblk] at h2
            rw [h1, ← h2]
            simp
          have hlt : b < w.heap.size := (Array.getElem?_eq_some_iff.1 hblk).1
          have hsz : ((List.range len).map fun i => (f i).1).length = len := by simp
          refine ⟨[.tr true ((List.range len).map fun i => (f i).1)], .one_mk ?_, rfl, .sl t e _ hu (by omega) (fun i el h => by obtain ⟨h1, rfl⟩ := hget i el h; exact (hf i h1).2.2.2.1)⟩
          have hlen2 : ∀ i, i < len → (f i).1.length = P.cellsOf e := fun i hi => by rw [← (hf i hi).2.1.1]; exact (hf i hi).2.2.2.2
          have key := VR.tr (mu := mu) (pr := pr) (hp := w.heap) true b off cap (P.cellsOf e) arr ty fr ((List.range len).map fun i => (f i).1) (fun i j => (f i).2.getD j undef) (hpr b hlt) hblk (by rw [hsz]; exact hlc)
            (fun i el h => by obtain ⟨h1, rfl⟩ := hget i el h; exact hlen2 i h1)
            (fun i el j c h hc => by
              obtain ⟨h1, rfl⟩ := hget i el h
              have hj : j < P.cellsOf e := by rw [← hlen2 i h1]; exact (List.getElem?_eq_some_iff.1 hc).1
              rw [← harr i j h1 hj]
              have : j < (f i).2.length := by rw [(hf i h1).2.2.2.2]; exact hj
              simp [this])
            (fun i el j c h hc => by obtain ⟨h1, rfl⟩ := hget i el h; exact ones_get (hf i h1).2.2.1 hc)
            (fun i el j c h hc => by
              obtain ⟨h1, rfl⟩ := hget i el h
              obtain ⟨u, hu1, hu2⟩ := (hf i h1).2.1.2 j c hc
              simp only [List.getD, hu1, Option.getD_some]
              exact hu2)
          rw [hsz] at key
          exact key
    case h_5 fs hu =>
      obtain ⟨xs, m, hm, rfl, hcl, hxl, hfld⟩ := DataW.trod_struct hu h
      obtain rfl : m = n := by omega
      obtain ⟨parts, g1, g2, g3, g4⟩ := fields_av (w := w) (mu := mu) (pr := pr) hcl fs.toList 0 hok (Nat.zero_le _) (fun f hf hft => by
        obtain ⟨i, hi, hfi⟩ := List.getElem_of_mem hf
        have h1 : fs[i]? = some f := by rw [← Array.getElem?_toList, List.getElem?_eq_getElem hi, hfi]
        have h2 := hfld i f h1
        have h3 : i < xs.length := by rw [hxl]; exact (Array.getElem?_eq_some_iff.1 h1).1
        rw [List.getElem?_eq_getElem h3] at h2
        exact ih f.type _ _ hft h2)
      refine ⟨parts.flatten, by simpa using g3, g4, .st t fs parts hu (by simpa using g1) (fun i f p hf hp => g2 i f p (by simpa using hf) hp)⟩
    case h_6 => cases hok

/-- A value of its cells. -/
def avOf (P : Program) (t : TypeId) (cells : List AV) : AV := match P.underlying t with
  | some (.struct _) => .agg cells
  | _ => cells.headD .undef

theorem arg_av {ts : List TypeId} (hts : tyOk P ts = true) (hpr : ∀ b, b < w.heap.size → pr true b) {t : TypeId} (ht : t ∈ ts) {v : Value} {base : Nat} (hok : Value.okWide P w .any base t v) {d : DataW H} {ps : List MemPlace}
    (hd : DataW.Trod enc P w 0 (fun _ => true) true t v d ps) : ∃ cells, Shp P t cells ∧ VR mu pr w.heap (avOf P t cells) v := by
  obtain ⟨fuel, hf⟩ := hd
  obtain ⟨cells, h1, h2, h3⟩ := shp_of (mu := mu) hts hpr fuel t _ _ ht hf
  refine ⟨cells, h3, ?_⟩
  have hk := List.all_eq_true.1 hts t ht
  have single : v.cells = #[v] → VR mu pr w.heap (cells.headD .undef) v := by
    intro hc
    rw [hc] at h1
    obtain ⟨l, hl⟩ := h1
    cases cells with
    | nil => simp at l
    | cons c cs =>
      obtain ⟨u, hu1, hu2⟩ := hl 0 c rfl
      simp at hu1
      subst hu1
      exact hu2
  unfold avOf
  split at hk
  case h_1 hu => rw [hu]; obtain ⟨b, rfl⟩ := Go.WideShapes.okWide_bool hu hok; exact single rfl
  case h_2 k hu => rw [hu]; obtain ⟨m, rfl⟩ := Go.WideShapes.okWide_int hu hok; exact single rfl
  case h_3 hu => rw [hu]; obtain ⟨s, rfl⟩ := Go.WideShapes.okWide_string hu hok; exact single rfl
  case h_4 e hu => rw [hu]; obtain ⟨a, len, cap, rfl⟩ := Go.WideShapes.okWide_slice hu hok; exact single rfl
  case h_5 fs hu =>
    rw [hu]
    simp only
    have hok' := hok
    unfold Value.okWide at hok'
    rw [hu] at hok'
    obtain ⟨cs, rfl, _, _⟩ := hok'
    have := VR.agg_mk (mu := mu) (pr := pr) (hp := w.heap) h1 h2
    simpa [Value.cells] using this
  case h_6 => cases hk
end
end Go.Proofs.Ytfgaoojogididaa.AM

/-
  The A-machine, part 19: a law, from its call over trees.
-/
set_option linter.unusedVariables false
set_option linter.unusedSimpArgs false
namespace Go.Proofs.Ytfgaoojogididaa.AM
open Go.RowKit Go.ChangeShapes

/-- Arguments by their types. -/
def ShpAll (P : Program) : List TypeId → List AV → Prop
  | [], [] => True
  | t :: ts, a :: as1 => (∃ cells, Shp P t cells ∧ a = avOf P t cells) ∧ ShpAll P ts as1
  | _, _ => False

section
variable {H : Type} {enc : TypeId × Value → H} {P : Program} {w : World} {mu : Nm → Nat → Option Loc} {pr : Bool → Nat → Prop}

theorem args_av {ts : List TypeId} (hts : tyOk P ts = true) (hpr : ∀ b, b < w.heap.size → pr true b) {base : Nat} : ∀ (params : List TypeId) (vs : List Value) (ds : List (DataW H)) (ps : List MemPlace), (∀ t ∈ params, t ∈ ts) →
    (∀ (j : Nat) t v, params[j]? = some t → vs[j]? = some v → Value.okWide P w .any base t v) → DataW.TrodAll enc P w 0 (fun _ => true) true params vs ds ps →
    ∃ as1, ShpAll P params as1 ∧ VRs mu pr w.heap as1 vs
  | [], vs, ds, ps, _, _, h => by
    obtain ⟨rfl, rfl, rfl⟩ := trodAll_nil h
    exact ⟨[], trivial, .nil⟩
  | t :: params, vs, ds, ps, hp, hv, h => by
    obtain ⟨v, vs', d, ds', p, q, rfl, rfl, rfl, h1, h2⟩ := trodAll_cons h
    obtain ⟨cells, g1, g2⟩ := arg_av (mu := mu) hts hpr (hp t (by simp)) (hv 0 t v rfl rfl) h1
    obtain ⟨as1, g3, g4⟩ := args_av hts hpr params vs' ds' q (fun t ht => hp t (by simp [ht])) (fun j t v a b => hv (j + 1) t v (by simpa using a) (by simpa using b)) h2
    exact ⟨avOf P t cells :: as1, ⟨⟨cells, g1, rfl⟩, g3⟩, .cons g2 g4⟩

theorem back_all (hl : laidOutB P = true) {W W' : World} (hb : Below W.heap.size W W') : ∀ (params : List TypeId) (vs : List Value) (ds : List (DataW H)) (ps : List MemPlace), (params.all fun t => P.readableRec t && decide (t < P.types.size)) = true →
    DataW.TrodAll enc P W 0 (fun _ => true) true params vs ds ps → DataW.TrodAll enc P W' 0 (fun b => decide (b < W.heap.size)) true params vs ds ps
  | [], vs, ds, ps, _, h => by
    obtain ⟨rfl, rfl, rfl⟩ := trodAll_nil h
    exact trodAll_mk0
  | t :: params, vs, ds, ps, hp, h => by
    obtain ⟨v, vs', d, ds', p, q, rfl, rfl, rfl, h1, h2⟩ := trodAll_cons h
    simp only [List.all_cons, Bool.and_eq_true, decide_eq_true_eq] at hp
    have hlt : ∀ x ∈ p, x.block < W.heap.size := by
      obtain ⟨m, hm⟩ := h1
      exact DataW.trod_lt m _ _ _ hm
    exact ⟨p, q, Below.trod hl hp.1.1 hp.1.2 h1 hb hlt, back_all hl hb params vs' ds' q (by simpa using hp.2) h2, rfl⟩

/-- The law's call. -/
theorem law_calls {f : FuncId} {params ts : List TypeId} (hS : ∀ as1, ShpAll P params as1 → Sound P f as1 (.mt 0) fun v _ => v = .bool true) (hts : tyOk P ts = true) (hp : ∀ t ∈ params, t ∈ ts) {base : Nat} {args : Array Value} {ds : List (DataW H)} {ps : List MemPlace}
    (hv : ∀ (j : Nat) t v, params[j]? = some t → args[j]? = some v → Value.okWide P w .any base t v) (hd : DataW.TrodAll enc P w 0 (fun _ => true) true params args.toList ds ps) :
    Calls P f args w fun e w' => e = .returned (.bool true) ∧ Below w.heap.size w w' := by
  obtain ⟨as1, h1, h2⟩ := args_av (mu := fun _ _ => none) (pr := prLent (fun _ _ => False) w.heap.size) hts (fun b hb => by simpa [prLent] using hb) params args.toList ds ps hp (fun j t v a b => hv j t v a (by simpa using b)) hd
  have h3 := (hS as1 h1).2 (fun _ _ => none) (prLent (fun _ _ => False) w.heap.size) w args.toList (Rel.mt P w 0 _ (fun c b hb => by
    cases c
    · simp [prLent] at hb
    · simpa [prLent] using hb)) h2
  refine (show Calls P f args.toList.toArray w _ from h3).mono ?_
  rintro e w1 ⟨z, v, hc, mu1, pr1, rfl, rfl, hvz, A⟩
  have : z = .bool true := by cases hvz; rfl
  subst this
  exact ⟨rfl, A.fr.os, A.fr.tape, A.fr.output, A.fr.size, fun k hk => A.ext.same true k (by simpa [prLent] using hk)⟩
end
end Go.Proofs.Ytfgaoojogididaa.AM

/-
  The A-machine, part 20: contracts: pure ones, ones with new rows; loops.
-/
set_option linter.unusedVariables false
set_option linter.unusedSimpArgs false
namespace Go.Proofs.Ytfgaoojogididaa.AM
open Go.RowKit

/-- Cells, and the rows that they own: what they are as trees, and the rows' names. -/
inductive Own (rows : Nm → Option Row) (c : Bool) : List AV → List AV → List Nm → Prop
  | nil : Own rows c [] [] []
  | int {as1 ts : List AV} {ns : List Nm} (k : IntKind) (n : Int) : Own rows c as1 ts ns → Own rows c (.int k n :: as1) (.int k n :: ts) ns
  | bool {as1 ts : List AV} {ns : List Nm} (b : Bool) : Own rows c as1 ts ns → Own rows c (.bool b :: as1) (.bool b :: ts) ns
  | str {as1 ts : List AV} {ns : List Nm} (s : ByteArray) : Own rows c as1 ts ns → Own rows c (.str s :: as1) (.str s :: ts) ns
  | nilsl {as1 ts : List AV} {ns : List Nm} : Own rows c as1 ts ns → Own rows c (.nilsl :: as1) (.tr c [] :: ts) ns
  | sl {as1 ts : List AV} {ns1 ns2 : List Nm} (n : Nm) (ver len s : Nat) (r : Row) (ts' : List (List AV)) : rows n = some r → r.ver = ver → r.esz = s → ClRow r → len ≤ r.elems.length → (∀ e ∈ r.elems, e.length = s) → ts'.length = len → (∀ e ∈ ts', e.length = s) →
      Own rows c (r.elems.take len).flatten ts'.flatten ns1 → Own rows c as1 ts ns2 → Own rows c (.sl n ver 0 len :: as1) (.tr c ts' :: ts) (n :: (ns1 ++ ns2))
  | slo {as1 ts : List AV} {ns : List Nm} (n : Nm) (ver : Nat) (pre sp : List (List AV)) (xs : List Int) : rows n = some ⟨ver, 1, pre ++ ((xs.map fun x => [AV.int .i64 x]) ++ sp)⟩ → ClRow ⟨ver, 1, pre⟩ → ClRow ⟨ver, 1, sp⟩ → (∀ e ∈ pre, e.length = 1) → (∀ e ∈ sp, e.length = 1) → Own rows c as1 ts ns →
      Own rows c (.sl n ver pre.length xs.length :: as1) (.tr c (xs.map fun x => [AV.int .i64 x]) :: ts) (n :: ns)

section
variable {rows rows' : Nm → Option Row} {c : Bool}

theorem Own.length {as1 ts : List AV} {ns : List Nm} (h : Own rows c as1 ts ns) : ts.length = as1.length := by
  induction h <;> simp_all

theorem Own.append {as1 ts as' ts' : List AV} {ns ns' : List Nm} (h : Own rows c as1 ts ns) (k : Own rows c as' ts' ns') : Own rows c (as1 ++ as') (ts ++ ts') (ns ++ ns') := by
  induction h with
  | nil => exact k
  | int q n _ ih => exact .int q n ih
  | bool b _ ih => exact .bool b ih
  | str s _ ih => exact .str s ih
  | nilsl _ ih => exact .nilsl ih
  | @sl as1 ts ns1 ns2 n ver len s r ts' h1 h2 h3 h4 h5 h6 h7 h8 h9 _ _ ih =>
    have := Own.sl (ns1 := ns1) n ver len s r ts' h1 h2 h3 h4 h5 h6 h7 h8 h9 ih
    simpa [List.append_assoc] using this
  | slo n ver pre sp xs h1 h2 h3 h4 h5 _ ih => exact .slo n ver pre sp xs h1 h2 h3 h4 h5 ih

theorem Own.split : ∀ {as1 : List AV} {as2 ts1 ts2 : List AV} {ns : List Nm}, Own rows c (as1 ++ as2) (ts1 ++ ts2) ns → ts1.length = as1.length → ∃ ns1 ns2, ns = ns1 ++ ns2 ∧ Own rows c as1 ts1 ns1 ∧ Own rows c as2 ts2 ns2
  | [], as2, ts1, ts2, ns, h, hl => by
    obtain rfl : ts1 = [] := List.eq_nil_of_length_eq_zero (by simpa using hl)
    exact ⟨[], ns, rfl, .nil, h⟩
  | a :: as1, as2, [], ts2, ns, h, hl => by simp at hl
  | a :: as1, as2, t :: ts1, ts2, ns, h, hl => by
    simp only [List.length_cons, Nat.add_right_cancel_iff] at hl
    cases h with
    | int q n h => obtain ⟨n1, n2, e, h1, h2⟩ := Own.split h hl; exact ⟨n1, n2, e, .int q n h1, h2⟩
    | bool b h => obtain ⟨n1, n2, e, h1, h2⟩ := Own.split h hl; exact ⟨n1, n2, e, .bool b h1, h2⟩
    | str s h => obtain ⟨n1, n2, e, h1, h2⟩ := Own.split h hl; exact ⟨n1, n2, e, .str s h1, h2⟩
    | nilsl h => obtain ⟨n1, n2, e, h1, h2⟩ := Own.split h hl; exact ⟨n1, n2, e, .nilsl h1, h2⟩
    | @sl _ _ ns1 ns2 n ver len s r ts' q1 q2 q3 q4 q5 q6 q7 q8 q9 h =>
      obtain ⟨n1, n2, e, h1, h2⟩ := Own.split h hl
      subst e
      exact ⟨n :: (ns1 ++ n1), n2, by simp [List.append_assoc], .sl n ver len s r ts' q1 q2 q3 q4 q5 q6 q7 q8 q9 h1, h2⟩
    | slo n ver pre sp xs q1 q2 q3 q4 q5 h =>
      obtain ⟨n1, n2, e, h1, h2⟩ := Own.split h hl
      subst e
      exact ⟨n :: n1, n2, rfl, .slo n ver pre sp xs q1 q2 q3 q4 q5 h1, h2⟩

theorem Own.congr {as1 ts : List AV} {ns : List Nm} (h : Own rows c as1 ts ns) (hr : ∀ n ∈ ns, rows' n = rows n) : Own rows' c as1 ts ns := by
  induction h with
  | nil => exact .nil
  | int q n _ ih => exact .int q n (ih hr)
  | bool b _ ih => exact .bool b (ih hr)
  | str s _ ih => exact .str s (ih hr)
  | nilsl _ ih => exact .nilsl (ih hr)
  | sl n ver len s r ts' h1 h2 h3 h4 h5 h6 h7 h8 _ _ ih1 ih2 =>
    exact .sl n ver len s r ts' (by rw [hr n (by simp)]; exact h1) h2 h3 h4 h5 h6 h7 h8 (ih1 fun m hm => hr m (by simp [hm])) (ih2 fun m hm => hr m (by simp [hm]))
  | slo n ver pre sp xs h1 h2 h3 h4 h5 _ ih => exact .slo n ver pre sp xs (by rw [hr n (by simp)]; exact h1) h2 h3 h4 h5 (ih fun m hm => hr m (by simp [hm]))

theorem flatten_at {α : Type} : ∀ (l : List (List α)) (s i j : Nat) (e : List α) (x : α), (∀ e ∈ l, e.length = s) → l[i]? = some e → e[j]? = some x → l.flatten[i * s + j]? = some x
  | [], s, i, j, e, x, _, hi, _ => by simp at hi
  | y :: l, s, 0, j, e, x, h, hi, hj => by
    simp at hi; subst hi
    rw [List.flatten_cons, Nat.zero_mul, Nat.zero_add, List.getElem?_append_left (lt_get hj)]
    exact hj
  | y :: l, s, i + 1, j, e, x, h, hi, hj => by
    have hy := h y (by simp)
    rw [List.flatten_cons, List.getElem?_append_right (by rw [hy, Nat.add_mul]; omega)]
    have := flatten_at l s i j e x (fun e he => h e (by simp [he])) (by simpa using hi) hj
    rw [hy, show (i + 1) * s + j - s = i * s + j by rw [Nat.add_mul]; omega]
    exact this

theorem Own.dr {as1 ts : List AV} {ns : List Nm} (h : Own rows c as1 ts ns) : ∀ (i : Nat) (a t : AV), as1[i]? = some a → ts[i]? = some t → DR c rows a t := by
  induction h with
  | nil => intro i a t h; simp at h
  | int q n _ ih =>
    intro i a t ha ht
    cases i with
    | zero => simp at ha ht; subst ha ht; exact .int q n
    | succ i => exact ih i a t (by simpa using ha) (by simpa using ht)
  | bool b _ ih =>
    intro i a t ha ht
    cases i with
    | zero => simp at ha ht; subst ha ht; exact .bool b
    | succ i => exact ih i a t (by simpa using ha) (by simpa using ht)
  | str s _ ih =>
    intro i a t ha ht
    cases i with
    | zero => simp at ha ht; subst ha ht; exact .str s
    | succ i => exact ih i a t (by simpa using ha) (by simpa using ht)
  | nilsl _ ih =>
    intro i a t ha ht
    cases i with
    | zero => simp at ha ht; subst ha ht; exact .nilsl
    | succ i => exact ih i a t (by simpa using ha) (by simpa using ht)
  | sl n ver len s r ts' h1 h2 h3 h4 h5 h6 h7 h8 _ _ ih1 ih2 =>
    intro i a t ha ht
    cases i with
    | succ i => exact ih2 i a t (by simpa using ha) (by simpa using ht)
    | zero =>
      simp at ha ht; subst ha ht
      refine .sl n ver 0 len r ts' h1 h2 (by omega) h7 (fun i e t he ht => ?_) (fun i e t j x y he ht hx hy => ?_)
      · rw [h8 t (List.mem_of_getElem? ht), h6 e (List.mem_of_getElem? he)]
      · have hi : i < len := by rw [← h7]; exact lt_get ht
        refine ih1 (i * s + j) x y ?_ ?_
        · refine flatten_at _ s i j e x (fun e he => h6 e (List.mem_of_mem_take he)) ?_ hx
          rw [List.getElem?_take, if_pos hi]
          simpa using he
        · exact flatten_at _ s i j t y h8 ht hy
  | slo n ver pre sp xs h1 h2 h3 h4 h5 _ ih =>
    intro i a t ha ht
    cases i with
    | succ i => exact ih i a t (by simpa using ha) (by simpa using ht)
    | zero =>
      simp at ha ht; subst ha ht
      have hel : ∀ (i : Nat) (e t : List AV), (pre ++ ((xs.map fun x => [AV.int .i64 x]) ++ sp))[pre.length + i]? = some e → (xs.map fun x => [AV.int .i64 x])[i]? = some t → e = t := fun i e t he ht => by
        rw [List.getElem?_append_right (by omega), Nat.add_sub_cancel_left, List.getElem?_append_left (lt_get ht), ht] at he
        exact (Option.some.inj he).symm
      refine .sl n ver pre.length xs.length _ _ h1 rfl (by simp) (by simp) (fun i e t he ht => by rw [hel i e t he ht]) (fun i e t j x y he ht hx hy => ?_)
      rw [hel i e t he ht] at hx
      rw [hx] at hy; cases hy
      simp at ht; obtain ⟨a, _, rfl⟩ := ht
      match j, hx with
      | 0, hx => simp at hx; subst hx; exact .int .i64 a

theorem Own.cl {as1 ts : List AV} {ns : List Nm} (h : Own rows c as1 ts ns) : ∀ (i : Nat) (a : AV), as1[i]? = some a → Cl a := by
  induction h with
  | nil => intro i a h; simp at h
  | int q n _ ih =>
    intro i a ha
    cases i with
    | zero => simp at ha; subst ha; exact .int q n
    | succ i => exact ih i a (by simpa using ha)
  | bool b _ ih =>
    intro i a ha
    cases i with
    | zero => simp at ha; subst ha; exact .bool b
    | succ i => exact ih i a (by simpa using ha)
  | str s _ ih =>
    intro i a ha
    cases i with
    | zero => simp at ha; subst ha; exact .str s
    | succ i => exact ih i a (by simpa using ha)
  | nilsl _ ih =>
    intro i a ha
    cases i with
    | zero => simp at ha; subst ha; exact .nilsl
    | succ i => exact ih i a (by simpa using ha)
  | sl n ver len s r ts' h1 h2 h3 h4 h5 h6 h7 h8 _ _ ih1 ih2 =>
    intro i a ha
    cases i with
    | zero => simp at ha; subst ha; exact .sl n ver 0 len
    | succ i => exact ih2 i a (by simpa using ha)
  | slo n ver pre sp xs h1 h2 h3 h4 h5 _ ih =>
    intro i a ha
    cases i with
    | zero => simp at ha; subst ha; exact .sl n ver _ _
    | succ i => exact ih i a (by simpa using ha)

theorem Own.row {as1 ts : List AV} {ns : List Nm} (h : Own rows c as1 ts ns) : ∀ n ∈ ns, ∃ r, rows n = some r ∧ ClRow r := by
  induction h with
  | nil => intro n hn; simp at hn
  | int q n _ ih => exact ih
  | bool b _ ih => exact ih
  | str s _ ih => exact ih
  | nilsl _ ih => exact ih
  | sl n ver len s r ts' h1 h2 h3 h4 h5 h6 h7 h8 _ _ ih1 ih2 =>
    intro m hm
    simp only [List.mem_cons, List.mem_append] at hm
    rcases hm with rfl | hm | hm
    · exact ⟨r, h1, h4⟩
    · exact ih1 m hm
    · exact ih2 m hm
  | slo n ver pre sp xs h1 h2 h3 h4 h5 _ ih =>
    intro m hm
    simp only [List.mem_cons] at hm
    rcases hm with rfl | hm
    · refine ⟨_, h1, fun i e j x he hx => ?_⟩
      simp only at he
      by_cases hi : i < pre.length
      · rw [List.getElem?_append_left hi] at he
        exact h2 i e j x he hx
      · rw [List.getElem?_append_right (by omega)] at he
        by_cases hi2 : i - pre.length < xs.length
        · rw [List.getElem?_append_left (by simpa using hi2)] at he
          simp at he; obtain ⟨a, _, rfl⟩ := he
          match j, hx with
          | 0, hx => simp at hx; subst hx; exact .int .i64 a
        · rw [List.getElem?_append_right (by simpa using hi2)] at he
          exact h3 _ e j x he hx
    · exact ih m hm

/-- Values. -/
inductive OwnV (rows : Nm → Option Row) (c : Bool) : AV → AV → List Nm → Prop
  | one {a t : AV} {ns : List Nm} : Own rows c [a] [t] ns → OwnV rows c a t ns
  | agg {as1 ts : List AV} {ns : List Nm} : Own rows c as1 ts ns → OwnV rows c (.agg as1) (.agg ts) ns
  | tup2 {a t a' t' : AV} {ns ns' : List Nm} : OwnV rows c a t ns → OwnV rows c a' t' ns' → OwnV rows c (.tup [a, a']) (.tup [t, t']) (ns ++ ns')

theorem OwnV.dr {v t : AV} {ns : List Nm} (h : OwnV rows c v t ns) : DR c rows v t := by
  induction h with
  | one h => exact h.dr 0 _ _ rfl rfl
  | agg h => exact .agg _ _ h.length h.dr
  | @tup2 a t a' t' _ _ _ _ ih1 ih2 =>
    refine .tup _ _ rfl fun j x y hx hy => ?_
    match j, hx, hy with
    | 0, hx, hy => simp at hx hy; subst hx hy; exact ih1
    | 1, hx, hy => simp at hx hy; subst hx hy; exact ih2

theorem OwnV.cl {v t : AV} {ns : List Nm} (h : OwnV rows c v t ns) : Cl v := by
  induction h with
  | one h => exact h.cl 0 _ rfl
  | agg h => exact .agg _ h.cl
  | @tup2 a t a' t' _ _ _ _ ih1 ih2 =>
    refine .tup _ fun j x hx => ?_
    match j, hx with
    | 0, hx => simp at hx; subst hx; exact ih1
    | 1, hx => simp at hx; subst hx; exact ih2

theorem OwnV.congr {v t : AV} {ns : List Nm} (h : OwnV rows c v t ns) (hr : ∀ n ∈ ns, rows' n = rows n) : OwnV rows' c v t ns := by
  induction h with
  | one h => exact .one (h.congr hr)
  | agg h => exact .agg (h.congr hr)
  | tup2 _ _ ih1 ih2 => exact .tup2 (ih1 fun n hn => hr n (by simp [hn])) (ih2 fun n hn => hr n (by simp [hn]))

theorem OwnV.row {v t : AV} {ns : List Nm} (h : OwnV rows c v t ns) : ∀ n ∈ ns, ∃ r, rows n = some r ∧ ClRow r := by
  induction h with
  | one h => exact h.row
  | agg h => exact h.row
  | tup2 _ _ ih1 ih2 =>
    intro n hn
    rcases List.mem_append.1 hn with h | h
    · exact ih1 n h
    · exact ih2 n h
end

section
variable {P : Program} {M : FuncId → Mode}

/-- A function of its arguments' values alone: its result as a tree. -/
def Pure (P : Program) (f : FuncId) (args : List AV) (r : AV) : Prop := ∀ T, Sound P f args (.mt T) fun v h' => DR false h'.rows v r

/-- A function whose result is its own: new rows. -/
def Fresh (P : Program) (f : FuncId) (args : List AV) (r : Bool → AV) : Prop := ∀ T, Sound P f args (.mt T) fun v h' => T ≤ h'.tick ∧ ∃ ns, (∀ c, OwnV h'.rows c v (r c) ns) ∧ ns.Nodup ∧ ∀ n ∈ ns, T ≤ n.1 ∧ n.1 < h'.tick

theorem Sound.mono {f : FuncId} {args : List AV} {h : Hp} {K K' : AV → Hp → Prop} (hk : ∀ v h', K v h' → K' v h') (hs : Sound P f args h K) : Sound P f args h K' :=
  ⟨hs.1, fun mu pr w vs R hv => (hs.2 mu pr w vs R hv).mono fun e w' ⟨z, v, h', mu', pr', e1, k, r⟩ => ⟨z, v, h', mu', pr', e1, hk _ _ k, r⟩⟩

theorem Fresh.pure {f : FuncId} {args : List AV} {r : Bool → AV} (h : Fresh P f args r) : Pure P f args (r false) := fun T => (h T).mono fun v h' ⟨_, ns, k, _⟩ => (k false).dr

theorem DRs.nil {c : Bool} {rows : Nm → Option Row} : DRs c rows [] [] := ⟨rfl, fun i a t h => by simp at h⟩
theorem DRs.cons {c : Bool} {rows : Nm → Option Row} {a t : AV} {as1 ts : List AV} (h : DR c rows a t) (hs : DRs c rows as1 ts) : DRs c rows (a :: as1) (t :: ts) :=
  ⟨by simp [hs.1], fun i x y hx hy => by
    cases i with
    | zero => simp at hx hy; subst hx hy; exact h
    | succ i => exact hs.2 i x y (by simpa using hx) (by simpa using hy)⟩

theorem treeW_pure {g : FuncId} {rows : Nm → Option Row} {args targs : List AV} {r : AV} {t : Nat} {K : AV → Prop} (hp : Pure P g targs r) (ha : DRs true rows args targs) (hk : K r) : treeW (Sound P) g rows args t K := ⟨targs, r, ha, hp t, hk⟩

theorem freshW_of {g : FuncId} {args targs : List AV} {r : Bool → AV} {h : Hp} {K : AV → Hp → Prop} (hp : Fresh P g targs r) (ha : DRs true h.rows args targs)
    (hk : ∀ v h' ns, (∀ c, OwnV h'.rows c v (r c) ns) → ns.Nodup → (∀ n ∈ ns, h.tick ≤ n.1 ∧ n.1 < h'.tick) → (∀ n, n.1 < h.tick → h'.rows n = h.rows n) → h.tick ≤ h'.tick → K v h') : freshW (Sound P) g args h K := by
  refine ⟨targs, ha, (hp h.tick).mono ?_⟩
  rintro v h' ⟨ht, ns, h1, h2, h3⟩
  refine ⟨fun n => if n ∈ ns then h'.rows n else none, fun n r hn => ?_, (h1 true).cl, hk v _ ns (fun c => (h1 c).congr fun n hn => ?_) h2 h3 (fun n hn => ?_) ht⟩
  · by_cases hm : n ∈ ns
    · obtain ⟨r', q1, q2⟩ := (h1 true).row n hm
      simp only [if_pos hm] at hn
      rw [q1] at hn
      cases hn
      exact ⟨q1, q2⟩
    · simp [if_neg hm] at hn
  · have := (h3 n hn).1
    simp only [Hp.join]
    rw [if_neg (by omega), if_pos hn]
  · simp only [Hp.join, if_pos hn]

/-- A loop, by a measure. -/
theorem wpC_inv {C : CS} (hC : CS.le C C) {D : Array Oper → (Nat → AV) → Hp → ((Nat → AV) → Hp → Prop) → Prop} (hD : Dle D D) {α : Type} (I : α → (Nat → AV) → Hp → Prop) (m : α → Nat) {body : Code} {K : Ex → (Nat → AV) → Hp → Prop}
    (step : ∀ a σ h, I a σ h → wpC P M C D body σ h (fun e σ' h' => match e with | .normal => ∃ a', m a' < m a ∧ I a' σ' h' | e => K e σ' h')) (a : α) {σ : Nat → AV} {h : Hp} (h0 : I a σ h) : wpC P M C D (.loop body) σ h K := by
  intro J hJ
  have key : ∀ (n : Nat) (a : α) (σ : Nat → AV) (h : Hp), m a < n → I a σ h → J σ h := by
    intro n
    induction n with
    | zero => intro a σ h hm; omega
    | succ n ih =>
      intro a σ h hm hi
      refine hJ σ h (wpC_mono hC hD _ _ _ _ _ (fun e σ' h' hr => ?_) (step a σ h hi))
      cases e
      · obtain ⟨a', h1, h2⟩ := hr
        exact ih a' σ' h' (by omega) h2
      · exact hr
      · exact hr
  exact key _ a σ h (Nat.lt_succ_self _) h0

theorem Sound.le : CS.le (Sound P) (Sound P) := fun f args h K K' hk hs => Sound.mono hk hs
theorem drawW_le : Dle (drawW2 P M (Sound P)) (drawW2 P M (Sound P)) := drawW2_le Sound.le
end

/-! ### Whole numbers -/
def ints (c : Bool) (xs : List Int) : AV := .tr c (xs.map fun n => [.int .i64 n])
def intss (c : Bool) (xs : List (List Int)) : AV := .tr c (xs.map fun x => [ints c x])

theorem own_flat {rows : Nm → Option Row} {c : Bool} : ∀ xs : List Int, Own rows c (xs.map fun n => [AV.int .i64 n]).flatten (xs.map fun n => [AV.int .i64 n]).flatten []
  | [] => .nil
  | x :: xs => .int .i64 x (own_flat xs)

theorem clRow_ints {ver : Nat} {l : List (List AV)} (h : ∀ e ∈ l, ∃ n : Int, e = [.int .i64 n]) : ClRow ⟨ver, 1, l⟩ := fun i e j x he hx => by
  obtain ⟨n, rfl⟩ := h e (List.mem_of_getElem? he)
  match j, hx with
  | 0, hx => simp at hx; subst hx; exact .int .i64 n

theorem own_ints {rows : Nm → Option Row} {c : Bool} {n : Nm} {ver len : Nat} {xs ys : List Int} (h : rows n = some ⟨ver, 1, ys.map fun n => [.int .i64 n]⟩) (hl : ys.take len = xs) (hx : xs.length = len) : Own rows c [.sl n ver 0 len] [ints c xs] [n] := by
  have h1 : ((ys.map fun n => [AV.int .i64 n]).take len) = xs.map fun n => [AV.int .i64 n] := by rw [← List.map_take, hl]
  have := Own.sl (as1 := []) (ts := []) (ns1 := []) (ns2 := []) (c := c) n ver len 1 _ (xs.map fun n => [AV.int .i64 n]) h rfl rfl (clRow_ints fun e he => by simp at he; obtain ⟨a, _, rfl⟩ := he; exact ⟨a, rfl⟩)
    (by simp; have := congrArg List.length hl; simp at this; omega) (fun e he => by simp at he; obtain ⟨a, _, rfl⟩ := he; rfl) (by simpa using hx) (fun e he => by simp at he; obtain ⟨a, _, rfl⟩ := he; rfl)
    (by rw [h1]; exact own_flat xs) .nil
  simpa [ints] using this

theorem dr_ints {c b : Bool} {rows : Nm → Option Row} (hb : b = true → c = true) (xs : List Int) : DR c rows (ints b xs) (ints c xs) := by
  refine .tr b _ _ hb (by simp) (fun i e t he ht => ?_) (fun i e t j x y he ht hx hy => ?_)
  · simp at he ht; obtain ⟨a, h1, rfl⟩ := he; obtain ⟨a', h2, rfl⟩ := ht; rfl
  · simp at he ht; obtain ⟨a, h1, rfl⟩ := he; obtain ⟨a', h2, rfl⟩ := ht
    rw [h1] at h2; cases h2
    match j, hx, hy with
    | 0, hx, hy => simp at hx hy; subst hx hy; exact .int .i64 a

theorem dr_intss {c b : Bool} {rows : Nm → Option Row} (hb : b = true → c = true) (xs : List (List Int)) : DR c rows (intss b xs) (intss c xs) := by
  refine .tr b _ _ hb (by simp) (fun i e t he ht => ?_) (fun i e t j x y he ht hx hy => ?_)
  · simp at he ht; obtain ⟨a, h1, rfl⟩ := he; obtain ⟨a', h2, rfl⟩ := ht; rfl
  · simp at he ht; obtain ⟨a, h1, rfl⟩ := he; obtain ⟨a', h2, rfl⟩ := ht
    rw [h1] at h2; cases h2
    match j, hx, hy with
    | 0, hx, hy => simp at hx hy; subst hx hy; exact dr_ints hb a
end Go.Proofs.Ytfgaoojogididaa.AM

/-
  The A-machine, part 21: going through code, step by step.
-/
set_option linter.unusedVariables false
set_option linter.unusedSimpArgs false
namespace Go.Proofs.Ytfgaoojogididaa.AM
open Go.RowKit

section
variable {P : Program} {M : FuncId → Mode} {C : CS} {D : Array Oper → (Nat → AV) → Hp → ((Nat → AV) → Hp → Prop) → Prop} {σ : Nat → AV} {h h' : Hp} {K : Ex → (Nat → AV) → Hp → Prop} {a b : Code}

/-- What comes behind. -/
def KSeq (P : Program) (M : FuncId → Mode) (C : CS) (D : Array Oper → (Nat → AV) → Hp → ((Nat → AV) → Hp → Prop) → Prop) (b : Code) (K : Ex → (Nat → AV) → Hp → Prop) : Ex → (Nat → AV) → Hp → Prop := fun e σ' h' => match e with | .normal => wpC P M C D b σ' h' K | e => K e σ' h'
def KBlk (id : Nat) (K : Ex → (Nat → AV) → Hp → Prop) : Ex → (Nat → AV) → Hp → Prop := fun e σ' h' => match e with | .exit j => if j = id then K .normal σ' h' else K (.exit j) σ' h' | e => K e σ' h'
def KFn (P : Program) (fn : Func) (K : AV → Hp → Prop) : Ex → (Nat → AV) → Hp → Prop := fun e σ h' => match e with | .exit _ => False | _ => resW P fn h' σ K
def KLp {α : Type} (I : α → (Nat → AV) → Hp → Prop) (m : α → Nat) (a : α) (K : Ex → (Nat → AV) → Hp → Prop) : Ex → (Nat → AV) → Hp → Prop := fun e σ' h' => match e with | .normal => ∃ a', m a' < m a ∧ I a' σ' h' | e => K e σ' h'
theorem k_seq_n (w : wpC P M C D b σ h K) : KSeq P M C D b K .normal σ h := w
theorem k_seq_r (w : K .ret σ h) : KSeq P M C D b K .ret σ h := w
theorem k_seq_e {id : Nat} (w : K (.exit id) σ h) : KSeq P M C D b K (.exit id) σ h := w
theorem k_blk_n {id : Nat} (w : K .normal σ h) : KBlk id K .normal σ h := w
theorem k_blk_r {id : Nat} (w : K .ret σ h) : KBlk id K .ret σ h := w
theorem k_blk_s {id : Nat} (w : K .normal σ h) : KBlk id K (.exit id) σ h := by
  show (if id = id then K .normal σ h else _)
  rw [if_pos rfl]
  exact w
theorem k_blk_o {id j : Nat} (hne : (j == id) = false) (w : K (.exit j) σ h) : KBlk id K (.exit j) σ h := by
  show (if j = id then K .normal σ h else K (.exit j) σ h)
  rw [if_neg (by simpa using hne)]
  exact w
theorem k_fn_r {fn : Func} {K : AV → Hp → Prop} (w : resW P fn h σ K) : KFn P fn K .ret σ h := w
theorem k_fn_n {fn : Func} {K : AV → Hp → Prop} (w : resW P fn h σ K) : KFn P fn K .normal σ h := w
theorem k_lp_r {α : Type} {I : α → (Nat → AV) → Hp → Prop} {m : α → Nat} {a : α} (w : K .ret σ h) : KLp I m a K .ret σ h := w
theorem k_lp_e {α : Type} {I : α → (Nat → AV) → Hp → Prop} {m : α → Nat} {a : α} {id : Nat} (w : K (.exit id) σ h) : KLp I m a K (.exit id) σ h := w
theorem k_lp_n {α : Type} {I : α → (Nat → AV) → Hp → Prop} {m : α → Nat} {a : α} (a' : α) (w1 : m a' < m a) (w2 : I a' σ h) : KLp I m a K .normal σ h := ⟨a', w1, w2⟩

theorem st_seq (w : wpC P M C D a σ h (KSeq P M C D b K)) : wpC P M C D (.seq a b) σ h K := w
theorem st_reg {id : Nat} {ops : List Oper} (w : wpOps P M C ops.toArray h.tick ops 0 σ h.next (fun σ' h' => K .normal σ' h')) : wpC P M C D (.region id ops.toArray false) σ h K := w
theorem st_draw {id : Nat} {ops : List Oper} (f : Nat) (W : Nm → Bool) (hd : drawOk ops.toArray f = true)
    (w : frontW P M C ops.toArray h.tick W h.rows (ops.take f) 0 σ h.next (fun σ' h' => wpOps P M C ops.toArray h.tick (ops.drop f) f σ' h' (fun σ' h' => K .normal σ' h'))) : wpC P M C (drawW2 P M C) (.region id ops.toArray true) σ h K := .inl ⟨f, W, hd, w⟩
theorem st_any {id : Nat} {ops : List Oper} (w : anyW P M C ops.toArray h.tick ops.length [] σ h.next (fun σ' h' => K .normal σ' h')) : wpC P M C (drawW2 P M C) (.region id ops.toArray true) σ h K := .inr w
theorem any_id {ops : Array Oper} {T n : Nat} {done : List Nat} {N : (Nat → AV) → Hp → Prop} (w : anyW P M C ops T n done σ h N) : anyW P M C ops T n done σ h N := w
theorem any_end {ops : Array Oper} {T : Nat} {done : List Nat} {N : (Nat → AV) → Hp → Prop} (hl : (readyL ops done).isEmpty = true) (w : N σ h) : anyW P M C ops T 0 done σ h N := ⟨List.isEmpty_iff.1 hl, w⟩
theorem any_step {ops : Array Oper} {T n : Nat} {done : List Nat} {N : (Nat → AV) → Hp → Prop} (hl : (readyL ops done).isEmpty = false) (w : allW (readyL ops done) fun i => ∃ o, ops[i]? = some o ∧ wpOps P M C ops T [o] i σ h (fun σ' h' => anyW P M C ops T n (i :: done) σ' h' N)) : anyW P M C ops T (n + 1) done σ h N :=
  ⟨fun e => (by rw [e] at hl; cases hl), w⟩
theorem all_id {l : List Nat} {k : Nat → Prop} (w : allW l k) : allW l k := w
theorem any_op {ops : Array Oper} {i : Nat} {o : Oper} {k : Oper → Prop} (ho : ops[i]? = some o) (w : k o) : ∃ o, ops[i]? = some o ∧ k o := ⟨o, ho, w⟩
theorem st_skip (w : K .normal σ h) : wpC P M C D .skip σ h K := w
theorem st_ret (w : K .ret σ h) : wpC P M C D .ret σ h K := w
theorem st_exit {id : Nat} (w : K (.exit id) σ h) : wpC P M C D (.exit id) σ h K := w
theorem st_block {id : Nat} (w : wpC P M C D a σ h (KBlk id K)) : wpC P M C D (.block id a) σ h K := w

/-- What comes of an evaluation. -/
def Ev {α : Type} (x : Option α) (k : α → Prop) : Prop := match x with | some v => k v | none => False
def Ev2 (x : Option (AV × Hp)) (k : AV → Hp → Prop) : Prop := match x with | some r => k r.1 r.2 | none => False
theorem ev2_some {v : AV} {h : Hp} {k : AV → Hp → Prop} (w : k v h) : Ev2 (some (v, h)) k := w
def EvN (x : Option (AV × Row)) (k : AV → Row → Prop) : Prop := match x with | some r => k r.1 r.2 | none => False
theorem evn_some {v : AV} {r : Row} {k : AV → Row → Prop} (w : k v r) : EvN (some (v, r)) k := w
def At {α : Type} (x : α) (k : α → Prop) : Prop := k x
/-- A branch. -/
def Br (x : AV) (k1 k2 : Prop) : Prop := match x with | .bool b => (b = true → k1) ∧ (b = false → k2) | _ => False
/-- What an operation yielded. -/
def gdv (all : Array Oper) (σ : Nat → AV) (j : Nat) : AV := match all[j]? with | some o' => (match o'.dst with | some d => σ d | none => .undef) | none => .undef
/-- A guard. -/
def Gd (want : Bool) (x : AV) (k1 k2 : Prop) : Prop := match x with | .bool b => (b = want → k1) ∧ (b ≠ want → k2) | .tup [] => k2 | _ => False
theorem br_t {k1 k2 : Prop} (w : k1) : Br (.bool true) k1 k2 := ⟨fun _ => w, fun e => by cases e⟩
theorem br_f {k1 k2 : Prop} (w : k2) : Br (.bool false) k1 k2 := ⟨fun e => (by cases e), fun _ => w⟩
theorem br_b {b : Bool} {k1 k2 : Prop} (w1 : b = true → k1) (w2 : b = false → k2) : Br (.bool b) k1 k2 := ⟨w1, w2⟩
theorem gd_tt {k1 k2 : Prop} (w : k1) : Gd true (.bool true) k1 k2 := ⟨fun _ => w, fun e => absurd rfl e⟩
theorem gd_ff {k1 k2 : Prop} (w : k1) : Gd false (.bool false) k1 k2 := ⟨fun _ => w, fun e => absurd rfl e⟩
theorem gd_tf {k1 k2 : Prop} (w : k2) : Gd true (.bool false) k1 k2 := ⟨fun e => (by cases e), fun _ => w⟩
theorem gd_ft {k1 k2 : Prop} (w : k2) : Gd false (.bool true) k1 k2 := ⟨fun e => (by cases e), fun _ => w⟩
theorem gd_no {want : Bool} {k1 k2 : Prop} (w : k2) : Gd want (.tup []) k1 k2 := w
theorem ev_some {α : Type} {v : α} {k : α → Prop} (h : k v) : Ev (some v) k := h
theorem at_mk {α : Type} {v : α} {k : α → Prop} (h : k v) : At v k := h

variable {all : Array Oper} {T i : Nat} {o : Oper} {rest : List Oper} {N : (Nat → AV) → Hp → Prop} {v : AV} {dst : Option Tmp} {op : Op} {ty : TypeId} {pos : String} {aft : Array Edge}
theorem st_nil (w : N σ h) : wpOps P M C all T [] i σ h N := w
theorem wanted_none : wantedA all σ ⟨dst, op, ty, pos, aft, none⟩ = some true := rfl
theorem st_move {x : Operand} (w : At (opd σ x) fun v => wpOps P M C all T rest (i + 1) (putA dst v σ) h N) : wpOps P M C all T (⟨dst, .move x, ty, pos, aft, none⟩ :: rest) i σ h N := w
theorem st_asg {x : Operand} (w : At (opd σ x) fun v => wpOps P M C all T rest (i + 1) (putA dst v σ) h N) : wpOps P M C all T (⟨dst, .assign x, ty, pos, aft, none⟩ :: rest) i σ h N := w
theorem st_q (w : Ev (evQ P (opd σ) h.rows op) fun v => wpOps P M C all T rest (i + 1) (putA dst v σ) h N) : wpOps P M C all T (⟨dst, op, ty, pos, aft, none⟩ :: rest) i σ h N := by
  unfold wpOps
  rw [wanted_none]
  cases he : evQ P (opd σ) h.rows op with
  | none => rw [he] at w; exact w.elim
  | some v =>
    rw [he] at w
    simp only [stepW, he]
    exact w
/-- Operations on memory. -/
def isM : Op → Bool
  | .alloc _ | .box .. | .buildSlice .. | .makeSlice .. | .store .. => true
  | .call ⟨.builtin .append, _, _⟩ | .call ⟨.builtin .copy, _, _⟩ | .call ⟨.builtin .clear, _, _⟩ => true
  | _ => false
theorem evQ_isM {ρ : Operand → AV} {rows : Nm → Option Row} (hm : isM op = true) : evQ P ρ rows op = none := by
  cases op <;> try (first | rfl | (simp [isM] at hm; done))
  rename_i c
  obtain ⟨f, args, ts⟩ := c
  cases f <;> try (first | rfl | (simp [isM] at hm; done))
  rename_i b
  cases b <;> first | rfl | (simp [isM] at hm; done)
theorem st_m (hm : isM op = true) (w : Ev2 (memA P (T, i, 0) (opd σ) h op) fun v h' => wpOps P M C all T rest (i + 1) (putA dst v σ) h' N) : wpOps P M C all T (⟨dst, op, ty, pos, aft, none⟩ :: rest) i σ h N := by
  unfold wpOps
  rw [wanted_none]
  simp only [stepW, evQ_isM hm]
  cases he : memA P (T, i, 0) (opd σ) h op with
  | none => rw [he] at w; exact w.elim
  | some r =>
    rw [he] at w
    exact w
theorem st_c {args : Array Operand} {ts : Array TypeId} {g : FuncId} (w : At (args.toList.map (opd σ)) fun as1 => callW M C g as1 h (fun v h' => wpOps P M C all T rest (i + 1) (putA dst v σ) h' N)) :
    wpOps P M C all T (⟨dst, .call ⟨.value (.func g), args, ts⟩, ty, pos, aft, none⟩ :: rest) i σ h N := by
  unfold wpOps
  rw [wanted_none]
  have h1 : evQ P (opd σ) h.rows (.call ⟨.value (.func g), args, ts⟩) = none := rfl
  have h2 : memA P (T, i, 0) (opd σ) h (.call ⟨.value (.func g), args, ts⟩) = none := rfl
  simp only [stepW, h1, h2, opd, List.append_nil]
  exact w
/-- A guarded operation. -/
theorem st_no (hg : wantedA all σ o = some false) (w : wpOps P M C all T rest (i + 1) (putA o.dst (.tup []) σ) h N) : wpOps P M C all T (o :: rest) i σ h N := by
  unfold wpOps
  rw [hg]
  exact w
theorem st_yes (hg : wantedA all σ o = some true) (w : wpOps P M C all T ({ o with guard := none } :: rest) i σ h N) : wpOps P M C all T (o :: rest) i σ h N := by
  unfold wpOps at *
  rw [hg]
  exact w
theorem st_g {j : Nat} {want : Bool} (w : At (gdv all σ j) fun x => Gd want x (wpOps P M C all T (⟨dst, op, ty, pos, aft, none⟩ :: rest) i σ h N) (wpOps P M C all T rest (i + 1) (putA dst (.tup []) σ) h N)) : wpOps P M C all T (⟨dst, op, ty, pos, aft, some (j, want)⟩ :: rest) i σ h N := by
  have hdv : ∀ b, gdv all σ j = .bool b → wantedA all σ ⟨dst, op, ty, pos, aft, some (j, want)⟩ = some (b == want) := by
    intro b hb
    unfold gdv at hb
    unfold wantedA
    simp only
    split at hb
    · rename_i o' ho'
      rw [ho']
      simp only
      split at hb
      · rename_i d hd
        rw [hd]
        simp only [hb]
      · cases hb
    · cases hb
  have hdt : gdv all σ j = .tup [] → wantedA all σ ⟨dst, op, ty, pos, aft, some (j, want)⟩ = some false := by
    intro hb
    unfold gdv at hb
    unfold wantedA
    simp only
    split at hb
    · rename_i o' ho'
      rw [ho']
      simp only
      split at hb
      · rename_i d hd
        rw [hd]
        simp only [hb]
      · cases hb
    · cases hb
  have hw : ∀ b, wantedA all σ ⟨dst, op, ty, pos, aft, some (j, want)⟩ = some b → (b = true → wpOps P M C all T (⟨dst, op, ty, pos, aft, none⟩ :: rest) i σ h N) → (b = false → wpOps P M C all T rest (i + 1) (putA dst (.tup []) σ) h N) → wpOps P M C all T (⟨dst, op, ty, pos, aft, some (j, want)⟩ :: rest) i σ h N := by
    intro b hb k1 k2
    cases b with
    | true => exact st_yes hb (k1 rfl)
    | false => exact st_no hb (k2 rfl)
  unfold At at w
  cases hd : gdv all σ j with
  | bool b =>
    rw [hd] at w
    refine hw (b == want) (hdv _ hd) (fun e => w.1 (by simpa using e)) (fun e => w.2 (by simpa using e))
  | tup l =>
    rw [hd] at w
    cases l with
    | nil => exact hw false (hdt hd) (fun e => by cases e) (fun _ => w)
    | cons _ _ => exact w.elim
  | _ => rw [hd] at w; exact w.elim

theorem st_tree {g : FuncId} {args targs : List AV} {r : AV} {N : AV → Hp → Prop} (hm : M g = .tree) (hp : Pure P g targs r) (ha : DRs true h.rows args targs) (hk : N r h) : callW M (Sound P) g args h N := by
  unfold callW
  rw [hm]
  exact treeW_pure hp ha hk
theorem st_fresh {g : FuncId} {args targs : List AV} {r : Bool → AV} {N : AV → Hp → Prop} (hm : M g = .fresh) (hp : Fresh P g targs r) (ha : DRs true h.rows args targs)
    (hk : ∀ v h' ns, (∀ c, OwnV h'.rows c v (r c) ns) → ns.Nodup → (∀ n ∈ ns, h.tick ≤ n.1 ∧ n.1 < h'.tick) → (∀ n, n.1 < h.tick → h'.rows n = h.rows n) → h.tick ≤ h'.tick → N v h') : callW M (Sound P) g args h N := by
  unfold callW
  rw [hm]
  exact freshW_of hp ha hk
theorem st_heap {g : FuncId} {args : List AV} {N : AV → Hp → Prop} (hm : M g = .heap) {N' : AV → Hp → Prop} (hp : Sound P g args h N') (hk : ∀ v h', N' v h' → N v h') : callW M (Sound P) g args h N := by
  unfold callW
  rw [hm]
  exact hp.mono hk

theorem st_if {c : Operand} (w : At (opd σ c) fun x => Br x (wpC P M C D a σ h K) (wpC P M C D b σ h K)) : wpC P M C D (.cond c a b) σ h K := by
  unfold At at w
  simp only [wpC]
  cases hx : opd σ c with
  | bool t =>
    rw [hx] at w
    cases t
    · exact w.2 rfl
    · exact w.1 rfl
  | _ => rw [hx] at w; exact w.elim

/-! Regions that draw -/
variable {W : Nm → Bool} {rows0 : Nm → Option Row}
theorem fr_nil (w : N σ h) : frontW P M C all T W rows0 [] i σ h N := w
theorem fr_q (w : Ev (evQ P (opd σ) (maskR T W rows0) op) fun v => frontW P M C all T W rows0 rest (i + 1) (putA dst v σ) h N) : frontW P M C all T W rows0 (⟨dst, op, ty, pos, aft, none⟩ :: rest) i σ h N := by
  unfold frontW
  rw [wanted_none]
  cases he : evQ P (opd σ) (maskR T W rows0) op with
  | none => rw [he] at w; exact w.elim
  | some v =>
    rw [he] at w
    simp only
    exact w
theorem fr_n (hm : isNew op = true) (w : EvN (newA P (T, i, 0) (opd σ) op) fun v r => frontW P M C all T W rows0 rest (i + 1) (putA dst v σ) (h.put (T, i, 0) r) N) : frontW P M C all T W rows0 (⟨dst, op, ty, pos, aft, none⟩ :: rest) i σ h N := by
  unfold frontW
  rw [wanted_none]
  simp only [evQ_new hm]
  cases he : newA P (T, i, 0) (opd σ) op with
  | none => rw [he] at w; exact w.elim
  | some r =>
    rw [he] at w
    exact w
theorem fr_a {s x : Operand} {t : TypeId} (w : At (opd σ s) fun s' => At (opd σ x) fun x' => appNames (Region.before all) T i W s' x' ∧ Ev2 (appendA P t s' x' h (T, i, 0)) fun v h' => frontW P M C all T W rows0 rest (i + 1) (putA dst v σ) h' N) :
    frontW P M C all T W rows0 (⟨dst, .call ⟨.builtin .append, ⟨[s, x]⟩, ⟨[t, t]⟩⟩, ty, pos, aft, none⟩ :: rest) i σ h N := by
  unfold frontW
  rw [wanted_none]
  obtain ⟨w1, w2⟩ := w
  have h1 : evQ P (opd σ) (maskR T W rows0) (.call ⟨.builtin .append, ⟨[s, x]⟩, ⟨[t, t]⟩⟩) = none := rfl
  have h2 : newA P (T, i, 0) (opd σ) (.call ⟨.builtin .append, ⟨[s, x]⟩, ⟨[t, t]⟩⟩) = none := rfl
  simp only [h1, h2, if_true]
  cases he : appendA P t (opd σ s) (opd σ x) h (T, i, 0) with
  | none => rw [he] at w2; exact w2.elim
  | some r =>
    rw [he] at w2
    exact ⟨w1, w2⟩
theorem fr_c {args : Array Operand} {ts : Array TypeId} {g : FuncId} (w : At (args.toList.map (opd σ)) fun as1 => treeW C g (maskR T W rows0) as1 (T + 1) fun v => frontW P M C all T W rows0 rest (i + 1) (putA dst v σ) h N) :
    frontW P M C all T W rows0 (⟨dst, .call ⟨.value (.func g), args, ts⟩, ty, pos, aft, none⟩ :: rest) i σ h N := by
  unfold frontW
  rw [wanted_none]
  have h1 : evQ P (opd σ) (maskR T W rows0) (.call ⟨.value (.func g), args, ts⟩) = none := rfl
  have h2 : newA P (T, i, 0) (opd σ) (.call ⟨.value (.func g), args, ts⟩) = none := rfl
  simp only [h1, h2, opd, List.append_nil]
  exact w
theorem fr_no (hg : wantedA all σ o = some false) (w : frontW P M C all T W rows0 rest (i + 1) (putA o.dst (.tup []) σ) h N) : frontW P M C all T W rows0 (o :: rest) i σ h N := by
  unfold frontW
  rw [hg]
  exact w
theorem fr_yes (hg : wantedA all σ o = some true) (w : frontW P M C all T W rows0 ({ o with guard := none } :: rest) i σ h N) : frontW P M C all T W rows0 (o :: rest) i σ h N := by
  unfold frontW at *
  rw [hg]
  exact w
theorem fr_g {j : Nat} {want : Bool} (w : At (gdv all σ j) fun x => Gd want x (frontW P M C all T W rows0 (⟨dst, op, ty, pos, aft, none⟩ :: rest) i σ h N) (frontW P M C all T W rows0 rest (i + 1) (putA dst (.tup []) σ) h N)) : frontW P M C all T W rows0 (⟨dst, op, ty, pos, aft, some (j, want)⟩ :: rest) i σ h N := by
  have hdv : ∀ b, gdv all σ j = .bool b → wantedA all σ ⟨dst, op, ty, pos, aft, some (j, want)⟩ = some (b == want) := by
    intro b hb
    unfold gdv at hb
    unfold wantedA
    simp only
    split at hb
    · rename_i o' ho'
      rw [ho']
      simp only
      split at hb
      · rename_i d hd
        rw [hd]
        simp only [hb]
      · cases hb
    · cases hb
  have hdt : gdv all σ j = .tup [] → wantedA all σ ⟨dst, op, ty, pos, aft, some (j, want)⟩ = some false := by
    intro hb
    unfold gdv at hb
    unfold wantedA
    simp only
    split at hb
    · rename_i o' ho'
      rw [ho']
      simp only
      split at hb
      · rename_i d hd
        rw [hd]
        simp only [hb]
      · cases hb
    · cases hb
  have hw : ∀ b, wantedA all σ ⟨dst, op, ty, pos, aft, some (j, want)⟩ = some b → (b = true → frontW P M C all T W rows0 (⟨dst, op, ty, pos, aft, none⟩ :: rest) i σ h N) → (b = false → frontW P M C all T W rows0 rest (i + 1) (putA dst (.tup []) σ) h N) → frontW P M C all T W rows0 (⟨dst, op, ty, pos, aft, some (j, want)⟩ :: rest) i σ h N := by
    intro b hb k1 k2
    cases b with
    | true => exact fr_yes hb (k1 rfl)
    | false => exact fr_no hb (k2 rfl)
  unfold At at w
  cases hd : gdv all σ j with
  | bool b =>
    rw [hd] at w
    refine hw (b == want) (hdv _ hd) (fun e => w.1 (by simpa using e)) (fun e => w.2 (by simpa using e))
  | tup l =>
    rw [hd] at w
    cases l with
    | nil => exact hw false (hdt hd) (fun e => by cases e) (fun _ => w)
    | cons _ _ => exact w.elim
  | _ => rw [hd] at w; exact w.elim

theorem putA_get (d : Nat) (v : AV) (σ : Nat → AV) (t : Nat) : putA (some d) v σ t = if t = d then v else σ t := by
  by_cases h : t = d
  · rw [if_pos h]; exact if_pos h
  · rw [if_neg h]; exact if_neg h
theorem putA_none (v : AV) (σ : Nat → AV) : putA none v σ = σ := funext fun n => (by cases hr : σ n <;> exact hr)
theorem opd_tmp (σ : Nat → AV) (t : Nat) : opd σ (.tmp t) = σ t := rfl
end

def envOf (args : List AV) : Nat → AV := fun i => args.getD i (.tup [])
theorem envOf_0 (a : AV) (l : List AV) : envOf (a :: l) 0 = a := rfl
theorem envOf_1 (a b : AV) (l : List AV) : envOf (a :: b :: l) 1 = b := rfl
theorem envOf_2 (a b c : AV) (l : List AV) : envOf (a :: b :: c :: l) 2 = c := rfl
theorem envOf_3 (a b c d : AV) (l : List AV) : envOf (a :: b :: c :: d :: l) 3 = d := rfl
theorem envOf_4 (a b c d e : AV) (l : List AV) : envOf (a :: b :: c :: d :: e :: l) 4 = e := rfl
theorem envOf_5 (a b c d e f : AV) (l : List AV) : envOf (a :: b :: c :: d :: e :: f :: l) 5 = f := rfl
theorem envOf_6 (a b c d e f g : AV) (l : List AV) : envOf (a :: b :: c :: d :: e :: f :: g :: l) 6 = g := rfl

/-! (Not by 'rfl': simp is to leave proofs, else the kernel has to find them again.) -/
theorem hp_next_rows (h : Hp) : h.next.rows = h.rows := funext fun n => (by cases hr : h.rows n <;> exact hr)
theorem hp_next_tick (h : Hp) : h.next.tick = h.tick + 1 := Nat.le_antisymm (Nat.le_refl _) (Nat.le_refl _)
theorem hp_put_tick (h : Hp) (n : Nm) (r : Row) : (h.put n r).tick = h.tick := Nat.le_antisymm (Nat.le_refl _) (Nat.le_refl _)
theorem hp_mt_rows (t : Nat) (n : Nm) : (Hp.mt t).rows n = none := rfl
theorem hp_mt_tick (t : Nat) : (Hp.mt t).tick = t := Nat.le_antisymm (Nat.le_refl _) (Nat.le_refl _)

@[simp] theorem one_int (k : IntKind) (n : Int) : AV.one (.int k n) = true := rfl
@[simp] theorem stored_int (k : IntKind) (n : Int) : AV.stored (.int k n) = true := rfl
@[simp] theorem cells_int (k : IntKind) (n : Int) : AV.cells (.int k n) = [.int k n] := rfl
@[simp] theorem one_bool (b : Bool) : AV.one (.bool b) = true := rfl
@[simp] theorem stored_bool (b : Bool) : AV.stored (.bool b) = true := rfl
@[simp] theorem cells_bool (b : Bool) : AV.cells (.bool b) = [.bool b] := rfl
@[simp] theorem one_str (s : ByteArray) : AV.one (.str s) = true := rfl
@[simp] theorem stored_str (s : ByteArray) : AV.stored (.str s) = true := rfl
@[simp] theorem cells_str (s : ByteArray) : AV.cells (.str s) = [.str s] := rfl
@[simp] theorem one_nilsl  : AV.one (.nilsl) = true := rfl
@[simp] theorem stored_nilsl  : AV.stored (.nilsl) = true := rfl
@[simp] theorem cells_nilsl  : AV.cells (.nilsl) = [.nilsl] := rfl
@[simp] theorem one_tr (b : Bool) (l : List (List AV)) : AV.one (.tr b l) = true := rfl
@[simp] theorem stored_tr (b : Bool) (l : List (List AV)) : AV.stored (.tr b l) = true := rfl
@[simp] theorem cells_tr (b : Bool) (l : List (List AV)) : AV.cells (.tr b l) = [.tr b l] := rfl
@[simp] theorem one_sl (n : Nm) (v o l : Nat) : AV.one (.sl n v o l) = true := rfl
@[simp] theorem stored_sl (n : Nm) (v o l : Nat) : AV.stored (.sl n v o l) = true := rfl
@[simp] theorem cells_sl (n : Nm) (v o l : Nat) : AV.cells (.sl n v o l) = [.sl n v o l] := rfl
@[simp] theorem one_nilp  : AV.one (.nilp) = true := rfl
@[simp] theorem stored_nilp  : AV.stored (.nilp) = true := rfl
@[simp] theorem cells_nilp  : AV.cells (.nilp) = [.nilp] := rfl
@[simp] theorem one_ptr (n : Nm) (v i o : Nat) : AV.one (.ptr n v i o) = true := rfl
@[simp] theorem stored_ptr (n : Nm) (v i o : Nat) : AV.stored (.ptr n v i o) = true := rfl
@[simp] theorem cells_ptr (n : Nm) (v i o : Nat) : AV.cells (.ptr n v i o) = [.ptr n v i o] := rfl
@[simp] theorem one_tptr (b : Bool) (l : List AV) : AV.one (.tptr b l) = true := rfl
@[simp] theorem stored_tptr (b : Bool) (l : List AV) : AV.stored (.tptr b l) = true := rfl
@[simp] theorem cells_tptr (b : Bool) (l : List AV) : AV.cells (.tptr b l) = [.tptr b l] := rfl
@[simp] theorem one_nilif  : AV.one (.nilif) = true := rfl
@[simp] theorem stored_nilif  : AV.stored (.nilif) = true := rfl
@[simp] theorem cells_nilif  : AV.cells (.nilif) = [.nilif] := rfl
@[simp] theorem one_errv  : AV.one (.errv) = true := rfl
@[simp] theorem stored_errv  : AV.stored (.errv) = true := rfl
@[simp] theorem cells_errv  : AV.cells (.errv) = [.errv] := rfl
@[simp] theorem stored_agg (l : List AV) : AV.stored (.agg l) = ones l := rfl
@[simp] theorem cells_agg (l : List AV) : AV.cells (.agg l) = l := rfl
@[simp] theorem ones_nil : ones [] = true := rfl
@[simp] theorem ones_cons (a : AV) (l : List AV) : ones (a :: l) = (a.one && ones l) := rfl
@[simp] theorem one_ints' (c : Bool) (xs : List Int) : (ints c xs).one = true := rfl
@[simp] theorem one_intss' (c : Bool) (xs : List (List Int)) : (intss c xs).one = true := rfl

theorem int_beq (a b : Int) : (a == b) = decide (a = b) := rfl
theorem int_bne (a b : Int) : (a != b) = !decide (a = b) := rfl

/-- A loop. -/
theorem st_loop {P : Program} {M : FuncId → Mode} {α : Type} (I : α → (Nat → AV) → Hp → Prop) (m : α → Nat) (a : α) {body : Code} {K : Ex → (Nat → AV) → Hp → Prop} {σ : Nat → AV} {h : Hp} (init : I a σ h)
    (step : ∀ a σ h, I a σ h → wpC P M (Sound P) (drawW2 P M (Sound P)) body σ h (KLp I m a K)) : wpC P M (Sound P) (drawW2 P M (Sound P)) (.loop body) σ h K :=
  wpC_inv Sound.le drawW_le I m step a init

/-- Into a function. -/
theorem enter {P : Program} (hm : P.follows .mixedOrders = true) (M : FuncId → Mode) {f : FuncId} {args : List AV} {h : Hp} {K : AV → Hp → Prop} {fn : Func} {c : Code} (h1 : P.funcs[f]? = some fn) (h2 : fn.body = some c) (h3 : (codeOk fn.ntmps c && !(fn.name == "runtime.NumGoroutine")) = true)
    (h4 : decide (args.length ≤ fn.ntmps) = true)
    (hw : wpC P M (Sound P) (drawW2 P M (Sound P)) c (envOf args) h (KFn P fn K)) : Sound P f args h K :=
  wpF_ok (drawW2_ok hm) ⟨fn, c, h1, h2, h3, of_decide_eq_true h4, hw⟩

theorem st_res {P : Program} {fn : Func} {h : Hp} {σ : Nat → AV} {K : AV → Hp → Prop} (w : Ev (resA P h σ fn.results.toList) fun vs => K (resV vs) h) : resW P fn h σ K := by
  unfold resW
  cases hr : resA P h σ fn.results.toList with
  | none => rw [hr] at w; exact w.elim
  | some vs => rw [hr] at w; exact w
end Go.Proofs.Ytfgaoojogididaa.AM

/-
  The A-machine, part 22: lemmas for evaluation.
-/
set_option linter.unusedVariables false
set_option linter.unusedSimpArgs false
namespace Go.Proofs.Ytfgaoojogididaa.AM
open Go.RowKit

section
variable {P : Program} {t : TypeId}

theorem telem_und (h : (telem P t).isSome = true) : ∃ e, P.underlying t = some (.slice e) := by
  unfold telem at h
  split at h
  · exact ⟨_, by assumption⟩
  · cases h
theorem lenA_tr (b : Bool) (es : List (List AV)) (h : (telem P t).isSome = true) : lenA P t (.tr b es) = some (.int .i64 es.length) := by
  obtain ⟨e, he⟩ := telem_und h
  simp [lenA, he]
theorem lenA_sl (n : Nm) (v o l : Nat) (h : (telem P t).isSome = true) : lenA P t (.sl n v o l) = some (.int .i64 l) := by
  obtain ⟨e, he⟩ := telem_und h
  simp [lenA, he]
theorem lenA_nilsl (h : (telem P t).isSome = true) : lenA P t .nilsl = some (.int .i64 0) := by
  obtain ⟨e, he⟩ := telem_und h
  simp [lenA, he]
theorem lenA_ints (b : Bool) (xs : List Int) (h : (telem P t).isSome = true) : lenA P t (ints b xs) = some (.int .i64 xs.length) := by
  obtain ⟨e, he⟩ := telem_und h
  simp [lenA, he, ints]
theorem lenA_intss (b : Bool) (xs : List (List Int)) (h : (telem P t).isSome = true) : lenA P t (intss b xs) = some (.int .i64 xs.length) := by
  obtain ⟨e, he⟩ := telem_und h
  simp [lenA, he, intss]
theorem lenA_str (s : ByteArray) (h : P.underlying t = some .string) : lenA P t (.str s) = some (.int .i64 s.size) := by
  simp [lenA, h]

theorem srcElems_tr (rows : Nm → Option Row) (b : Bool) (es : List (List AV)) : srcElems rows (.tr b es) = some es := rfl
theorem srcElems_nilsl (rows : Nm → Option Row) : srcElems rows .nilsl = some [] := rfl
theorem srcElems_ints (rows : Nm → Option Row) (b : Bool) (xs : List Int) : srcElems rows (ints b xs) = some (xs.map fun n => [.int .i64 n]) := rfl
theorem srcElems_intss (rows : Nm → Option Row) (b : Bool) (xs : List (List Int)) : srcElems rows (intss b xs) = some (xs.map fun x => [ints b x]) := rfl

/-- Onto a new row of no elements. -/
theorem appendA_mt {e : TypeId} {s bb : Nat} {z : List AV} {m n : Nm} {v : Nat} {x : AV} {h : Hp} (es : List (List AV)) (he : telem P t = some e) (h1 : tsz P e = some s) (h2 : tby P e = some bb) (h3 : tzero P e = some z) (h4 : 0 < s ∧ bb ≤ 32768 ∧ z.length = s)
    (hr : h.rows m = some ⟨v, s, []⟩) (hx : srcElems h.rows x = some es) (hes : ∀ e ∈ es, e.length = s) (hl : es.length ≤ 4294967296) (hm : m.1 < h.tick) :
    appendA P t (.sl m v 0 0) x h n = some (.sl m (v + if es.length = 0 then 0 else 1) 0 es.length, h.put m ⟨v + if es.length = 0 then 0 else 1, s, es⟩) := by
  have hall : es.all (fun e => e.length == s) = true := by
    rw [List.all_eq_true]
    intro e he
    simpa using hes e he
  unfold appendA
  simp only [he, hx, h1, h2, h3]
  rw [if_pos ⟨h4.1, h4.2.1, h4.2.2, hall⟩]
  simp only [hr]
  rw [if_pos ⟨trivial, trivial, Nat.zero_le _, by simpa using hl, hm⟩]
  cases es with
  | nil =>
    simp only [if_true, List.length_nil, Nat.add_zero]
    congr 2
    obtain ⟨rows, tick⟩ := h
    simp only [Hp.put]
    congr 1
    funext k
    by_cases hk : k = m
    · rw [if_pos hk, hk]; exact hr
    · rw [if_neg hk]
  | cons e es => simp
end

/-- (Not by 'rfl': simp is to leave a proof.) -/
theorem hp_rows_put (h : Hp) (n m : Nm) (r : Row) : (h.put n r).rows m = if m = n then some r else h.rows m := by
  by_cases hm : m = n
  · rw [if_pos hm, Hp.put_rows, if_pos hm]
  · rw [if_neg hm, Hp.put_rows, if_neg hm]
theorem ltS {a b : Nat} (h : a < b) : a < b + 1 := Nat.lt_succ_of_lt h
theorem ltK {a b k : Nat} (h : a < b) : a < b + k := Nat.lt_of_lt_of_le h (Nat.le_add_right b k)
theorem ltB (a : Nat) : a < a + 1 := Nat.lt_succ_self a

/-- Onto a new row of no whole numbers. -/
theorem appendA_mt_ints {P : Program} {t : TypeId} {m n : Nm} {v : Nat} {h : Hp} (b : Bool) (xs : List Int) (h0 : ((telem P t).bind fun e => (tsz P e).bind fun s => (tby P e).bind fun bb => (tzero P e).bind fun z => some (decide (s = 1 ∧ bb ≤ 32768 ∧ z.length = 1))) = some true)
    (hr : h.rows m = some ⟨v, 1, []⟩) (hl : xs.length ≤ 4294967296) (hm : decide (m.1 < h.tick) = true) :
    appendA P t (.sl m v 0 0) (ints b xs) h n = some (.sl m (v + if xs.length = 0 then 0 else 1) 0 xs.length, h.put m ⟨v + if xs.length = 0 then 0 else 1, 1, xs.map fun n => [.int .i64 n]⟩) := by
  simp only [Option.bind_eq_some_iff] at h0
  obtain ⟨e, he, s, hs, bb, hb, z, hz, hd⟩ := h0
  simp only [Option.some.injEq, decide_eq_true_eq] at hd
  obtain ⟨rfl, hd2, hd3⟩ := hd
  have := appendA_mt (n := n) (xs.map fun n => [AV.int .i64 n]) he hs hb hz ⟨Nat.one_pos, hd2, hd3⟩ hr (srcElems_ints h.rows b xs) (fun e he => by simp at he; obtain ⟨a, _, rfl⟩ := he; rfl) (by simpa using hl) (of_decide_eq_true hm)
  simpa using this
end Go.Proofs.Ytfgaoojogididaa.AM

/-
  The A-machine, part 23: what data of a type are.
-/
set_option linter.unusedVariables false
set_option linter.unusedSimpArgs false
namespace Go.Proofs.Ytfgaoojogididaa.AM
open Go.RowKit

/-- A number that 64 bits hold. -/
def I64 (n : Int) : Prop := -9223372036854775808 ≤ n ∧ n ≤ 9223372036854775807

/-- The types of a struct's fields. -/
def stTys (P : Program) (t : TypeId) : Option (List TypeId) := match P.underlying t with | some (.struct fs) => some (fs.toList.map (·.type)) | _ => none
def ShpFs (P : Program) : List TypeId → List AV → Prop
  | [], cells => cells = []
  | t :: ts, cells => ∃ p q, cells = p ++ q ∧ Shp P t p ∧ ShpFs P ts q

section
variable {P : Program} {t e : TypeId} {cells : List AV}

theorem shpFs_of : ∀ (l : List Field) (parts : List (List AV)), parts.length = l.length → (∀ (i : Nat) (f : Field) (p : List AV), l[i]? = some f → parts[i]? = some p → Shp P f.type p) → ShpFs P (l.map (·.type)) parts.flatten
  | [], [], _, _ => rfl
  | f :: l, p :: parts, hl, h => ⟨p, parts.flatten, by simp, h 0 f p rfl rfl, shpFs_of l parts (by simpa using hl) fun i g q hg hq => h (i + 1) g q (by simpa using hg) (by simpa using hq)⟩
  | [], _ :: _, hl, _ => by simp at hl
  | _ :: _, [], hl, _ => by simp at hl

theorem Shp.st_inv {ts : List TypeId} (h : Shp P t cells) (hs : stTys P t = some ts) : ShpFs P ts cells := by
  unfold stTys at hs
  cases h with
  | st _ fs parts hu hl hp =>
    rw [hu] at hs
    injection hs with hs
    subst hs
    exact shpFs_of _ _ (by simpa using hl) fun i f p hf hp' => hp i f p (by simpa using hf) hp'
  | bool _ b hu => rw [hu] at hs; cases hs
  | int _ k n hu hw => rw [hu] at hs; cases hs
  | str _ s hu hl => rw [hu] at hs; cases hs
  | sl _ e elems hu hl hp => rw [hu] at hs; cases hs

theorem Shp.int_inv (h : Shp P t cells) (hu : P.underlying t = some (.int .i64)) : ∃ n, cells = [.int .i64 n] ∧ I64 n := by
  cases h with
  | int _ k n hu' hw =>
    rw [hu] at hu'; cases hu'
    refine ⟨n, rfl, ?_⟩
    simp [Lit.wf, IntKind.min, IntKind.max, IntKind.bits, IntKind.signed] at hw
    unfold I64
    omega
  | bool _ b hu' => rw [hu] at hu'; cases hu'
  | st _ fs parts hu' hl hp => rw [hu] at hu'; cases hu'
  | str _ s hu' hl => rw [hu] at hu'; cases hu'
  | sl _ e elems hu' hl hp => rw [hu] at hu'; cases hu'

theorem Shp.bool_inv (h : Shp P t cells) (hu : P.underlying t = some .bool) : ∃ b, cells = [.bool b] := by
  cases h with
  | bool _ b hu' => exact ⟨b, rfl⟩
  | int _ k n hu' hw => rw [hu] at hu'; cases hu'
  | st _ fs parts hu' hl hp => rw [hu] at hu'; cases hu'
  | str _ s hu' hl => rw [hu] at hu'; cases hu'
  | sl _ e elems hu' hl hp => rw [hu] at hu'; cases hu'

theorem Shp.str_inv (h : Shp P t cells) (hu : P.underlying t = some .string) : ∃ s, cells = [.str s] ∧ s.size ≤ maxLen := by
  cases h with
  | str _ s hu' hl => exact ⟨s, rfl, hl⟩
  | int _ k n hu' hw => rw [hu] at hu'; cases hu'
  | st _ fs parts hu' hl hp => rw [hu] at hu'; cases hu'
  | bool _ b hu' => rw [hu] at hu'; cases hu'
  | sl _ e elems hu' hl hp => rw [hu] at hu'; cases hu'

theorem Shp.sl_inv (h : Shp P t cells) (hu : P.underlying t = some (.slice e)) : ∃ elems, cells = [.tr true elems] ∧ elems.length ≤ maxLen ∧ ∀ el ∈ elems, Shp P e el := by
  cases h with
  | sl _ e' elems hu' hl hp =>
    rw [hu] at hu'; cases hu'
    refine ⟨elems, rfl, hl, fun el hel => ?_⟩
    obtain ⟨i, hi, rfl⟩ := List.getElem_of_mem hel
    exact hp i _ (by simp)
  | int _ k n hu' hw => rw [hu] at hu'; cases hu'
  | st _ fs parts hu' hl hp => rw [hu] at hu'; cases hu'
  | bool _ b hu' => rw [hu] at hu'; cases hu'
  | str _ s hu' hl => rw [hu] at hu'; cases hu'
end

theorem unmap {α β : Type} (f : α → β) (Q : α → Prop) : ∀ (l : List β), (∀ y ∈ l, ∃ x, y = f x ∧ Q x) → ∃ xs : List α, l = xs.map f ∧ ∀ x ∈ xs, Q x
  | [], _ => ⟨[], rfl, by simp⟩
  | y :: l, h => by
    obtain ⟨x, rfl, hx⟩ := h y (by simp)
    obtain ⟨xs, rfl, hxs⟩ := unmap f Q l fun z hz => h z (by simp [hz])
    exact ⟨x :: xs, rfl, fun z hz => by simp at hz; rcases hz with rfl | hz; exact hx; exact hxs z hz⟩

section
variable {P : Program} {t e e' : TypeId} {cells : List AV}
theorem Shp.ints_inv (h : Shp P t cells) (hu : P.underlying t = some (.slice e)) (he : P.underlying e = some (.int .i64)) : ∃ xs, cells = [ints true xs] ∧ xs.length ≤ maxLen ∧ ∀ x ∈ xs, I64 x := by
  obtain ⟨elems, rfl, hl, hs⟩ := h.sl_inv hu
  obtain ⟨xs, rfl, hx⟩ := unmap (fun n => [AV.int .i64 n]) I64 elems fun y hy => (hs y hy).int_inv he
  exact ⟨xs, rfl, by simpa using hl, hx⟩
theorem Shp.intss_inv (h : Shp P t cells) (hu : P.underlying t = some (.slice e)) (he : P.underlying e = some (.slice e')) (he' : P.underlying e' = some (.int .i64)) : ∃ xs, cells = [intss true xs] ∧ xs.length ≤ maxLen ∧ ∀ x ∈ xs, x.length ≤ maxLen ∧ ∀ y ∈ x, I64 y := by
  obtain ⟨elems, rfl, hl, hs⟩ := h.sl_inv hu
  obtain ⟨xs, rfl, hx⟩ := unmap (fun x => [ints true x]) (fun x => x.length ≤ maxLen ∧ ∀ y ∈ x, I64 y) elems fun y hy => (hs y hy).ints_inv he he'
  exact ⟨xs, rfl, by simpa using hl, hx⟩
end
theorem agg_of {P : Program} {t : TypeId} (h : (stTys P t).isSome = true) (cells : List AV) : avOf P t cells = .agg cells := by
  unfold stTys at h
  unfold avOf
  cases hu : P.underlying t with
  | none => rw [hu] at h; cases h
  | some d => rw [hu] at h; cases d <;> first | rfl | cases h
theorem shpAll_nil {P : Program} {l : List AV} (h : ShpAll P [] l) : l = [] := by
  cases l with
  | nil => rfl
  | cons _ _ => exact h.elim
theorem shpAll_cons {P : Program} {t : TypeId} {ts : List TypeId} {l : List AV} (h : ShpAll P (t :: ts) l) : ∃ cells l', Shp P t cells ∧ l = avOf P t cells :: l' ∧ ShpAll P ts l' := by
  cases l with
  | nil => exact h.elim
  | cons a l' =>
    obtain ⟨⟨cells, h1, h2⟩, h3⟩ := h
    exact ⟨cells, l', h1, by rw [h2], h3⟩
end Go.Proofs.Ytfgaoojogididaa.AM

/-
  The A-machine, part 24: what a law holds while it runs: boxes and values of its own, all apart.
-/
set_option linter.unusedVariables false
set_option linter.unusedSimpArgs false
namespace Go.Proofs.Ytfgaoojogididaa.AM
open Go.RowKit

abbrev Bx := List (Nm × Row)
abbrev Ox := List (AV × (Bool → AV) × List Nm)
def nms (bs : Bx) (os : Ox) : List Nm := bs.map (·.1) ++ (os.map (·.2.2)).flatten

structure Cx (h : Hp) (bs : Bx) (os : Ox) : Prop where
  box : ∀ x ∈ bs, h.rows x.1 = some x.2
  own : ∀ x ∈ os, ∀ c, OwnV h.rows c x.1 (x.2.1 c) x.2.2
  nd : (nms bs os).Nodup
  lt : ∀ n ∈ nms bs os, n.1 < h.tick

def Off (T : Nat) (bs : Bx) (os : Ox) : Prop := ∀ n ∈ nms bs os, n.1 ≠ T

section
variable {h h' : Hp} {bs : Bx} {os : Ox} {n : Nm} {r r' : Row} {T : Nat} {v : AV} {t t' : Bool → AV} {ns : List Nm}

theorem Cx.mt {T : Nat} : Cx (.mt T) [] [] := ⟨fun x hx => by simp at hx, fun x hx => by simp at hx, by simp [nms], fun n hn => by simp [nms] at hn⟩
theorem Cx.off (c : Cx h bs os) : Off h.tick bs os := fun n hn e => by have := c.lt n hn; omega
theorem Cx.next (c : Cx h bs os) : Cx h.next bs os :=
  ⟨fun x hx => by rw [hp_next_rows]; exact c.box x hx, fun x hx => by rw [hp_next_rows]; exact c.own x hx, c.nd, fun n hn => by rw [hp_next_tick]; have := c.lt n hn; omega⟩
theorem nms_box (n : Nm) (r : Row) (bs : Bx) (os : Ox) : nms ((n, r) :: bs) os = n :: nms bs os := rfl
theorem mem_own {x : AV × (Bool → AV) × List Nm} {n : Nm} (hx : x ∈ os) (hn : n ∈ x.2.2) : n ∈ nms bs os := by
  simp only [nms, List.mem_append, List.mem_flatten, List.mem_map]
  exact .inr ⟨x.2.2, ⟨x, hx, rfl⟩, hn⟩
theorem mem_box {x : Nm × Row} (hx : x ∈ bs) : x.1 ∈ nms bs os := by
  simp only [nms, List.mem_append, List.mem_map]
  exact .inl ⟨x, hx, rfl⟩
theorem Cx.box_add (c : Cx h bs os) (hn : n ∉ nms bs os) (ht : n.1 < h.tick) : Cx (h.put n r) ((n, r) :: bs) os := by
  refine ⟨fun x hx => ?_, fun x hx b => (c.own x hx b).congr fun m hm => ?_, by rw [nms_box]; exact List.nodup_cons.2 ⟨hn, c.nd⟩, fun m hm => ?_⟩
  · rw [hp_rows_put]
    simp only [List.mem_cons] at hx
    rcases hx with rfl | hx
    · simp
    · rw [if_neg (fun e => hn (by rw [← e]; exact mem_box hx))]; exact c.box x hx
  · rw [hp_rows_put, if_neg (fun e => hn (by rw [← e]; exact mem_own hx hm))]
  · rw [hp_put_tick]
    rw [nms_box] at hm
    simp only [List.mem_cons] at hm
    rcases hm with rfl | hm
    · exact ht
    · exact c.lt m hm
theorem Cx.box_set (c : Cx h ((n, r) :: bs) os) : Cx (h.put n r') ((n, r') :: bs) os := by
  have hn := (List.nodup_cons.1 (by have := c.nd; rwa [nms_box] at this)).1
  refine ⟨fun x hx => ?_, fun x hx b => (c.own x hx b).congr fun m hm => ?_, c.nd, fun m hm => by rw [hp_put_tick]; exact c.lt m hm⟩
  · rw [hp_rows_put]
    simp only [List.mem_cons] at hx
    rcases hx with rfl | hx
    · simp
    · rw [if_neg (fun e => hn (by rw [← e]; exact mem_box hx))]; exact c.box x (by simp [hx])
  · rw [hp_rows_put, if_neg (fun e => hn (by rw [← e]; exact mem_own hx hm))]
/-- A new box, filled behind it. -/
theorem Cx.box_new (c : Cx h bs os) (z : Off T bs os) {i : Nat} (ht : T < h.tick) : Cx ((h.put (T, i, 0) r).put (T, i, 0) r') (((T, i, 0), r') :: bs) os :=
  (c.box_add (n := (T, i, 0)) (r := r) (fun e => z _ e rfl) ht).box_set
theorem Cx.box_one (c : Cx h bs os) (z : Off T bs os) {i : Nat} (ht : T < h.tick) : Cx (h.put (T, i, 0) r) (((T, i, 0), r) :: bs) os := c.box_add (n := (T, i, 0)) (fun e => z _ e rfl) ht

theorem nodup_mid {α : Type} {a b c : List α} (h : (a ++ c).Nodup) (hb : b.Nodup) (hd : ∀ x ∈ b, x ∉ a ∧ x ∉ c) : (a ++ (b ++ c)).Nodup := by
  rw [List.nodup_append] at h ⊢
  refine ⟨h.1, List.nodup_append.2 ⟨hb, h.2.1, fun x hx y hy e => by subst e; exact (hd x hx).2 hy⟩, fun x hx y hy e => ?_⟩
  subst e
  simp only [List.mem_append] at hy
  rcases hy with hy | hy
  · exact (hd x hy).1 hx
  · exact h.2.2 x hx x hy rfl

/-- A call that yields something of its own. -/
theorem Cx.fresh (c : Cx h bs os) (o : ∀ b, OwnV h'.rows b v (t b) ns) (d : ns.Nodup) (f : ∀ n ∈ ns, h.tick ≤ n.1 ∧ n.1 < h'.tick) (p : ∀ n, n.1 < h.tick → h'.rows n = h.rows n) (q : h.tick ≤ h'.tick) : Cx h' bs ((v, t, ns) :: os) := by
  refine ⟨fun x hx => by rw [p _ (c.lt _ (mem_box hx))]; exact c.box x hx, fun x hx b => ?_, ?_, fun m hm => ?_⟩
  · simp only [List.mem_cons] at hx
    rcases hx with rfl | hx
    · exact o b
    · exact (c.own x hx b).congr fun m hm => p m (c.lt _ (mem_own hx hm))
  · simp only [nms, List.map_cons, List.flatten_cons]
    exact nodup_mid c.nd d fun x hx => ⟨fun e => by have := c.lt x (by simp only [nms, List.mem_append]; exact .inl e); have := (f x hx).1; omega, fun e => by have := c.lt x (by simp only [nms, List.mem_append]; exact .inr e); have := (f x hx).1; omega⟩
  · simp only [nms, List.map_cons, List.flatten_cons, List.mem_append] at hm
    rcases hm with hm | hm | hm
    · have := c.lt m (by simp only [nms, List.mem_append]; exact .inl hm); omega
    · exact (f m hm).2
    · have := c.lt m (by simp only [nms, List.mem_append]; exact .inr hm); omega
theorem Off.fresh (z : Off T bs os) (f : ∀ n ∈ ns, h.tick ≤ n.1 ∧ n.1 < h'.tick) (ht : T < h.tick) : Off T bs ((v, t, ns) :: os) := by
  intro m hm
  simp only [nms, List.map_cons, List.flatten_cons, List.mem_append] at hm
  rcases hm with hm | hm | hm
  · exact z m (by simp only [nms, List.mem_append]; exact .inl hm)
  · have := (f m hm).1; omega
  · exact z m (by simp only [nms, List.mem_append]; exact .inr hm)

/-- A call that writes into what is its own. -/
theorem Cx.mark (c : Cx h bs ((v, t, ns) :: os)) (o : ∀ b, OwnV h'.rows b v (t' b) ns) (p : ∀ n, n ∉ ns → n.1 < h.tick → h'.rows n = h.rows n) (q : h.tick ≤ h'.tick) : Cx h' bs ((v, t', ns) :: os) := by
  have nd := c.nd
  simp only [nms, List.map_cons, List.flatten_cons] at nd
  rw [List.nodup_append] at nd
  obtain ⟨n1, n2, n3⟩ := nd
  rw [List.nodup_append] at n2
  refine ⟨fun x hx => ?_, fun x hx b => ?_, c.nd, fun m hm => by have := c.lt m hm; omega⟩
  · rw [p x.1 (fun e => n3 x.1 (List.mem_map_of_mem hx) x.1 (by simp [e]) rfl) (c.lt _ (mem_box hx))]
    exact c.box x hx
  · simp only [List.mem_cons] at hx
    rcases hx with rfl | hx
    · exact o b
    · refine (c.own x (by simp [hx]) b).congr fun m hm => p m (fun e => n2.2.2 m e m ?_ rfl) (c.lt _ (mem_own (x := x) (by simp [hx]) hm))
      simp only [List.mem_flatten, List.mem_map]
      exact ⟨x.2.2, ⟨x, hx, rfl⟩, hm⟩
/-- What was written is forgotten. -/
theorem Cx.drop (c : Cx h bs ((v, t, ns) :: os)) : Cx h bs os := by
  refine ⟨c.box, fun x hx => c.own x (by simp [hx]), ?_, fun m hm => c.lt m ?_⟩
  · have nd := c.nd
    simp only [nms, List.map_cons, List.flatten_cons] at nd ⊢
    rw [List.nodup_append] at nd ⊢
    obtain ⟨n1, n2, n3⟩ := nd
    rw [List.nodup_append] at n2
    exact ⟨n1, n2.2.1, fun x hx y hy => n3 x hx y (by simp [hy])⟩
  · simp only [nms, List.map_cons, List.flatten_cons, List.mem_append] at hm ⊢
    rcases hm with hm | hm
    · exact .inl hm
    · exact .inr (.inr hm)
theorem Cx.forget (c : Cx h bs ((v, t, ns) :: os)) (p : ∀ n, n ∉ ns → n.1 < h.tick → h'.rows n = h.rows n) (q : h.tick ≤ h'.tick) : Cx h' bs os := by
  have nd := c.nd
  simp only [nms, List.map_cons, List.flatten_cons] at nd
  rw [List.nodup_append] at nd
  obtain ⟨n1, n2, n3⟩ := nd
  rw [List.nodup_append] at n2
  have c' := c.drop
  refine ⟨fun x hx => ?_, fun x hx b => ?_, c'.nd, fun m hm => by have := c'.lt m hm; omega⟩
  · rw [p x.1 (fun e => n3 x.1 (List.mem_map_of_mem hx) x.1 (by simp [e]) rfl) (c'.lt _ (mem_box hx))]
    exact c'.box x hx
  · refine (c'.own x hx b).congr fun m hm => p m (fun e => n2.2.2 m e m ?_ rfl) (c'.lt _ (mem_own (x := x) hx hm))
    simp only [List.mem_flatten, List.mem_map]
    exact ⟨x.2.2, ⟨x, hx, rfl⟩, hm⟩
/-- In another order. -/
theorem Cx.perm {os' : Ox} (c : Cx h bs os) (hp : os.Perm os') : Cx h bs os' := by
  have hp2 : (nms bs os).Perm (nms bs os') := List.Perm.append_left _ (hp.map _).flatten
  exact ⟨c.box, fun x hx => c.own x (hp.mem_iff.2 hx), hp2.nodup_iff.1 c.nd, fun m hm => c.lt m (hp2.mem_iff.2 hm)⟩
theorem Cx.lts (c : Cx h bs ((v, t, ns) :: os)) : ∀ n ∈ ns, n.1 < h.tick := fun n hn => c.lt n (mem_own (x := (v, t, ns)) (by simp) hn)
theorem Cx.nodup (c : Cx h bs ((v, t, ns) :: os)) : ns.Nodup := by
  have nd := c.nd
  simp only [nms, List.map_cons, List.flatten_cons] at nd
  rw [List.nodup_append] at nd
  exact (List.nodup_append.1 nd.2.1).1
theorem Cx.own0 (c : Cx h bs ((v, t, ns) :: os)) : ∀ b, OwnV h.rows b v (t b) ns := c.own (v, t, ns) (by simp)

theorem Cx.b0 (c : Cx h ((n, r) :: bs) os) : h.rows n = some r := c.box (n, r) (by simp)
theorem Cx.l0 {i j : Nat} (c : Cx h (((T, i, j), r) :: bs) os) : ¬ T = h.tick := Nat.ne_of_lt (c.lt (T, i, j) (mem_box (x := ((T, i, j), r)) (by simp)))
theorem Cx.b1 {x0 : Nm × Row} (c : Cx h (x0 :: (n, r) :: bs) os) : h.rows n = some r := c.box (n, r) (by simp)
theorem Cx.l1 {x0 : Nm × Row} {i j : Nat} (c : Cx h (x0 :: ((T, i, j), r) :: bs) os) : ¬ T = h.tick := Nat.ne_of_lt (c.lt (T, i, j) (mem_box (x := ((T, i, j), r)) (by simp)))
theorem Cx.b2 {x0 : Nm × Row} {x1 : Nm × Row} (c : Cx h (x0 :: x1 :: (n, r) :: bs) os) : h.rows n = some r := c.box (n, r) (by simp)
theorem Cx.l2 {x0 : Nm × Row} {x1 : Nm × Row} {i j : Nat} (c : Cx h (x0 :: x1 :: ((T, i, j), r) :: bs) os) : ¬ T = h.tick := Nat.ne_of_lt (c.lt (T, i, j) (mem_box (x := ((T, i, j), r)) (by simp)))
theorem Cx.b3 {x0 : Nm × Row} {x1 : Nm × Row} {x2 : Nm × Row} (c : Cx h (x0 :: x1 :: x2 :: (n, r) :: bs) os) : h.rows n = some r := c.box (n, r) (by simp)
theorem Cx.l3 {x0 : Nm × Row} {x1 : Nm × Row} {x2 : Nm × Row} {i j : Nat} (c : Cx h (x0 :: x1 :: x2 :: ((T, i, j), r) :: bs) os) : ¬ T = h.tick := Nat.ne_of_lt (c.lt (T, i, j) (mem_box (x := ((T, i, j), r)) (by simp)))
theorem Cx.b4 {x0 : Nm × Row} {x1 : Nm × Row} {x2 : Nm × Row} {x3 : Nm × Row} (c : Cx h (x0 :: x1 :: x2 :: x3 :: (n, r) :: bs) os) : h.rows n = some r := c.box (n, r) (by simp)
theorem Cx.l4 {x0 : Nm × Row} {x1 : Nm × Row} {x2 : Nm × Row} {x3 : Nm × Row} {i j : Nat} (c : Cx h (x0 :: x1 :: x2 :: x3 :: ((T, i, j), r) :: bs) os) : ¬ T = h.tick := Nat.ne_of_lt (c.lt (T, i, j) (mem_box (x := ((T, i, j), r)) (by simp)))
theorem Cx.b5 {x0 : Nm × Row} {x1 : Nm × Row} {x2 : Nm × Row} {x3 : Nm × Row} {x4 : Nm × Row} (c : Cx h (x0 :: x1 :: x2 :: x3 :: x4 :: (n, r) :: bs) os) : h.rows n = some r := c.box (n, r) (by simp)
theorem Cx.l5 {x0 : Nm × Row} {x1 : Nm × Row} {x2 : Nm × Row} {x3 : Nm × Row} {x4 : Nm × Row} {i j : Nat} (c : Cx h (x0 :: x1 :: x2 :: x3 :: x4 :: ((T, i, j), r) :: bs) os) : ¬ T = h.tick := Nat.ne_of_lt (c.lt (T, i, j) (mem_box (x := ((T, i, j), r)) (by simp)))
theorem Cx.b6 {x0 : Nm × Row} {x1 : Nm × Row} {x2 : Nm × Row} {x3 : Nm × Row} {x4 : Nm × Row} {x5 : Nm × Row} (c : Cx h (x0 :: x1 :: x2 :: x3 :: x4 :: x5 :: (n, r) :: bs) os) : h.rows n = some r := c.box (n, r) (by simp)
theorem Cx.l6 {x0 : Nm × Row} {x1 : Nm × Row} {x2 : Nm × Row} {x3 : Nm × Row} {x4 : Nm × Row} {x5 : Nm × Row} {i j : Nat} (c : Cx h (x0 :: x1 :: x2 :: x3 :: x4 :: x5 :: ((T, i, j), r) :: bs) os) : ¬ T = h.tick := Nat.ne_of_lt (c.lt (T, i, j) (mem_box (x := ((T, i, j), r)) (by simp)))
theorem Cx.b7 {x0 : Nm × Row} {x1 : Nm × Row} {x2 : Nm × Row} {x3 : Nm × Row} {x4 : Nm × Row} {x5 : Nm × Row} {x6 : Nm × Row} (c : Cx h (x0 :: x1 :: x2 :: x3 :: x4 :: x5 :: x6 :: (n, r) :: bs) os) : h.rows n = some r := c.box (n, r) (by simp)
theorem Cx.l7 {x0 : Nm × Row} {x1 : Nm × Row} {x2 : Nm × Row} {x3 : Nm × Row} {x4 : Nm × Row} {x5 : Nm × Row} {x6 : Nm × Row} {i j : Nat} (c : Cx h (x0 :: x1 :: x2 :: x3 :: x4 :: x5 :: x6 :: ((T, i, j), r) :: bs) os) : ¬ T = h.tick := Nat.ne_of_lt (c.lt (T, i, j) (mem_box (x := ((T, i, j), r)) (by simp)))
theorem Cx.b8 {x0 : Nm × Row} {x1 : Nm × Row} {x2 : Nm × Row} {x3 : Nm × Row} {x4 : Nm × Row} {x5 : Nm × Row} {x6 : Nm × Row} {x7 : Nm × Row} (c : Cx h (x0 :: x1 :: x2 :: x3 :: x4 :: x5 :: x6 :: x7 :: (n, r) :: bs) os) : h.rows n = some r := c.box (n, r) (by simp)
theorem Cx.l8 {x0 : Nm × Row} {x1 : Nm × Row} {x2 : Nm × Row} {x3 : Nm × Row} {x4 : Nm × Row} {x5 : Nm × Row} {x6 : Nm × Row} {x7 : Nm × Row} {i j : Nat} (c : Cx h (x0 :: x1 :: x2 :: x3 :: x4 :: x5 :: x6 :: x7 :: ((T, i, j), r) :: bs) os) : ¬ T = h.tick := Nat.ne_of_lt (c.lt (T, i, j) (mem_box (x := ((T, i, j), r)) (by simp)))
theorem Cx.b9 {x0 : Nm × Row} {x1 : Nm × Row} {x2 : Nm × Row} {x3 : Nm × Row} {x4 : Nm × Row} {x5 : Nm × Row} {x6 : Nm × Row} {x7 : Nm × Row} {x8 : Nm × Row} (c : Cx h (x0 :: x1 :: x2 :: x3 :: x4 :: x5 :: x6 :: x7 :: x8 :: (n, r) :: bs) os) : h.rows n = some r := c.box (n, r) (by simp)
theorem Cx.l9 {x0 : Nm × Row} {x1 : Nm × Row} {x2 : Nm × Row} {x3 : Nm × Row} {x4 : Nm × Row} {x5 : Nm × Row} {x6 : Nm × Row} {x7 : Nm × Row} {x8 : Nm × Row} {i j : Nat} (c : Cx h (x0 :: x1 :: x2 :: x3 :: x4 :: x5 :: x6 :: x7 :: x8 :: ((T, i, j), r) :: bs) os) : ¬ T = h.tick := Nat.ne_of_lt (c.lt (T, i, j) (mem_box (x := ((T, i, j), r)) (by simp)))
theorem Cx.b10 {x0 : Nm × Row} {x1 : Nm × Row} {x2 : Nm × Row} {x3 : Nm × Row} {x4 : Nm × Row} {x5 : Nm × Row} {x6 : Nm × Row} {x7 : Nm × Row} {x8 : Nm × Row} {x9 : Nm × Row} (c : Cx h (x0 :: x1 :: x2 :: x3 :: x4 :: x5 :: x6 :: x7 :: x8 :: x9 :: (n, r) :: bs) os) : h.rows n = some r := c.box (n, r) (by simp)
theorem Cx.l10 {x0 : Nm × Row} {x1 : Nm × Row} {x2 : Nm × Row} {x3 : Nm × Row} {x4 : Nm × Row} {x5 : Nm × Row} {x6 : Nm × Row} {x7 : Nm × Row} {x8 : Nm × Row} {x9 : Nm × Row} {i j : Nat} (c : Cx h (x0 :: x1 :: x2 :: x3 :: x4 :: x5 :: x6 :: x7 :: x8 :: x9 :: ((T, i, j), r) :: bs) os) : ¬ T = h.tick := Nat.ne_of_lt (c.lt (T, i, j) (mem_box (x := ((T, i, j), r)) (by simp)))
theorem Cx.b11 {x0 : Nm × Row} {x1 : Nm × Row} {x2 : Nm × Row} {x3 : Nm × Row} {x4 : Nm × Row} {x5 : Nm × Row} {x6 : Nm × Row} {x7 : Nm × Row} {x8 : Nm × Row} {x9 : Nm × Row} {x10 : Nm × Row} (c : Cx h (x0 :: x1 :: x2 :: x3 :: x4 :: x5 :: x6 :: x7 :: x8 :: x9 :: x10 :: (n, r) :: bs) os) : h.rows n = some r := c.box (n, r) (by simp)
theorem Cx.l11 {x0 : Nm × Row} {x1 : Nm × Row} {x2 : Nm × Row} {x3 : Nm × Row} {x4 : Nm × Row} {x5 : Nm × Row} {x6 : Nm × Row} {x7 : Nm × Row} {x8 : Nm × Row} {x9 : Nm × Row} {x10 : Nm × Row} {i j : Nat} (c : Cx h (x0 :: x1 :: x2 :: x3 :: x4 :: x5 :: x6 :: x7 :: x8 :: x9 :: x10 :: ((T, i, j), r) :: bs) os) : ¬ T = h.tick := Nat.ne_of_lt (c.lt (T, i, j) (mem_box (x := ((T, i, j), r)) (by simp)))
theorem Cx.b12 {x0 : Nm × Row} {x1 : Nm × Row} {x2 : Nm × Row} {x3 : Nm × Row} {x4 : Nm × Row} {x5 : Nm × Row} {x6 : Nm × Row} {x7 : Nm × Row} {x8 : Nm × Row} {x9 : Nm × Row} {x10 : Nm × Row} {x11 : Nm × Row} (c : Cx h (x0 :: x1 :: x2 :: x3 :: x4 :: x5 :: x6 :: x7 :: x8 :: x9 :: x10 :: x11 :: (n, r) :: bs) os) : h.rows n = some r := c.box (n, r) (by simp)
theorem Cx.l12 {x0 : Nm × Row} {x1 : Nm × Row} {x2 : Nm × Row} {x3 : Nm × Row} {x4 : Nm × Row} {x5 : Nm × Row} {x6 : Nm × Row} {x7 : Nm × Row} {x8 : Nm × Row} {x9 : Nm × Row} {x10 : Nm × Row} {x11 : Nm × Row} {i j : Nat} (c : Cx h (x0 :: x1 :: x2 :: x3 :: x4 :: x5 :: x6 :: x7 :: x8 :: x9 :: x10 :: x11 :: ((T, i, j), r) :: bs) os) : ¬ T = h.tick := Nat.ne_of_lt (c.lt (T, i, j) (mem_box (x := ((T, i, j), r)) (by simp)))
theorem Cx.b13 {x0 : Nm × Row} {x1 : Nm × Row} {x2 : Nm × Row} {x3 : Nm × Row} {x4 : Nm × Row} {x5 : Nm × Row} {x6 : Nm × Row} {x7 : Nm × Row} {x8 : Nm × Row} {x9 : Nm × Row} {x10 : Nm × Row} {x11 : Nm × Row} {x12 : Nm × Row} (c : Cx h (x0 :: x1 :: x2 :: x3 :: x4 :: x5 :: x6 :: x7 :: x8 :: x9 :: x10 :: x11 :: x12 :: (n, r) :: bs) os) : h.rows n = some r := c.box (n, r) (by simp)
theorem Cx.l13 {x0 : Nm × Row} {x1 : Nm × Row} {x2 : Nm × Row} {x3 : Nm × Row} {x4 : Nm × Row} {x5 : Nm × Row} {x6 : Nm × Row} {x7 : Nm × Row} {x8 : Nm × Row} {x9 : Nm × Row} {x10 : Nm × Row} {x11 : Nm × Row} {x12 : Nm × Row} {i j : Nat} (c : Cx h (x0 :: x1 :: x2 :: x3 :: x4 :: x5 :: x6 :: x7 :: x8 :: x9 :: x10 :: x11 :: x12 :: ((T, i, j), r) :: bs) os) : ¬ T = h.tick := Nat.ne_of_lt (c.lt (T, i, j) (mem_box (x := ((T, i, j), r)) (by simp)))
theorem Cx.b14 {x0 : Nm × Row} {x1 : Nm × Row} {x2 : Nm × Row} {x3 : Nm × Row} {x4 : Nm × Row} {x5 : Nm × Row} {x6 : Nm × Row} {x7 : Nm × Row} {x8 : Nm × Row} {x9 : Nm × Row} {x10 : Nm × Row} {x11 : Nm × Row} {x12 : Nm × Row} {x13 : Nm × Row} (c : Cx h (x0 :: x1 :: x2 :: x3 :: x4 :: x5 :: x6 :: x7 :: x8 :: x9 :: x10 :: x11 :: x12 :: x13 :: (n, r) :: bs) os) : h.rows n = some r := c.box (n, r) (by simp)
theorem Cx.l14 {x0 : Nm × Row} {x1 : Nm × Row} {x2 : Nm × Row} {x3 : Nm × Row} {x4 : Nm × Row} {x5 : Nm × Row} {x6 : Nm × Row} {x7 : Nm × Row} {x8 : Nm × Row} {x9 : Nm × Row} {x10 : Nm × Row} {x11 : Nm × Row} {x12 : Nm × Row} {x13 : Nm × Row} {i j : Nat} (c : Cx h (x0 :: x1 :: x2 :: x3 :: x4 :: x5 :: x6 :: x7 :: x8 :: x9 :: x10 :: x11 :: x12 :: x13 :: ((T, i, j), r) :: bs) os) : ¬ T = h.tick := Nat.ne_of_lt (c.lt (T, i, j) (mem_box (x := ((T, i, j), r)) (by simp)))
theorem Cx.o0 (c : Cx h bs ((v, t, ns) :: os)) : ∀ b, OwnV h.rows b v (t b) ns := c.own (v, t, ns) (by simp)
theorem Cx.m0 (c : Cx h bs ((v, t, ns) :: os)) : ∀ b, OwnV (maskR h.tick (fun _ => false) h.rows) b v (t b) ns := fun b => (c.o0 b).congr fun n hn => (by have := c.lt n (mem_own (x := (v, t, ns)) (by simp) hn); exact if_neg (fun e => by rcases e with e | e; omega; cases e))
theorem Cx.o1 {y0 : AV × (Bool → AV) × List Nm} (c : Cx h bs (y0 :: (v, t, ns) :: os)) : ∀ b, OwnV h.rows b v (t b) ns := c.own (v, t, ns) (by simp)
theorem Cx.m1 {y0 : AV × (Bool → AV) × List Nm} (c : Cx h bs (y0 :: (v, t, ns) :: os)) : ∀ b, OwnV (maskR h.tick (fun _ => false) h.rows) b v (t b) ns := fun b => (c.o1 b).congr fun n hn => (by have := c.lt n (mem_own (x := (v, t, ns)) (by simp) hn); exact if_neg (fun e => by rcases e with e | e; omega; cases e))
theorem Cx.rot1 {y0 : AV × (Bool → AV) × List Nm} (c : Cx h bs (y0 :: (v, t, ns) :: os)) : Cx h bs ((v, t, ns) :: y0 :: os) := c.perm (List.perm_middle (l₁ := [y0]))
theorem Cx.o2 {y0 : AV × (Bool → AV) × List Nm} {y1 : AV × (Bool → AV) × List Nm} (c : Cx h bs (y0 :: y1 :: (v, t, ns) :: os)) : ∀ b, OwnV h.rows b v (t b) ns := c.own (v, t, ns) (by simp)
theorem Cx.m2 {y0 : AV × (Bool → AV) × List Nm} {y1 : AV × (Bool → AV) × List Nm} (c : Cx h bs (y0 :: y1 :: (v, t, ns) :: os)) : ∀ b, OwnV (maskR h.tick (fun _ => false) h.rows) b v (t b) ns := fun b => (c.o2 b).congr fun n hn => (by have := c.lt n (mem_own (x := (v, t, ns)) (by simp) hn); exact if_neg (fun e => by rcases e with e | e; omega; cases e))
theorem Cx.rot2 {y0 : AV × (Bool → AV) × List Nm} {y1 : AV × (Bool → AV) × List Nm} (c : Cx h bs (y0 :: y1 :: (v, t, ns) :: os)) : Cx h bs ((v, t, ns) :: y0 :: y1 :: os) := c.perm (List.perm_middle (l₁ := [y0, y1]))
theorem Cx.o3 {y0 : AV × (Bool → AV) × List Nm} {y1 : AV × (Bool → AV) × List Nm} {y2 : AV × (Bool → AV) × List Nm} (c : Cx h bs (y0 :: y1 :: y2 :: (v, t, ns) :: os)) : ∀ b, OwnV h.rows b v (t b) ns := c.own (v, t, ns) (by simp)
theorem Cx.m3 {y0 : AV × (Bool → AV) × List Nm} {y1 : AV × (Bool → AV) × List Nm} {y2 : AV × (Bool → AV) × List Nm} (c : Cx h bs (y0 :: y1 :: y2 :: (v, t, ns) :: os)) : ∀ b, OwnV (maskR h.tick (fun _ => false) h.rows) b v (t b) ns := fun b => (c.o3 b).congr fun n hn => (by have := c.lt n (mem_own (x := (v, t, ns)) (by simp) hn); exact if_neg (fun e => by rcases e with e | e; omega; cases e))
theorem Cx.rot3 {y0 : AV × (Bool → AV) × List Nm} {y1 : AV × (Bool → AV) × List Nm} {y2 : AV × (Bool → AV) × List Nm} (c : Cx h bs (y0 :: y1 :: y2 :: (v, t, ns) :: os)) : Cx h bs ((v, t, ns) :: y0 :: y1 :: y2 :: os) := c.perm (List.perm_middle (l₁ := [y0, y1, y2]))
theorem Cx.o4 {y0 : AV × (Bool → AV) × List Nm} {y1 : AV × (Bool → AV) × List Nm} {y2 : AV × (Bool → AV) × List Nm} {y3 : AV × (Bool → AV) × List Nm} (c : Cx h bs (y0 :: y1 :: y2 :: y3 :: (v, t, ns) :: os)) : ∀ b, OwnV h.rows b v (t b) ns := c.own (v, t, ns) (by simp)
theorem Cx.m4 {y0 : AV × (Bool → AV) × List Nm} {y1 : AV × (Bool → AV) × List Nm} {y2 : AV × (Bool → AV) × List Nm} {y3 : AV × (Bool → AV) × List Nm} (c : Cx h bs (y0 :: y1 :: y2 :: y3 :: (v, t, ns) :: os)) : ∀ b, OwnV (maskR h.tick (fun _ => false) h.rows) b v (t b) ns := fun b => (c.o4 b).congr fun n hn => (by have := c.lt n (mem_own (x := (v, t, ns)) (by simp) hn); exact if_neg (fun e => by rcases e with e | e; omega; cases e))
theorem Cx.rot4 {y0 : AV × (Bool → AV) × List Nm} {y1 : AV × (Bool → AV) × List Nm} {y2 : AV × (Bool → AV) × List Nm} {y3 : AV × (Bool → AV) × List Nm} (c : Cx h bs (y0 :: y1 :: y2 :: y3 :: (v, t, ns) :: os)) : Cx h bs ((v, t, ns) :: y0 :: y1 :: y2 :: y3 :: os) := c.perm (List.perm_middle (l₁ := [y0, y1, y2, y3]))
theorem Cx.o5 {y0 : AV × (Bool → AV) × List Nm} {y1 : AV × (Bool → AV) × List Nm} {y2 : AV × (Bool → AV) × List Nm} {y3 : AV × (Bool → AV) × List Nm} {y4 : AV × (Bool → AV) × List Nm} (c : Cx h bs (y0 :: y1 :: y2 :: y3 :: y4 :: (v, t, ns) :: os)) : ∀ b, OwnV h.rows b v (t b) ns := c.own (v, t, ns) (by simp)
theorem Cx.m5 {y0 : AV × (Bool → AV) × List Nm} {y1 : AV × (Bool → AV) × List Nm} {y2 : AV × (Bool → AV) × List Nm} {y3 : AV × (Bool → AV) × List Nm} {y4 : AV × (Bool → AV) × List Nm} (c : Cx h bs (y0 :: y1 :: y2 :: y3 :: y4 :: (v, t, ns) :: os)) : ∀ b, OwnV (maskR h.tick (fun _ => false) h.rows) b v (t b) ns := fun b => (c.o5 b).congr fun n hn => (by have := c.lt n (mem_own (x := (v, t, ns)) (by simp) hn); exact if_neg (fun e => by rcases e with e | e; omega; cases e))
theorem Cx.rot5 {y0 : AV × (Bool → AV) × List Nm} {y1 : AV × (Bool → AV) × List Nm} {y2 : AV × (Bool → AV) × List Nm} {y3 : AV × (Bool → AV) × List Nm} {y4 : AV × (Bool → AV) × List Nm} (c : Cx h bs (y0 :: y1 :: y2 :: y3 :: y4 :: (v, t, ns) :: os)) : Cx h bs ((v, t, ns) :: y0 :: y1 :: y2 :: y3 :: y4 :: os) := c.perm (List.perm_middle (l₁ := [y0, y1, y2, y3, y4]))
theorem Cx.o6 {y0 : AV × (Bool → AV) × List Nm} {y1 : AV × (Bool → AV) × List Nm} {y2 : AV × (Bool → AV) × List Nm} {y3 : AV × (Bool → AV) × List Nm} {y4 : AV × (Bool → AV) × List Nm} {y5 : AV × (Bool → AV) × List Nm} (c : Cx h bs (y0 :: y1 :: y2 :: y3 :: y4 :: y5 :: (v, t, ns) :: os)) : ∀ b, OwnV h.rows b v (t b) ns := c.own (v, t, ns) (by simp)
theorem Cx.m6 {y0 : AV × (Bool → AV) × List Nm} {y1 : AV × (Bool → AV) × List Nm} {y2 : AV × (Bool → AV) × List Nm} {y3 : AV × (Bool → AV) × List Nm} {y4 : AV × (Bool → AV) × List Nm} {y5 : AV × (Bool → AV) × List Nm} (c : Cx h bs (y0 :: y1 :: y2 :: y3 :: y4 :: y5 :: (v, t, ns) :: os)) : ∀ b, OwnV (maskR h.tick (fun _ => false) h.rows) b v (t b) ns := fun b => (c.o6 b).congr fun n hn => (by have := c.lt n (mem_own (x := (v, t, ns)) (by simp) hn); exact if_neg (fun e => by rcases e with e | e; omega; cases e))
theorem Cx.rot6 {y0 : AV × (Bool → AV) × List Nm} {y1 : AV × (Bool → AV) × List Nm} {y2 : AV × (Bool → AV) × List Nm} {y3 : AV × (Bool → AV) × List Nm} {y4 : AV × (Bool → AV) × List Nm} {y5 : AV × (Bool → AV) × List Nm} (c : Cx h bs (y0 :: y1 :: y2 :: y3 :: y4 :: y5 :: (v, t, ns) :: os)) : Cx h bs ((v, t, ns) :: y0 :: y1 :: y2 :: y3 :: y4 :: y5 :: os) := c.perm (List.perm_middle (l₁ := [y0, y1, y2, y3, y4, y5]))
theorem Cx.o7 {y0 : AV × (Bool → AV) × List Nm} {y1 : AV × (Bool → AV) × List Nm} {y2 : AV × (Bool → AV) × List Nm} {y3 : AV × (Bool → AV) × List Nm} {y4 : AV × (Bool → AV) × List Nm} {y5 : AV × (Bool → AV) × List Nm} {y6 : AV × (Bool → AV) × List Nm} (c : Cx h bs (y0 :: y1 :: y2 :: y3 :: y4 :: y5 :: y6 :: (v, t, ns) :: os)) : ∀ b, OwnV h.rows b v (t b) ns := c.own (v, t, ns) (by simp)
theorem Cx.m7 {y0 : AV × (Bool → AV) × List Nm} {y1 : AV × (Bool → AV) × List Nm} {y2 : AV × (Bool → AV) × List Nm} {y3 : AV × (Bool → AV) × List Nm} {y4 : AV × (Bool → AV) × List Nm} {y5 : AV × (Bool → AV) × List Nm} {y6 : AV × (Bool → AV) × List Nm} (c : Cx h bs (y0 :: y1 :: y2 :: y3 :: y4 :: y5 :: y6 :: (v, t, ns) :: os)) : ∀ b, OwnV (maskR h.tick (fun _ => false) h.rows) b v (t b) ns := fun b => (c.o7 b).congr fun n hn => (by have := c.lt n (mem_own (x := (v, t, ns)) (by simp) hn); exact if_neg (fun e => by rcases e with e | e; omega; cases e))
theorem Cx.rot7 {y0 : AV × (Bool → AV) × List Nm} {y1 : AV × (Bool → AV) × List Nm} {y2 : AV × (Bool → AV) × List Nm} {y3 : AV × (Bool → AV) × List Nm} {y4 : AV × (Bool → AV) × List Nm} {y5 : AV × (Bool → AV) × List Nm} {y6 : AV × (Bool → AV) × List Nm} (c : Cx h bs (y0 :: y1 :: y2 :: y3 :: y4 :: y5 :: y6 :: (v, t, ns) :: os)) : Cx h bs ((v, t, ns) :: y0 :: y1 :: y2 :: y3 :: y4 :: y5 :: y6 :: os) := c.perm (List.perm_middle (l₁ := [y0, y1, y2, y3, y4, y5, y6]))
theorem Cx.o8 {y0 : AV × (Bool → AV) × List Nm} {y1 : AV × (Bool → AV) × List Nm} {y2 : AV × (Bool → AV) × List Nm} {y3 : AV × (Bool → AV) × List Nm} {y4 : AV × (Bool → AV) × List Nm} {y5 : AV × (Bool → AV) × List Nm} {y6 : AV × (Bool → AV) × List Nm} {y7 : AV × (Bool → AV) × List Nm} (c : Cx h bs (y0 :: y1 :: y2 :: y3 :: y4 :: y5 :: y6 :: y7 :: (v, t, ns) :: os)) : ∀ b, OwnV h.rows b v (t b) ns := c.own (v, t, ns) (by simp)
theorem Cx.m8 {y0 : AV × (Bool → AV) × List Nm} {y1 : AV × (Bool → AV) × List Nm} {y2 : AV × (Bool → AV) × List Nm} {y3 : AV × (Bool → AV) × List Nm} {y4 : AV × (Bool → AV) × List Nm} {y5 : AV × (Bool → AV) × List Nm} {y6 : AV × (Bool → AV) × List Nm} {y7 : AV × (Bool → AV) × List Nm} (c : Cx h bs (y0 :: y1 :: y2 :: y3 :: y4 :: y5 :: y6 :: y7 :: (v, t, ns) :: os)) : ∀ b, OwnV (maskR h.tick (fun _ => false) h.rows) b v (t b) ns := fun b => (c.o8 b).congr fun n hn => (by have := c.lt n (mem_own (x := (v, t, ns)) (by simp) hn); exact if_neg (fun e => by rcases e with e | e; omega; cases e))
theorem Cx.rot8 {y0 : AV × (Bool → AV) × List Nm} {y1 : AV × (Bool → AV) × List Nm} {y2 : AV × (Bool → AV) × List Nm} {y3 : AV × (Bool → AV) × List Nm} {y4 : AV × (Bool → AV) × List Nm} {y5 : AV × (Bool → AV) × List Nm} {y6 : AV × (Bool → AV) × List Nm} {y7 : AV × (Bool → AV) × List Nm} (c : Cx h bs (y0 :: y1 :: y2 :: y3 :: y4 :: y5 :: y6 :: y7 :: (v, t, ns) :: os)) : Cx h bs ((v, t, ns) :: y0 :: y1 :: y2 :: y3 :: y4 :: y5 :: y6 :: y7 :: os) := c.perm (List.perm_middle (l₁ := [y0, y1, y2, y3, y4, y5, y6, y7]))
theorem Cx.o9 {y0 : AV × (Bool → AV) × List Nm} {y1 : AV × (Bool → AV) × List Nm} {y2 : AV × (Bool → AV) × List Nm} {y3 : AV × (Bool → AV) × List Nm} {y4 : AV × (Bool → AV) × List Nm} {y5 : AV × (Bool → AV) × List Nm} {y6 : AV × (Bool → AV) × List Nm} {y7 : AV × (Bool → AV) × List Nm} {y8 : AV × (Bool → AV) × List Nm} (c : Cx h bs (y0 :: y1 :: y2 :: y3 :: y4 :: y5 :: y6 :: y7 :: y8 :: (v, t, ns) :: os)) : ∀ b, OwnV h.rows b v (t b) ns := c.own (v, t, ns) (by simp)
theorem Cx.m9 {y0 : AV × (Bool → AV) × List Nm} {y1 : AV × (Bool → AV) × List Nm} {y2 : AV × (Bool → AV) × List Nm} {y3 : AV × (Bool → AV) × List Nm} {y4 : AV × (Bool → AV) × List Nm} {y5 : AV × (Bool → AV) × List Nm} {y6 : AV × (Bool → AV) × List Nm} {y7 : AV × (Bool → AV) × List Nm} {y8 : AV × (Bool → AV) × List Nm} (c : Cx h bs (y0 :: y1 :: y2 :: y3 :: y4 :: y5 :: y6 :: y7 :: y8 :: (v, t, ns) :: os)) : ∀ b, OwnV (maskR h.tick (fun _ => false) h.rows) b v (t b) ns := fun b => (c.o9 b).congr fun n hn => (by have := c.lt n (mem_own (x := (v, t, ns)) (by simp) hn); exact if_neg (fun e => by rcases e with e | e; omega; cases e))
theorem Cx.rot9 {y0 : AV × (Bool → AV) × List Nm} {y1 : AV × (Bool → AV) × List Nm} {y2 : AV × (Bool → AV) × List Nm} {y3 : AV × (Bool → AV) × List Nm} {y4 : AV × (Bool → AV) × List Nm} {y5 : AV × (Bool → AV) × List Nm} {y6 : AV × (Bool → AV) × List Nm} {y7 : AV × (Bool → AV) × List Nm} {y8 : AV × (Bool → AV) × List Nm} (c : Cx h bs (y0 :: y1 :: y2 :: y3 :: y4 :: y5 :: y6 :: y7 :: y8 :: (v, t, ns) :: os)) : Cx h bs ((v, t, ns) :: y0 :: y1 :: y2 :: y3 :: y4 :: y5 :: y6 :: y7 :: y8 :: os) := c.perm (List.perm_middle (l₁ := [y0, y1, y2, y3, y4, y5, y6, y7, y8]))
theorem Cx.o10 {y0 : AV × (Bool → AV) × List Nm} {y1 : AV × (Bool → AV) × List Nm} {y2 : AV × (Bool → AV) × List Nm} {y3 : AV × (Bool → AV) × List Nm} {y4 : AV × (Bool → AV) × List Nm} {y5 : AV × (Bool → AV) × List Nm} {y6 : AV × (Bool → AV) × List Nm} {y7 : AV × (Bool → AV) × List Nm} {y8 : AV × (Bool → AV) × List Nm} {y9 : AV × (Bool → AV) × List Nm} (c : Cx h bs (y0 :: y1 :: y2 :: y3 :: y4 :: y5 :: y6 :: y7 :: y8 :: y9 :: (v, t, ns) :: os)) : ∀ b, OwnV h.rows b v (t b) ns := c.own (v, t, ns) (by simp)
theorem Cx.m10 {y0 : AV × (Bool → AV) × List Nm} {y1 : AV × (Bool → AV) × List Nm} {y2 : AV × (Bool → AV) × List Nm} {y3 : AV × (Bool → AV) × List Nm} {y4 : AV × (Bool → AV) × List Nm} {y5 : AV × (Bool → AV) × List Nm} {y6 : AV × (Bool → AV) × List Nm} {y7 : AV × (Bool → AV) × List Nm} {y8 : AV × (Bool → AV) × List Nm} {y9 : AV × (Bool → AV) × List Nm} (c : Cx h bs (y0 :: y1 :: y2 :: y3 :: y4 :: y5 :: y6 :: y7 :: y8 :: y9 :: (v, t, ns) :: os)) : ∀ b, OwnV (maskR h.tick (fun _ => false) h.rows) b v (t b) ns := fun b => (c.o10 b).congr fun n hn => (by have := c.lt n (mem_own (x := (v, t, ns)) (by simp) hn); exact if_neg (fun e => by rcases e with e | e; omega; cases e))
theorem Cx.rot10 {y0 : AV × (Bool → AV) × List Nm} {y1 : AV × (Bool → AV) × List Nm} {y2 : AV × (Bool → AV) × List Nm} {y3 : AV × (Bool → AV) × List Nm} {y4 : AV × (Bool → AV) × List Nm} {y5 : AV × (Bool → AV) × List Nm} {y6 : AV × (Bool → AV) × List Nm} {y7 : AV × (Bool → AV) × List Nm} {y8 : AV × (Bool → AV) × List Nm} {y9 : AV × (Bool → AV) × List Nm} (c : Cx h bs (y0 :: y1 :: y2 :: y3 :: y4 :: y5 :: y6 :: y7 :: y8 :: y9 :: (v, t, ns) :: os)) : Cx h bs ((v, t, ns) :: y0 :: y1 :: y2 :: y3 :: y4 :: y5 :: y6 :: y7 :: y8 :: y9 :: os) := c.perm (List.perm_middle (l₁ := [y0, y1, y2, y3, y4, y5, y6, y7, y8, y9]))
theorem Cx.o11 {y0 : AV × (Bool → AV) × List Nm} {y1 : AV × (Bool → AV) × List Nm} {y2 : AV × (Bool → AV) × List Nm} {y3 : AV × (Bool → AV) × List Nm} {y4 : AV × (Bool → AV) × List Nm} {y5 : AV × (Bool → AV) × List Nm} {y6 : AV × (Bool → AV) × List Nm} {y7 : AV × (Bool → AV) × List Nm} {y8 : AV × (Bool → AV) × List Nm} {y9 : AV × (Bool → AV) × List Nm} {y10 : AV × (Bool → AV) × List Nm} (c : Cx h bs (y0 :: y1 :: y2 :: y3 :: y4 :: y5 :: y6 :: y7 :: y8 :: y9 :: y10 :: (v, t, ns) :: os)) : ∀ b, OwnV h.rows b v (t b) ns := c.own (v, t, ns) (by simp)
theorem Cx.m11 {y0 : AV × (Bool → AV) × List Nm} {y1 : AV × (Bool → AV) × List Nm} {y2 : AV × (Bool → AV) × List Nm} {y3 : AV × (Bool → AV) × List Nm} {y4 : AV × (Bool → AV) × List Nm} {y5 : AV × (Bool → AV) × List Nm} {y6 : AV × (Bool → AV) × List Nm} {y7 : AV × (Bool → AV) × List Nm} {y8 : AV × (Bool → AV) × List Nm} {y9 : AV × (Bool → AV) × List Nm} {y10 : AV × (Bool → AV) × List Nm} (c : Cx h bs (y0 :: y1 :: y2 :: y3 :: y4 :: y5 :: y6 :: y7 :: y8 :: y9 :: y10 :: (v, t, ns) :: os)) : ∀ b, OwnV (maskR h.tick (fun _ => false) h.rows) b v (t b) ns := fun b => (c.o11 b).congr fun n hn => (by have := c.lt n (mem_own (x := (v, t, ns)) (by simp) hn); exact if_neg (fun e => by rcases e with e | e; omega; cases e))
theorem Cx.rot11 {y0 : AV × (Bool → AV) × List Nm} {y1 : AV × (Bool → AV) × List Nm} {y2 : AV × (Bool → AV) × List Nm} {y3 : AV × (Bool → AV) × List Nm} {y4 : AV × (Bool → AV) × List Nm} {y5 : AV × (Bool → AV) × List Nm} {y6 : AV × (Bool → AV) × List Nm} {y7 : AV × (Bool → AV) × List Nm} {y8 : AV × (Bool → AV) × List Nm} {y9 : AV × (Bool → AV) × List Nm} {y10 : AV × (Bool → AV) × List Nm} (c : Cx h bs (y0 :: y1 :: y2 :: y3 :: y4 :: y5 :: y6 :: y7 :: y8 :: y9 :: y10 :: (v, t, ns) :: os)) : Cx h bs ((v, t, ns) :: y0 :: y1 :: y2 :: y3 :: y4 :: y5 :: y6 :: y7 :: y8 :: y9 :: y10 :: os) := c.perm (List.perm_middle (l₁ := [y0, y1, y2, y3, y4, y5, y6, y7, y8, y9, y10]))
theorem Cx.o12 {y0 : AV × (Bool → AV) × List Nm} {y1 : AV × (Bool → AV) × List Nm} {y2 : AV × (Bool → AV) × List Nm} {y3 : AV × (Bool → AV) × List Nm} {y4 : AV × (Bool → AV) × List Nm} {y5 : AV × (Bool → AV) × List Nm} {y6 : AV × (Bool → AV) × List Nm} {y7 : AV × (Bool → AV) × List Nm} {y8 : AV × (Bool → AV) × List Nm} {y9 : AV × (Bool → AV) × List Nm} {y10 : AV × (Bool → AV) × List Nm} {y11 : AV × (Bool → AV) × List Nm} (c : Cx h bs (y0 :: y1 :: y2 :: y3 :: y4 :: y5 :: y6 :: y7 :: y8 :: y9 :: y10 :: y11 :: (v, t, ns) :: os)) : ∀ b, OwnV h.rows b v (t b) ns := c.own (v, t, ns) (by simp)
theorem Cx.m12 {y0 : AV × (Bool → AV) × List Nm} {y1 : AV × (Bool → AV) × List Nm} {y2 : AV × (Bool → AV) × List Nm} {y3 : AV × (Bool → AV) × List Nm} {y4 : AV × (Bool → AV) × List Nm} {y5 : AV × (Bool → AV) × List Nm} {y6 : AV × (Bool → AV) × List Nm} {y7 : AV × (Bool → AV) × List Nm} {y8 : AV × (Bool → AV) × List Nm} {y9 : AV × (Bool → AV) × List Nm} {y10 : AV × (Bool → AV) × List Nm} {y11 : AV × (Bool → AV) × List Nm} (c : Cx h bs (y0 :: y1 :: y2 :: y3 :: y4 :: y5 :: y6 :: y7 :: y8 :: y9 :: y10 :: y11 :: (v, t, ns) :: os)) : ∀ b, OwnV (maskR h.tick (fun _ => false) h.rows) b v (t b) ns := fun b => (c.o12 b).congr fun n hn => (by have := c.lt n (mem_own (x := (v, t, ns)) (by simp) hn); exact if_neg (fun e => by rcases e with e | e; omega; cases e))
theorem Cx.rot12 {y0 : AV × (Bool → AV) × List Nm} {y1 : AV × (Bool → AV) × List Nm} {y2 : AV × (Bool → AV) × List Nm} {y3 : AV × (Bool → AV) × List Nm} {y4 : AV × (Bool → AV) × List Nm} {y5 : AV × (Bool → AV) × List Nm} {y6 : AV × (Bool → AV) × List Nm} {y7 : AV × (Bool → AV) × List Nm} {y8 : AV × (Bool → AV) × List Nm} {y9 : AV × (Bool → AV) × List Nm} {y10 : AV × (Bool → AV) × List Nm} {y11 : AV × (Bool → AV) × List Nm} (c : Cx h bs (y0 :: y1 :: y2 :: y3 :: y4 :: y5 :: y6 :: y7 :: y8 :: y9 :: y10 :: y11 :: (v, t, ns) :: os)) : Cx h bs ((v, t, ns) :: y0 :: y1 :: y2 :: y3 :: y4 :: y5 :: y6 :: y7 :: y8 :: y9 :: y10 :: y11 :: os) := c.perm (List.perm_middle (l₁ := [y0, y1, y2, y3, y4, y5, y6, y7, y8, y9, y10, y11]))
theorem Cx.rot0 (c : Cx h bs os) : Cx h bs os := c
theorem Cx.mt_box : Cx ((Hp.mt 0).next.put (0, 0, 0) r) [((0, 0, 0), r)] [] := Cx.mt.next.box_one (T := 0) Cx.mt.off (Nat.zero_lt_one)
theorem Cx.mt_box2 : Cx (((Hp.mt 0).next.put (0, 0, 0) r).put (0, 1, 0) r') [((0, 1, 0), r'), ((0, 0, 0), r)] [] := Cx.mt_box.box_add (by simp [nms]) (by simp [hp_next_tick, hp_put_tick])

variable {P : Program} {M : FuncId → Mode} {C : CS} {D : Array Oper → (Nat → AV) → Hp → ((Nat → AV) → Hp → Prop) → Prop} {σ : Nat → AV} {K : Ex → (Nat → AV) → Hp → Prop} {code : Code} {g : FuncId} {as1 : List AV} {N : AV → Hp → Prop}
theorem cx_wp (c : Cx h bs os) (k : ∀ h', Cx h' bs os → wpC P M C D code σ h' K) : wpC P M C D code σ h K := k h c
theorem cx_k {b : Code} (c : Cx h bs os) (k : ∀ h', Cx h' bs os → wpC P M C D b σ h' K) : KSeq P M C D b K .normal σ h := k h c
theorem cx_call (c : Cx h bs os) (k : ∀ h', Cx h' bs os → h'.tick = h.tick → callW M C g as1 h' N) : callW M C g as1 h N := k h c rfl
end
end Go.Proofs.Ytfgaoojogididaa.AM

/-
  The A-machine, part 25: what a step unfolds.
-/
namespace Go.Proofs.Ytfgaoojogididaa.AM
attribute [simp] evQ memA binA unA lenA_tr lenA_sl lenA_nilsl lenA_ints lenA_intss lenA_str opd avc avc1 putA_get putA_none envOf_0 envOf_1 envOf_2 envOf_3 envOf_4 envOf_5 envOf_6 loadA readCells faddrA iaddrA fieldA indexA storeA makeSliceA buildSliceA allocA boxA buildA fillA setCs hp_rows_put resA appendA_mt_ints hp_next_rows hp_next_tick hp_put_tick hp_mt_rows hp_mt_tick maskR newA isNew gdv int_beq int_bne ltS ltB ltK

section
variable {P : Program} {M : FuncId → Mode} {C : CS} {σ : Nat → AV} {h : Hp} {all : Array Oper} {T i : Nat} {rest : List Oper} {N : (Nat → AV) → Hp → Prop} {dst : Option Tmp} {ty : TypeId} {pos : String} {aft : Array Edge} {W : Nm → Bool} {rows0 : Nm → Option Row}
/-- A function value. -/
def FnW (x : AV) (k : FuncId → List AV → Prop) : Prop := match x with | .fn g cap => k g cap | _ => False
theorem fn_mk {g : FuncId} {cap : List AV} {k : FuncId → List AV → Prop} (w : k g cap) : FnW (.fn g cap) k := w
theorem st_cv {t : Tmp} {args : Array Operand} {ts : Array TypeId} (w : At (opd σ (.tmp t)) fun x => FnW x fun g cap => At (args.toList.map (opd σ) ++ cap) fun vs => callW M C g vs h (fun v h' => wpOps P M C all T rest (i + 1) (putA dst v σ) h' N)) :
    wpOps P M C all T (⟨dst, .call ⟨.value (.tmp t), args, ts⟩, ty, pos, aft, none⟩ :: rest) i σ h N := by
  unfold wpOps
  rw [wanted_none]
  have h1 : evQ P (opd σ) h.rows (.call ⟨.value (.tmp t), args, ts⟩) = none := rfl
  have h2 : memA P (T, i, 0) (opd σ) h (.call ⟨.value (.tmp t), args, ts⟩) = none := rfl
  unfold At at w
  simp only [stepW, h1, h2]
  cases hx : opd σ (.tmp t) with
  | fn g cap => rw [hx] at w; exact w
  | _ => rw [hx] at w; exact w.elim
theorem fr_cv {t : Tmp} {args : Array Operand} {ts : Array TypeId} (w : At (opd σ (.tmp t)) fun x => FnW x fun g cap => At (args.toList.map (opd σ) ++ cap) fun vs => treeW C g (maskR T W rows0) vs (T + 1) fun v => frontW P M C all T W rows0 rest (i + 1) (putA dst v σ) h N) :
    frontW P M C all T W rows0 (⟨dst, .call ⟨.value (.tmp t), args, ts⟩, ty, pos, aft, none⟩ :: rest) i σ h N := by
  unfold frontW
  rw [wanted_none]
  have h1 : evQ P (opd σ) (maskR T W rows0) (.call ⟨.value (.tmp t), args, ts⟩) = none := rfl
  have h2 : newA P (T, i, 0) (opd σ) (.call ⟨.value (.tmp t), args, ts⟩) = none := rfl
  unfold At at w
  simp only [h1, h2]
  cases hx : opd σ (.tmp t) with
  | fn g cap => rw [hx] at w; exact w
  | _ => rw [hx] at w; exact w.elim
theorem gd_b {want b : Bool} {k1 k2 : Prop} (w1 : b = want → k1) (w2 : b = !want → k2) : Gd want (.bool b) k1 k2 := ⟨w1, fun e => w2 (by cases b <;> cases want <;> simp_all)⟩
/-- A call that yields a tree, in a region of either kind. -/
theorem tr_call {g : FuncId} {args targs : List AV} {r : AV} {rows : Nm → Option Row} {t : Nat} {K : AV → Prop} (hp : Pure P g targs r) (ha : DRs true rows args targs) (hk : K r) : treeW (Sound P) g rows args t K := treeW_pure hp ha hk
theorem dr_bool {c : Bool} {rows : Nm → Option Row} {b b' : Bool} (e : b = b') : DR c rows (.bool b) (.bool b') := by subst e; exact .bool _
theorem dr_int {c : Bool} {rows : Nm → Option Row} {k : IntKind} {n n' : Int} (e : n = n') : DR c rows (.int k n) (.int k n') := by subst e; exact .int _ _
theorem dr_fn {c : Bool} {rows : Nm → Option Row} {f : FuncId} {cs ts : List AV} (h : DRs c rows cs ts) : DR c rows (.fn f cs) (.fn f ts) := .fn f _ _ h.1 h.2
theorem dr_tptr' {c b : Bool} {rows : Nm → Option Row} {cs ts : List AV} (hb : b = true → c = true) (h : DRs c rows cs ts) : DR c rows (.tptr b cs) (.tptr c ts) := .tptr b cs ts hb h.1 h.2
end
end Go.Proofs.Ytfgaoojogididaa.AM

/-
  The A-machine, part 26: slices of plain cells.
-/
set_option linter.unusedVariables false
set_option linter.unusedSimpArgs false
namespace Go.Proofs.Ytfgaoojogididaa.AM
open Go.RowKit

def flatc : AV → Bool
  | .int .. | .bool _ | .str _ => true
  | _ => false

section
variable {rows : Nm → Option Row} {c : Bool}
theorem flatc_cl {x : AV} (h : flatc x = true) : Cl x := by
  cases x <;> first | exact .int _ _ | exact .bool _ | exact .str _ | cases h
theorem own_flatc : ∀ l : List AV, (∀ x ∈ l, flatc x = true) → Own rows c l l []
  | [], _ => .nil
  | x :: l, h => by
    have h1 := h x (by simp)
    have h2 := own_flatc l fun y hy => h y (by simp [hy])
    cases x <;> first | exact .int _ _ h2 | exact .bool _ h2 | exact .str _ h2 | cases h1
theorem own_flatc_inv : ∀ (l bs : List AV) (ns : List Nm), (∀ x ∈ l, flatc x = true) → Own rows c bs l ns → ns = [] ∧ bs = l
  | [], bs, ns, _, h => by cases h; exact ⟨rfl, rfl⟩
  | x :: l, bs, ns, hf, h => by
    have h1 := hf x (by simp)
    cases h with
    | int _ _ h => obtain ⟨e1, e2⟩ := own_flatc_inv l _ _ (fun y hy => hf y (by simp [hy])) h; exact ⟨e1, by rw [e2]⟩
    | bool _ h => obtain ⟨e1, e2⟩ := own_flatc_inv l _ _ (fun y hy => hf y (by simp [hy])) h; exact ⟨e1, by rw [e2]⟩
    | str _ h => obtain ⟨e1, e2⟩ := own_flatc_inv l _ _ (fun y hy => hf y (by simp [hy])) h; exact ⟨e1, by rw [e2]⟩
    | nilsl h => cases h1
    | sl => cases h1
    | slo => cases h1
theorem clRow_flat {ver s : Nat} {l : List (List AV)} (h : ∀ e ∈ l, ∀ x ∈ e, flatc x = true) : ClRow ⟨ver, s, l⟩ := fun i e j x he hx => flatc_cl (h e (List.mem_of_getElem? he) x (List.mem_of_getElem? hx))
theorem flat_flatten {l : List (List AV)} (h : ∀ e ∈ l, ∀ x ∈ e, flatc x = true) : ∀ x ∈ l.flatten, flatc x = true := fun x hx => by
  obtain ⟨e, he, hx⟩ := List.mem_flatten.1 hx
  exact h e he x hx
theorem dr_flatc {x : AV} (h : flatc x = true) : DR c rows x x := by
  cases x <;> first | exact .int _ _ | exact .bool _ | exact .str _ | cases h
theorem drs_flat {l : List AV} (h : ∀ x ∈ l, flatc x = true) : DRs c rows l l := ⟨rfl, fun i a t ha ht => by rw [ha] at ht; cases ht; exact dr_flatc (h a (List.mem_of_getElem? ha))⟩
theorem dr_trflat {b : Bool} (hb : b = true → c = true) {l : List (List AV)} (h : ∀ e ∈ l, ∀ x ∈ e, flatc x = true) : DR c rows (.tr b l) (.tr c l) := by
  refine .tr b _ _ hb rfl (fun i e t he ht => by rw [he] at ht; cases ht; rfl) (fun i e t j x y he ht hx hy => ?_)
  rw [he] at ht; cases ht
  rw [hx] at hy; cases hy
  exact dr_flatc (h e (List.mem_of_getElem? he) x (List.mem_of_getElem? hx))
theorem own_row {n : Nm} {ver s len : Nat} {xs ys : List (List AV)} (h : rows n = some ⟨ver, s, ys⟩) (hl : ys.take len = xs) (hx : xs.length = len) (hs : ∀ e ∈ ys, e.length = s) (hf : ∀ e ∈ xs, ∀ x ∈ e, flatc x = true) (hc : ClRow ⟨ver, s, ys⟩) : Own rows c [.sl n ver 0 len] [.tr c xs] [n] := by
  have := Own.sl (as1 := []) (ts := []) (ns1 := []) (ns2 := []) (c := c) n ver len s _ xs h rfl rfl hc (by simp; have := congrArg List.length hl; simp at this; omega) hs hx (fun e he => by rw [← hl] at he; exact hs e (List.mem_of_mem_take he))
    (by rw [show (Row.mk ver s ys).elems.take len = xs from hl]; exact own_flatc _ (flat_flatten hf)) .nil
  simpa using this
theorem own_row_inv {a : AV} {s : Nat} {xs : List (List AV)} {ns : List Nm} (hf : ∀ e ∈ xs, e.length = s ∧ ∀ x ∈ e, flatc x = true) (hs : 1 < s) (h : Own rows true [a] [.tr true xs] ns) :
    (xs = [] ∧ (∀ c, Own rows c [a] [.tr c []] ns) ∧ ((a = .nilsl ∧ ns = []) ∨ ∃ n ver off, a = .sl n ver off 0 ∧ ns = [n])) ∨
    (∃ n ver sp, a = .sl n ver 0 xs.length ∧ ns = [n] ∧ rows n = some ⟨ver, s, xs ++ sp⟩ ∧ (∀ e ∈ sp, e.length = s) ∧ ClRow ⟨ver, s, sp⟩) := by
  cases h with
  | nilsl h =>
    cases h
    exact .inl ⟨rfl, fun c => .nilsl .nil, .inl ⟨rfl, rfl⟩⟩
  | @sl _ _ ns1 ns2 n ver len s' r _ h1 h2 h3 h4 h5 h6 h7 h8 h9 h10 =>
    cases h10
    obtain ⟨e1, e2⟩ := own_flatc_inv xs.flatten _ _ (flat_flatten fun e he => (hf e he).2) h9
    subst e1
    cases xs with
    | nil =>
      left
      simp at h7
      subst h7
      exact ⟨rfl, fun c => .sl n ver 0 s' r [] h1 h2 h3 h4 h5 h6 rfl (by simp) (by simpa using Own.nil) .nil, .inr ⟨n, ver, 0, rfl, by simp⟩⟩
    | cons x xs =>
      right
      have hss : s' = s := by
        have a1 := h8 x (by simp)
        have a2 := (hf x (by simp)).1
        omega
      subst hss
      have key : ∀ (l m : List (List AV)), (∀ e ∈ l, e.length = s') → (∀ e ∈ m, e.length = s') → l.flatten = m.flatten → l = m := by
        intro l
        induction l with
        | nil =>
          intro m _ hm he
          cases m with
          | nil => rfl
          | cons e m =>
            have := hm e (by simp)
            have h2 := congrArg List.length he
            simp only [List.flatten_nil, List.flatten_cons, List.length_append, List.length_nil] at h2
            omega
        | cons e l ih =>
          intro m hl hm he
          have q1 := hl e (by simp)
          cases m with
          | nil =>
            have h2 := congrArg List.length he
            simp only [List.flatten_nil, List.flatten_cons, List.length_append, List.length_nil] at h2
            omega
          | cons f m =>
            have q2 := hm f (by simp)
            simp only [List.flatten_cons] at he
            obtain ⟨e1, e2⟩ := List.append_inj he (by omega)
            rw [e1, ih m (fun e he => hl e (by simp [he])) (fun e he => hm e (by simp [he])) e2]
      have e3 := key _ (x :: xs) (fun e he => h6 e (List.mem_of_mem_take he)) (fun e he => (hf e he).1) e2
      obtain ⟨ver', esz', elems⟩ := r
      simp only at h2 h3 e3 h6 h4 h5
      subst h2 h3
      refine ⟨n, ver', elems.drop len, by rw [h7], by simp, ?_, fun e he => h6 e (List.mem_of_mem_drop he), fun i e j x he hx => ?_⟩
      · rw [h1, ← e3, List.take_append_drop]
      · refine h4 (len + i) e j x ?_ hx
        simpa [List.getElem?_drop] using he
  | slo n ver pre sp ys h1 h2 h3 h4 h5 h6 =>
    cases h6
    cases ys with
    | nil => exact .inl ⟨rfl, fun c => .slo n ver pre sp [] h1 h2 h3 h4 h5 .nil, .inr ⟨n, ver, _, rfl, rfl⟩⟩
    | cons y ys =>
      have := (hf [.int .i64 y] (by simp)).1
      simp at this
      omega
theorem own_row_mk {n : Nm} {ver s : Nat} {xs sp : List (List AV)} (h : rows n = some ⟨ver, s, xs ++ sp⟩) (hf : ∀ e ∈ xs, e.length = s ∧ ∀ x ∈ e, flatc x = true) (h1 : ∀ e ∈ sp, e.length = s) (h2 : ClRow ⟨ver, s, sp⟩) : Own rows c [.sl n ver 0 xs.length] [.tr c xs] [n] := by
  refine own_row h (by simp) rfl (fun e he => ?_) (fun e he => (hf e he).2) (fun i e j x he hx => ?_)
  · rcases List.mem_append.1 he with he | he
    · exact (hf e he).1
    · exact h1 e he
  · simp only at he
    by_cases hi : i < xs.length
    · rw [List.getElem?_append_left hi] at he
      exact flatc_cl ((hf e (List.mem_of_getElem? he)).2 x (List.mem_of_getElem? hx))
    · rw [List.getElem?_append_right (by omega)] at he
      exact h2 _ e j x he hx
end

section
variable {h h' : Hp} {bs : Bx} {os : Ox} {n : Nm} {r r' : Row} {T : Nat} {v v' : AV} {t t' : Bool → AV} {ns ns' : List Nm}
theorem Cx.bperm {bs' : Bx} (c : Cx h bs os) (hp : bs.Perm bs') : Cx h bs' os := by
  have hp2 : (nms bs os).Perm (nms bs' os) := List.Perm.append_right _ (hp.map _)
  exact ⟨fun x hx => c.box x (hp.mem_iff.2 hx), c.own, hp2.nodup_iff.1 c.nd, fun m hm => c.lt m (hp2.mem_iff.2 hm)⟩
theorem Cx.box_set1 {x : Nm × Row} (c : Cx h (x :: (n, r) :: bs) os) : Cx (h.put n r') (x :: (n, r') :: bs) os := ((c.bperm (List.Perm.swap _ _ _)).box_set (r' := r')).bperm (List.Perm.swap _ _ _)
theorem Cx.box_set2 {x y : Nm × Row} (c : Cx h (x :: y :: (n, r) :: bs) os) : Cx (h.put n r') (x :: y :: (n, r') :: bs) os := ((c.bperm (List.perm_middle (l₁ := [x, y]))).box_set (r' := r')).bperm (List.perm_middle (l₁ := [x, y])).symm
theorem Cx.nodup2 (c : Cx h bs ((v, t, ns) :: (v', t', ns') :: os)) : (ns ++ ns').Nodup := by
  have nd := c.nd
  simp only [nms, List.map_cons, List.flatten_cons] at nd
  rw [List.nodup_append] at nd
  have nd := nd.2.1
  rw [← List.append_assoc] at nd
  exact (List.nodup_append.1 nd).1
end
theorem ownV_pair {rows : Nm → Option Row} {v : AV} {t : Bool → AV} {ok : Bool} {ns : List Nm} (o : ∀ b, OwnV rows b v (.tup [t b, .bool ok]) ns) : ∃ v', v = .tup [v', .bool ok] ∧ ∀ b, OwnV rows b v' (t b) ns := by
  have one : ∀ b, ∃ v', v = .tup [v', .bool ok] ∧ OwnV rows b v' (t b) ns := fun b => by
    have h := o b
    generalize hu : AV.tup [t b, .bool ok] = u at h
    cases h with
    | one h => subst hu; cases h
    | agg h => cases hu
    | @tup2 a t1 a' t2 ns1 ns2 h1 h2 =>
      cases hu
      cases h2 with
      | one h2 => cases h2 with
        | bool _ h2 => cases h2; exact ⟨a, rfl, by simpa using h1⟩
  obtain ⟨v', e, _⟩ := one true
  refine ⟨v', e, fun b => ?_⟩
  obtain ⟨v'', e', h⟩ := one b
  rw [e] at e'
  cases e'
  exact h
theorem own_of {rows : Nm → Option Row} {c : Bool} {v t : AV} {ns : List Nm} (h : OwnV rows c v t ns) (ht : t.one = true) : Own rows c [v] [t] ns := by
  cases h with
  | one h => exact h
  | agg h => cases ht
  | tup2 => cases ht
theorem own_one' {rows : Nm → Option Row} {c b : Bool} {a : AV} {l : List (List AV)} {ns : List Nm} (h : Own rows c [a] [.tr b l] ns) : a.one = true ∧ a.stored = true ∧ a.cells = [a] := by
  cases h <;> exact ⟨rfl, rfl, rfl⟩
end Go.Proofs.Ytfgaoojogididaa.AM

/-
  The A-machine, part 27: guarded operations whose guard is not decided: their value, kept with the guard.
-/
set_option linter.unusedVariables false
set_option linter.unusedSimpArgs false
namespace Go.Proofs.Ytfgaoojogididaa.AM
open Go.RowKit

/-- A guard's test. -/
def gq (b want : Bool) : Bool := b == want
@[simp] theorem stored_ints (b : Bool) (xs : List Int) : (ints b xs).stored = true := rfl
@[simp] theorem cells_ints (b : Bool) (xs : List Int) : (ints b xs).cells = [ints b xs] := rfl
@[simp] theorem stored_intss (b : Bool) (xs : List (List Int)) : (intss b xs).stored = true := rfl
@[simp] theorem cells_intss (b : Bool) (xs : List (List Int)) : (intss b xs).cells = [intss b xs] := rfl
/-- What a guarded operation leaves. -/
def gv (c : Bool) (x : AV) : AV := match c with | true => x | false => .tup []
@[simp] theorem gv_true (x : AV) : gv true x = x := (by cases x <;> first | exact Eq.refl _ | rfl)
@[simp] theorem gv_false (x : AV) : gv false x = .tup [] := (by cases x <;> first | exact Eq.refl _ | rfl)

/-- A guard's value is 'want' if 'c' is true, another or none if it is not. -/
def GdC (x : AV) (want : Bool) (c : Bool) : Prop := (c = true → x = .bool want) ∧ (c = false → x = .bool (!want) ∨ x = .tup [])
def GdM (x : AV) (want : Bool) (k : Bool → Prop) : Prop := ∃ c, GdC x want c ∧ k c
theorem gm_bool {b want : Bool} {k : Bool → Prop} (w : k (gq b want)) : GdM (.bool b) want k := ⟨_, ⟨fun e => by simp [gq] at e; rw [e], fun e => .inl (by cases b <;> cases want <;> simp_all [gq])⟩, w⟩
theorem gm_gv {b c want : Bool} {k : Bool → Prop} (w : k (c && gq b want)) : GdM (gv c (.bool b)) want k :=
  ⟨_, ⟨fun e => by simp [gq] at e; obtain ⟨rfl, rfl⟩ := e; rfl, fun e => by cases c <;> cases b <;> cases want <;> simp_all [gq]⟩, w⟩

section
variable {P : Program} {M : FuncId → Mode} {C : CS} {σ : Nat → AV} {h : Hp} {all : Array Oper} {T i : Nat} {rest : List Oper} {N : (Nat → AV) → Hp → Prop} {dst : Option Tmp} {ty : TypeId} {pos : String} {aft : Array Edge} {W : Nm → Bool} {rows0 : Nm → Option Row} {op : Op} {j : Nat} {want : Bool}

theorem ct_id {g : FuncId} {as' : List AV} {N : AV → Hp → Prop} (w : callW M C g as' h N) : callW M C g as' h N := w
theorem tw_id {g : FuncId} {as' : List AV} {rows : Nm → Option Row} {t : Nat} {N : AV → Prop} (w : treeW C g rows as' t N) : treeW C g rows as' t N := w
theorem wanted_of {c : Bool} (hc : GdC (gdv all σ j) want c) : wantedA all σ ⟨dst, op, ty, pos, aft, some (j, want)⟩ = some c := by
  obtain ⟨h1, h2⟩ := hc
  unfold gdv at h1 h2
  unfold wantedA
  simp only
  cases ha : all[j]? with
  | none => rw [ha] at h1 h2; cases c <;> simp_all
  | some o' =>
    rw [ha] at h1 h2
    simp only at h1 h2 ⊢
    cases hd : o'.dst with
    | none => rw [hd] at h1 h2; cases c <;> simp_all
    | some d =>
      rw [hd] at h1 h2
      simp only at h1 h2 ⊢
      cases c with
      | true => rw [h1 rfl]; simp
      | false => rcases h2 rfl with e | e <;> rw [e] <;> cases want <;> rfl

theorem st_gm (w : At (gdv all σ j) fun x => GdM x want fun c => ∃ v, (c = true → evQ P (opd σ) h.rows op = some v) ∧ wpOps P M C all T rest (i + 1) (putA dst (gv c v) σ) h N) :
    wpOps P M C all T (⟨dst, op, ty, pos, aft, some (j, want)⟩ :: rest) i σ h N := by
  obtain ⟨c, hc, v, w1, w2⟩ := w
  cases c with
  | true => exact st_yes (wanted_of hc) (st_q (by rw [w1 rfl]; exact ev_some (by simpa using w2)))
  | false => exact st_no (wanted_of hc) (by simpa using w2)
theorem fr_gm (w : At (gdv all σ j) fun x => GdM x want fun c => ∃ v, (c = true → evQ P (opd σ) (maskR T W rows0) op = some v) ∧ frontW P M C all T W rows0 rest (i + 1) (putA dst (gv c v) σ) h N) :
    frontW P M C all T W rows0 (⟨dst, op, ty, pos, aft, some (j, want)⟩ :: rest) i σ h N := by
  obtain ⟨c, hc, v, w1, w2⟩ := w
  cases c with
  | true => exact fr_yes (wanted_of hc) (fr_q (by rw [w1 rfl]; exact ev_some (by simpa using w2)))
  | false => exact fr_no (wanted_of hc) (by simpa using w2)

/-- A guarded call that yields a tree. -/
theorem st_gmc {args : Array Operand} {ts : Array TypeId} {g : FuncId} (w : At (gdv all σ j) fun x => GdM x want fun c => ∃ as' targs r, (c = true → args.toList.map (opd σ) = as') ∧ M g = .tree ∧ Pure P g targs r ∧ (c = true → DRs true h.rows as' targs) ∧ wpOps P M (Sound P) all T rest (i + 1) (putA dst (gv c r) σ) h N) :
    wpOps P M (Sound P) all T (⟨dst, .call ⟨.value (.func g), args, ts⟩, ty, pos, aft, some (j, want)⟩ :: rest) i σ h N := by
  obtain ⟨c, hc, as', targs, r, w1, w2, w3, w4, w5⟩ := w
  cases c with
  | true => exact st_yes (wanted_of hc) (st_c (by rw [w1 rfl]; exact st_tree w2 w3 (w4 rfl) (by simpa using w5)))
  | false => exact st_no (wanted_of hc) (by simpa using w5)
theorem fr_gmc {args : Array Operand} {ts : Array TypeId} {g : FuncId} (w : At (gdv all σ j) fun x => GdM x want fun c => ∃ as' targs r, (c = true → args.toList.map (opd σ) = as') ∧ Pure P g targs r ∧ (c = true → DRs true (maskR T W rows0) as' targs) ∧ frontW P M (Sound P) all T W rows0 rest (i + 1) (putA dst (gv c r) σ) h N) :
    frontW P M (Sound P) all T W rows0 (⟨dst, .call ⟨.value (.func g), args, ts⟩, ty, pos, aft, some (j, want)⟩ :: rest) i σ h N := by
  obtain ⟨c, hc, as', targs, r, w1, w3, w4, w5⟩ := w
  cases c with
  | true => exact fr_yes (wanted_of hc) (fr_c (by rw [w1 rfl]; exact treeW_pure w3 (w4 rfl) (by simpa using w5)))
  | false => exact fr_no (wanted_of hc) (by simpa using w5)
/-- A guarded call of a function value. -/
theorem st_gmv {t : Tmp} {args : Array Operand} {ts : Array TypeId} (w : At (gdv all σ j) fun x => GdM x want fun c => ∃ g cap as' targs r, (c = true → opd σ (.tmp t) = .fn g cap) ∧ (c = true → args.toList.map (opd σ) = as') ∧ M g = .tree ∧ Pure P g targs r ∧ (c = true → DRs true h.rows (as' ++ cap) targs) ∧ wpOps P M (Sound P) all T rest (i + 1) (putA dst (gv c r) σ) h N) :
    wpOps P M (Sound P) all T (⟨dst, .call ⟨.value (.tmp t), args, ts⟩, ty, pos, aft, some (j, want)⟩ :: rest) i σ h N := by
  obtain ⟨c, hc, g, cap, as', targs, r, w0, w1, w2, w3, w4, w5⟩ := w
  cases c with
  | true => exact st_yes (wanted_of hc) (st_cv (by unfold At; rw [w0 rfl, w1 rfl]; exact st_tree w2 w3 (w4 rfl) (by simpa using w5)))
  | false => exact st_no (wanted_of hc) (by simpa using w5)
end

@[simp] theorem pickA_true (x y : AV) : pickA true x y = x := by unfold pickA; simp
@[simp] theorem pickA_false (x y : AV) : pickA false x y = y := by unfold pickA; simp
@[simp] theorem pickA_gt {b : Bool} {x y : AV} : pickA b (gv (gq b true) x) y = pickA b x y := by cases b <;> simp [gq]
@[simp] theorem pickA_gf {b : Bool} {x y : AV} : pickA b x (gv (gq b false) y) = pickA b x y := by cases b <;> simp [gq]
@[simp] theorem pickA_and {b p : Bool} : pickA b (.bool p) (.bool false) = .bool (b && p) := by cases b <;> simp
@[simp] theorem pickA_or {b p : Bool} : pickA b (.bool true) (.bool p) = .bool (b || p) := by cases b <;> simp
end Go.Proofs.Ytfgaoojogididaa.AM

/-
  The seat's types: how many cells, the fields, the zero values. (Printed by a program out of the translation.)
-/
namespace Go.Proofs.Ytfgaoojogididaa.AM
open Go.RowKit
@[simp] theorem tk_2 : tk Try.prog 2 = some (1, false) := by kernel_rfl
@[simp] theorem tsz_2 : tsz Try.prog 2 = some 1 := by kernel_rfl
@[simp] theorem tzero_2 : tzero Try.prog 2 = some [.int .i64 0] := by kernel_rfl
@[simp] theorem tby_2 : tby Try.prog 2 = some 8 := by kernel_rfl
@[simp] theorem und_2 : Try.prog.underlying 2 = some (.int .i64) := by kernel_rfl
@[simp] theorem tk_3 : tk Try.prog 3 = some (1, false) := by kernel_rfl
@[simp] theorem tsz_3 : tsz Try.prog 3 = some 1 := by kernel_rfl
@[simp] theorem tzero_3 : tzero Try.prog 3 = some [.int .i64 0] := by kernel_rfl
@[simp] theorem tby_3 : tby Try.prog 3 = some 8 := by kernel_rfl
@[simp] theorem und_3 : Try.prog.underlying 3 = some (.int .i64) := by kernel_rfl
@[simp] theorem tk_4 : tk Try.prog 4 = some (1, false) := by kernel_rfl
@[simp] theorem tsz_4 : tsz Try.prog 4 = some 1 := by kernel_rfl
@[simp] theorem tzero_4 : tzero Try.prog 4 = some [.bool false] := by kernel_rfl
@[simp] theorem tby_4 : tby Try.prog 4 = some 1 := by kernel_rfl
@[simp] theorem und_4 : Try.prog.underlying 4 = some .bool := by kernel_rfl
@[simp] theorem tk_5 : tk Try.prog 5 = some (1, false) := by kernel_rfl
@[simp] theorem tsz_5 : tsz Try.prog 5 = some 1 := by kernel_rfl
@[simp] theorem tzero_5 : tzero Try.prog 5 = some [.int .u8 0] := by kernel_rfl
@[simp] theorem tby_5 : tby Try.prog 5 = some 1 := by kernel_rfl
@[simp] theorem und_5 : Try.prog.underlying 5 = some (.int .u8) := by kernel_rfl
@[simp] theorem tk_6 : tk Try.prog 6 = some (1, false) := by kernel_rfl
@[simp] theorem tsz_6 : tsz Try.prog 6 = some 1 := by kernel_rfl
@[simp] theorem tzero_6 : tzero Try.prog 6 = some [.int .u8 0] := by kernel_rfl
@[simp] theorem tby_6 : tby Try.prog 6 = some 1 := by kernel_rfl
@[simp] theorem und_6 : Try.prog.underlying 6 = some (.int .u8) := by kernel_rfl
@[simp] theorem tk_7 : tk Try.prog 7 = some (4, true) := by kernel_rfl
@[simp] theorem tsz_7 : tsz Try.prog 7 = some 4 := by kernel_rfl
@[simp] theorem tzero_7 : tzero Try.prog 7 = some [.int .i64 0, .int .i64 0, .bool false, .int .u8 0] := by kernel_rfl
@[simp] theorem tby_7 : tby Try.prog 7 = some 24 := by kernel_rfl
@[simp] theorem tfld_7_0 : tfld Try.prog 7 0 = some (0, 1, 2) := by kernel_rfl
@[simp] theorem tfld_7_1 : tfld Try.prog 7 1 = some (1, 1, 3) := by kernel_rfl
@[simp] theorem tfld_7_2 : tfld Try.prog 7 2 = some (2, 1, 4) := by kernel_rfl
@[simp] theorem tfld_7_3 : tfld Try.prog 7 3 = some (3, 1, 6) := by kernel_rfl
@[simp] theorem tbuild_7 : tbuild Try.prog 7 = some ([.int .i64 0, .int .i64 0, .bool false, .int .u8 0], [(0, 1), (1, 1), (2, 1), (3, 1)]) := by kernel_rfl
@[simp] theorem tkinds_7 : tkinds Try.prog 7 = some [.i, .i, .b, .i] := by kernel_rfl
@[simp] theorem tk_8 : tk Try.prog 8 = some (4, true) := by kernel_rfl
@[simp] theorem tsz_8 : tsz Try.prog 8 = some 4 := by kernel_rfl
@[simp] theorem tzero_8 : tzero Try.prog 8 = some [.int .i64 0, .int .i64 0, .bool false, .int .u8 0] := by kernel_rfl
@[simp] theorem tby_8 : tby Try.prog 8 = some 24 := by kernel_rfl
@[simp] theorem tfld_8_0 : tfld Try.prog 8 0 = some (0, 1, 2) := by kernel_rfl
@[simp] theorem tfld_8_1 : tfld Try.prog 8 1 = some (1, 1, 3) := by kernel_rfl
@[simp] theorem tfld_8_2 : tfld Try.prog 8 2 = some (2, 1, 4) := by kernel_rfl
@[simp] theorem tfld_8_3 : tfld Try.prog 8 3 = some (3, 1, 6) := by kernel_rfl
@[simp] theorem tbuild_8 : tbuild Try.prog 8 = some ([.int .i64 0, .int .i64 0, .bool false, .int .u8 0], [(0, 1), (1, 1), (2, 1), (3, 1)]) := by kernel_rfl
@[simp] theorem tkinds_8 : tkinds Try.prog 8 = some [.i, .i, .b, .i] := by kernel_rfl
@[simp] theorem tk_9 : tk Try.prog 9 = some (1, false) := by kernel_rfl
@[simp] theorem tsz_9 : tsz Try.prog 9 = some 1 := by kernel_rfl
@[simp] theorem tzero_9 : tzero Try.prog 9 = some [.str ByteArray.empty] := by kernel_rfl
@[simp] theorem tby_9 : tby Try.prog 9 = some 16 := by kernel_rfl
@[simp] theorem und_9 : Try.prog.underlying 9 = some .string := by kernel_rfl
@[simp] theorem tk_10 : tk Try.prog 10 = some (1, false) := by kernel_rfl
@[simp] theorem tsz_10 : tsz Try.prog 10 = some 1 := by kernel_rfl
@[simp] theorem tzero_10 : tzero Try.prog 10 = some [.str ByteArray.empty] := by kernel_rfl
@[simp] theorem tby_10 : tby Try.prog 10 = some 16 := by kernel_rfl
@[simp] theorem und_10 : Try.prog.underlying 10 = some .string := by kernel_rfl
@[simp] theorem tk_11 : tk Try.prog 11 = some (1, false) := by kernel_rfl
@[simp] theorem tsz_11 : tsz Try.prog 11 = some 1 := by kernel_rfl
@[simp] theorem tzero_11 : tzero Try.prog 11 = some [.str ByteArray.empty] := by kernel_rfl
@[simp] theorem tby_11 : tby Try.prog 11 = some 16 := by kernel_rfl
@[simp] theorem und_11 : Try.prog.underlying 11 = some .string := by kernel_rfl
@[simp] theorem tk_12 : tk Try.prog 12 = some (1, false) := by kernel_rfl
@[simp] theorem tsz_12 : tsz Try.prog 12 = some 1 := by kernel_rfl
@[simp] theorem tzero_12 : tzero Try.prog 12 = some [.int .u64 0] := by kernel_rfl
@[simp] theorem tby_12 : tby Try.prog 12 = some 8 := by kernel_rfl
@[simp] theorem und_12 : Try.prog.underlying 12 = some (.int .u64) := by kernel_rfl
@[simp] theorem tk_13 : tk Try.prog 13 = some (2, true) := by kernel_rfl
@[simp] theorem tsz_13 : tsz Try.prog 13 = some 2 := by kernel_rfl
@[simp] theorem tzero_13 : tzero Try.prog 13 = some [.str ByteArray.empty, .int .u64 0] := by kernel_rfl
@[simp] theorem tby_13 : tby Try.prog 13 = some 24 := by kernel_rfl
@[simp] theorem tfld_13_0 : tfld Try.prog 13 0 = some (0, 1, 9) := by kernel_rfl
@[simp] theorem tfld_13_1 : tfld Try.prog 13 1 = some (1, 1, 12) := by kernel_rfl
@[simp] theorem tbuild_13 : tbuild Try.prog 13 = some ([.str ByteArray.empty, .int .u64 0], [(0, 1), (1, 1)]) := by kernel_rfl
@[simp] theorem tk_14 : tk Try.prog 14 = some (2, true) := by kernel_rfl
@[simp] theorem tsz_14 : tsz Try.prog 14 = some 2 := by kernel_rfl
@[simp] theorem tzero_14 : tzero Try.prog 14 = some [.str ByteArray.empty, .int .u64 0] := by kernel_rfl
@[simp] theorem tby_14 : tby Try.prog 14 = some 24 := by kernel_rfl
@[simp] theorem tfld_14_0 : tfld Try.prog 14 0 = some (0, 1, 9) := by kernel_rfl
@[simp] theorem tfld_14_1 : tfld Try.prog 14 1 = some (1, 1, 12) := by kernel_rfl
@[simp] theorem tbuild_14 : tbuild Try.prog 14 = some ([.str ByteArray.empty, .int .u64 0], [(0, 1), (1, 1)]) := by kernel_rfl
@[simp] theorem tk_15 : tk Try.prog 15 = some (1, false) := by kernel_rfl
@[simp] theorem tsz_15 : tsz Try.prog 15 = some 1 := by kernel_rfl
@[simp] theorem tzero_15 : tzero Try.prog 15 = some [.nilp] := by kernel_rfl
@[simp] theorem tby_15 : tby Try.prog 15 = some 8 := by kernel_rfl
@[simp] theorem tk_16 : tk Try.prog 16 = some (1, false) := by kernel_rfl
@[simp] theorem tsz_16 : tsz Try.prog 16 = some 1 := by kernel_rfl
@[simp] theorem tzero_16 : tzero Try.prog 16 = some [.nilp] := by kernel_rfl
@[simp] theorem tby_16 : tby Try.prog 16 = some 8 := by kernel_rfl
@[simp] theorem tk_17 : tk Try.prog 17 = some (1, false) := by kernel_rfl
@[simp] theorem tsz_17 : tsz Try.prog 17 = some 1 := by kernel_rfl
@[simp] theorem tzero_17 : tzero Try.prog 17 = some [.nilp] := by kernel_rfl
@[simp] theorem tby_17 : tby Try.prog 17 = some 8 := by kernel_rfl
@[simp] theorem tk_18 : tk Try.prog 18 = some (1, true) := by kernel_rfl
@[simp] theorem tsz_18 : tsz Try.prog 18 = some 1 := by kernel_rfl
@[simp] theorem tzero_18 : tzero Try.prog 18 = some [.nilp] := by kernel_rfl
@[simp] theorem tby_18 : tby Try.prog 18 = some 8 := by kernel_rfl
@[simp] theorem tfld_18_0 : tfld Try.prog 18 0 = some (0, 1, 17) := by kernel_rfl
@[simp] theorem tbuild_18 : tbuild Try.prog 18 = some ([.nilp], [(0, 1)]) := by kernel_rfl
@[simp] theorem tk_19 : tk Try.prog 19 = some (1, true) := by kernel_rfl
@[simp] theorem tsz_19 : tsz Try.prog 19 = some 1 := by kernel_rfl
@[simp] theorem tzero_19 : tzero Try.prog 19 = some [.nilp] := by kernel_rfl
@[simp] theorem tby_19 : tby Try.prog 19 = some 8 := by kernel_rfl
@[simp] theorem tfld_19_0 : tfld Try.prog 19 0 = some (0, 1, 17) := by kernel_rfl
@[simp] theorem tbuild_19 : tbuild Try.prog 19 = some ([.nilp], [(0, 1)]) := by kernel_rfl
@[simp] theorem tk_20 : tk Try.prog 20 = some (1, false) := by kernel_rfl
@[simp] theorem tsz_20 : tsz Try.prog 20 = some 1 := by kernel_rfl
@[simp] theorem tzero_20 : tzero Try.prog 20 = some [.nilif] := by kernel_rfl
@[simp] theorem tby_20 : tby Try.prog 20 = some 16 := by kernel_rfl
@[simp] theorem tk_21 : tk Try.prog 21 = some (1, false) := by kernel_rfl
@[simp] theorem tsz_21 : tsz Try.prog 21 = some 1 := by kernel_rfl
@[simp] theorem tzero_21 : tzero Try.prog 21 = some [.int .i32 0] := by kernel_rfl
@[simp] theorem tby_21 : tby Try.prog 21 = some 4 := by kernel_rfl
@[simp] theorem und_21 : Try.prog.underlying 21 = some (.int .i32) := by kernel_rfl
@[simp] theorem tk_22 : tk Try.prog 22 = some (1, false) := by kernel_rfl
@[simp] theorem tsz_22 : tsz Try.prog 22 = some 1 := by kernel_rfl
@[simp] theorem tzero_22 : tzero Try.prog 22 = some [.nilsl] := by kernel_rfl
@[simp] theorem tby_22 : tby Try.prog 22 = some 24 := by kernel_rfl
@[simp] theorem telem_22 : telem Try.prog 22 = some 3 := by kernel_rfl
@[simp] theorem und_22 : Try.prog.underlying 22 = some (.slice 3) := by kernel_rfl
@[simp] theorem tk_23 : tk Try.prog 23 = some (1, false) := by kernel_rfl
@[simp] theorem tsz_23 : tsz Try.prog 23 = some 1 := by kernel_rfl
@[simp] theorem tzero_23 : tzero Try.prog 23 = some [.nilsl] := by kernel_rfl
@[simp] theorem tby_23 : tby Try.prog 23 = some 24 := by kernel_rfl
@[simp] theorem telem_23 : telem Try.prog 23 = some 22 := by kernel_rfl
@[simp] theorem und_23 : Try.prog.underlying 23 = some (.slice 22) := by kernel_rfl
@[simp] theorem tk_24 : tk Try.prog 24 = some (9, true) := by kernel_rfl
@[simp] theorem tsz_24 : tsz Try.prog 24 = some 9 := by kernel_rfl
@[simp] theorem tzero_24 : tzero Try.prog 24 = some [.int .i64 0, .nilsl, .nilsl, .nilsl, .nilsl, .nilsl, .int .i64 0, .bool false, .int .i64 0] := by kernel_rfl
@[simp] theorem tby_24 : tby Try.prog 24 = some 152 := by kernel_rfl
@[simp] theorem tfld_24_0 : tfld Try.prog 24 0 = some (0, 1, 3) := by kernel_rfl
@[simp] theorem tfld_24_1 : tfld Try.prog 24 1 = some (1, 1, 22) := by kernel_rfl
@[simp] theorem tfld_24_2 : tfld Try.prog 24 2 = some (2, 1, 22) := by kernel_rfl
@[simp] theorem tfld_24_3 : tfld Try.prog 24 3 = some (3, 1, 23) := by kernel_rfl
@[simp] theorem tfld_24_4 : tfld Try.prog 24 4 = some (4, 1, 22) := by kernel_rfl
@[simp] theorem tfld_24_5 : tfld Try.prog 24 5 = some (5, 1, 22) := by kernel_rfl
@[simp] theorem tfld_24_6 : tfld Try.prog 24 6 = some (6, 1, 3) := by kernel_rfl
@[simp] theorem tfld_24_7 : tfld Try.prog 24 7 = some (7, 1, 4) := by kernel_rfl
@[simp] theorem tfld_24_8 : tfld Try.prog 24 8 = some (8, 1, 3) := by kernel_rfl
@[simp] theorem tbuild_24 : tbuild Try.prog 24 = some ([.int .i64 0, .nilsl, .nilsl, .nilsl, .nilsl, .nilsl, .int .i64 0, .bool false, .int .i64 0], [(0, 1), (1, 1), (2, 1), (3, 1), (4, 1), (5, 1), (6, 1), (7, 1), (8, 1)]) := by kernel_rfl
@[simp] theorem tk_25 : tk Try.prog 25 = some (9, true) := by kernel_rfl
@[simp] theorem tsz_25 : tsz Try.prog 25 = some 9 := by kernel_rfl
@[simp] theorem tzero_25 : tzero Try.prog 25 = some [.int .i64 0, .nilsl, .nilsl, .nilsl, .nilsl, .nilsl, .int .i64 0, .bool false, .int .i64 0] := by kernel_rfl
@[simp] theorem tby_25 : tby Try.prog 25 = some 152 := by kernel_rfl
@[simp] theorem tfld_25_0 : tfld Try.prog 25 0 = some (0, 1, 3) := by kernel_rfl
@[simp] theorem tfld_25_1 : tfld Try.prog 25 1 = some (1, 1, 22) := by kernel_rfl
@[simp] theorem tfld_25_2 : tfld Try.prog 25 2 = some (2, 1, 22) := by kernel_rfl
@[simp] theorem tfld_25_3 : tfld Try.prog 25 3 = some (3, 1, 23) := by kernel_rfl
@[simp] theorem tfld_25_4 : tfld Try.prog 25 4 = some (4, 1, 22) := by kernel_rfl
@[simp] theorem tfld_25_5 : tfld Try.prog 25 5 = some (5, 1, 22) := by kernel_rfl
@[simp] theorem tfld_25_6 : tfld Try.prog 25 6 = some (6, 1, 3) := by kernel_rfl
@[simp] theorem tfld_25_7 : tfld Try.prog 25 7 = some (7, 1, 4) := by kernel_rfl
@[simp] theorem tfld_25_8 : tfld Try.prog 25 8 = some (8, 1, 3) := by kernel_rfl
@[simp] theorem tbuild_25 : tbuild Try.prog 25 = some ([.int .i64 0, .nilsl, .nilsl, .nilsl, .nilsl, .nilsl, .int .i64 0, .bool false, .int .i64 0], [(0, 1), (1, 1), (2, 1), (3, 1), (4, 1), (5, 1), (6, 1), (7, 1), (8, 1)]) := by kernel_rfl
@[simp] theorem tk_27 : tk Try.prog 27 = some (3, true) := by kernel_rfl
@[simp] theorem tsz_27 : tsz Try.prog 27 = some 3 := by kernel_rfl
@[simp] theorem tzero_27 : tzero Try.prog 27 = some [.int .i64 0, .int .i64 0, .nilsl] := by kernel_rfl
@[simp] theorem tby_27 : tby Try.prog 27 = some 40 := by kernel_rfl
@[simp] theorem tfld_27_0 : tfld Try.prog 27 0 = some (0, 1, 3) := by kernel_rfl
@[simp] theorem tfld_27_1 : tfld Try.prog 27 1 = some (1, 1, 3) := by kernel_rfl
@[simp] theorem tfld_27_2 : tfld Try.prog 27 2 = some (2, 1, 22) := by kernel_rfl
@[simp] theorem tbuild_27 : tbuild Try.prog 27 = some ([.int .i64 0, .int .i64 0, .nilsl], [(0, 1), (1, 1), (2, 1)]) := by kernel_rfl
@[simp] theorem tk_28 : tk Try.prog 28 = some (3, true) := by kernel_rfl
@[simp] theorem tsz_28 : tsz Try.prog 28 = some 3 := by kernel_rfl
@[simp] theorem tzero_28 : tzero Try.prog 28 = some [.int .i64 0, .int .i64 0, .nilsl] := by kernel_rfl
@[simp] theorem tby_28 : tby Try.prog 28 = some 40 := by kernel_rfl
@[simp] theorem tfld_28_0 : tfld Try.prog 28 0 = some (0, 1, 3) := by kernel_rfl
@[simp] theorem tfld_28_1 : tfld Try.prog 28 1 = some (1, 1, 3) := by kernel_rfl
@[simp] theorem tfld_28_2 : tfld Try.prog 28 2 = some (2, 1, 22) := by kernel_rfl
@[simp] theorem tbuild_28 : tbuild Try.prog 28 = some ([.int .i64 0, .int .i64 0, .nilsl], [(0, 1), (1, 1), (2, 1)]) := by kernel_rfl
@[simp] theorem tk_30 : tk Try.prog 30 = some (9, true) := by kernel_rfl
@[simp] theorem tsz_30 : tsz Try.prog 30 = some 9 := by kernel_rfl
@[simp] theorem tzero_30 : tzero Try.prog 30 = some [.int .i64 0, .nilsl, .nilsl, .nilsl, .nilsl, .nilsl, .int .i64 0, .bool false, .int .i64 0] := by kernel_rfl
@[simp] theorem tby_30 : tby Try.prog 30 = some 152 := by kernel_rfl
@[simp] theorem tfld_30_0 : tfld Try.prog 30 0 = some (0, 1, 3) := by kernel_rfl
@[simp] theorem tfld_30_1 : tfld Try.prog 30 1 = some (1, 1, 22) := by kernel_rfl
@[simp] theorem tfld_30_2 : tfld Try.prog 30 2 = some (2, 1, 22) := by kernel_rfl
@[simp] theorem tfld_30_3 : tfld Try.prog 30 3 = some (3, 1, 23) := by kernel_rfl
@[simp] theorem tfld_30_4 : tfld Try.prog 30 4 = some (4, 1, 22) := by kernel_rfl
@[simp] theorem tfld_30_5 : tfld Try.prog 30 5 = some (5, 1, 22) := by kernel_rfl
@[simp] theorem tfld_30_6 : tfld Try.prog 30 6 = some (6, 1, 3) := by kernel_rfl
@[simp] theorem tfld_30_7 : tfld Try.prog 30 7 = some (7, 1, 4) := by kernel_rfl
@[simp] theorem tfld_30_8 : tfld Try.prog 30 8 = some (8, 1, 3) := by kernel_rfl
@[simp] theorem tbuild_30 : tbuild Try.prog 30 = some ([.int .i64 0, .nilsl, .nilsl, .nilsl, .nilsl, .nilsl, .int .i64 0, .bool false, .int .i64 0], [(0, 1), (1, 1), (2, 1), (3, 1), (4, 1), (5, 1), (6, 1), (7, 1), (8, 1)]) := by kernel_rfl
@[simp] theorem tk_37 : tk Try.prog 37 = some (1, false) := by kernel_rfl
@[simp] theorem tsz_37 : tsz Try.prog 37 = some 1 := by kernel_rfl
@[simp] theorem tzero_37 : tzero Try.prog 37 = some [.nilsl] := by kernel_rfl
@[simp] theorem tby_37 : tby Try.prog 37 = some 24 := by kernel_rfl
@[simp] theorem telem_37 : telem Try.prog 37 = some 94 := by kernel_rfl
@[simp] theorem und_37 : Try.prog.underlying 37 = some (.slice 94) := by kernel_rfl
@[simp] theorem tk_38 : tk Try.prog 38 = some (4, true) := by kernel_rfl
@[simp] theorem tsz_38 : tsz Try.prog 38 = some 4 := by kernel_rfl
@[simp] theorem tzero_38 : tzero Try.prog 38 = some [.nilsl, .int .i64 0, .int .i64 0, .nilsl] := by kernel_rfl
@[simp] theorem tby_38 : tby Try.prog 38 = some 64 := by kernel_rfl
@[simp] theorem tfld_38_0 : tfld Try.prog 38 0 = some (0, 1, 22) := by kernel_rfl
@[simp] theorem tfld_38_1 : tfld Try.prog 38 1 = some (1, 1, 3) := by kernel_rfl
@[simp] theorem tfld_38_2 : tfld Try.prog 38 2 = some (2, 1, 3) := by kernel_rfl
@[simp] theorem tfld_38_3 : tfld Try.prog 38 3 = some (3, 1, 37) := by kernel_rfl
@[simp] theorem tbuild_38 : tbuild Try.prog 38 = some ([.nilsl, .int .i64 0, .int .i64 0, .nilsl], [(0, 1), (1, 1), (2, 1), (3, 1)]) := by kernel_rfl
@[simp] theorem tk_39 : tk Try.prog 39 = some (4, true) := by kernel_rfl
@[simp] theorem tsz_39 : tsz Try.prog 39 = some 4 := by kernel_rfl
@[simp] theorem tzero_39 : tzero Try.prog 39 = some [.nilsl, .int .i64 0, .int .i64 0, .nilsl] := by kernel_rfl
@[simp] theorem tby_39 : tby Try.prog 39 = some 64 := by kernel_rfl
@[simp] theorem tfld_39_0 : tfld Try.prog 39 0 = some (0, 1, 22) := by kernel_rfl
@[simp] theorem tfld_39_1 : tfld Try.prog 39 1 = some (1, 1, 3) := by kernel_rfl
@[simp] theorem tfld_39_2 : tfld Try.prog 39 2 = some (2, 1, 3) := by kernel_rfl
@[simp] theorem tfld_39_3 : tfld Try.prog 39 3 = some (3, 1, 37) := by kernel_rfl
@[simp] theorem tbuild_39 : tbuild Try.prog 39 = some ([.nilsl, .int .i64 0, .int .i64 0, .nilsl], [(0, 1), (1, 1), (2, 1), (3, 1)]) := by kernel_rfl
@[simp] theorem tk_42 : tk Try.prog 42 = some (1, false) := by kernel_rfl
@[simp] theorem tsz_42 : tsz Try.prog 42 = some 1 := by kernel_rfl
@[simp] theorem tzero_42 : tzero Try.prog 42 = some [.nilsl] := by kernel_rfl
@[simp] theorem tby_42 : tby Try.prog 42 = some 24 := by kernel_rfl
@[simp] theorem telem_42 : telem Try.prog 42 = some 92 := by kernel_rfl
@[simp] theorem und_42 : Try.prog.underlying 42 = some (.slice 92) := by kernel_rfl
@[simp] theorem tk_43 : tk Try.prog 43 = some (4, true) := by kernel_rfl
@[simp] theorem tsz_43 : tsz Try.prog 43 = some 4 := by kernel_rfl
@[simp] theorem tzero_43 : tzero Try.prog 43 = some [.nilsl, .int .i64 0, .int .i64 0, .nilsl] := by kernel_rfl
@[simp] theorem tby_43 : tby Try.prog 43 = some 64 := by kernel_rfl
@[simp] theorem tfld_43_0 : tfld Try.prog 43 0 = some (0, 1, 22) := by kernel_rfl
@[simp] theorem tfld_43_1 : tfld Try.prog 43 1 = some (1, 1, 3) := by kernel_rfl
@[simp] theorem tfld_43_2 : tfld Try.prog 43 2 = some (2, 1, 3) := by kernel_rfl
@[simp] theorem tfld_43_3 : tfld Try.prog 43 3 = some (3, 1, 42) := by kernel_rfl
@[simp] theorem tbuild_43 : tbuild Try.prog 43 = some ([.nilsl, .int .i64 0, .int .i64 0, .nilsl], [(0, 1), (1, 1), (2, 1), (3, 1)]) := by kernel_rfl
@[simp] theorem tk_44 : tk Try.prog 44 = some (4, true) := by kernel_rfl
@[simp] theorem tsz_44 : tsz Try.prog 44 = some 4 := by kernel_rfl
@[simp] theorem tzero_44 : tzero Try.prog 44 = some [.nilsl, .int .i64 0, .int .i64 0, .nilsl] := by kernel_rfl
@[simp] theorem tby_44 : tby Try.prog 44 = some 64 := by kernel_rfl
@[simp] theorem tfld_44_0 : tfld Try.prog 44 0 = some (0, 1, 22) := by kernel_rfl
@[simp] theorem tfld_44_1 : tfld Try.prog 44 1 = some (1, 1, 3) := by kernel_rfl
@[simp] theorem tfld_44_2 : tfld Try.prog 44 2 = some (2, 1, 3) := by kernel_rfl
@[simp] theorem tfld_44_3 : tfld Try.prog 44 3 = some (3, 1, 42) := by kernel_rfl
@[simp] theorem tbuild_44 : tbuild Try.prog 44 = some ([.nilsl, .int .i64 0, .int .i64 0, .nilsl], [(0, 1), (1, 1), (2, 1), (3, 1)]) := by kernel_rfl
@[simp] theorem tk_76 : tk Try.prog 76 = some (1, false) := by kernel_rfl
@[simp] theorem tsz_76 : tsz Try.prog 76 = some 1 := by kernel_rfl
@[simp] theorem tzero_76 : tzero Try.prog 76 = some [.nilp] := by kernel_rfl
@[simp] theorem tby_76 : tby Try.prog 76 = some 8 := by kernel_rfl
@[simp] theorem tk_78 : tk Try.prog 78 = some (11, true) := by kernel_rfl
@[simp] theorem tsz_78 : tsz Try.prog 78 = some 11 := by kernel_rfl
@[simp] theorem tzero_78 : tzero Try.prog 78 = some [.int .i64 0, .nilsl, .nilsl, .nilsl, .nilsl, .nilsl, .int .i64 0, .bool false, .int .i64 0, .int .i64 0, .bool false] := by kernel_rfl
@[simp] theorem tby_78 : tby Try.prog 78 = some 168 := by kernel_rfl
@[simp] theorem tfld_78_0 : tfld Try.prog 78 0 = some (0, 9, 30) := by kernel_rfl
@[simp] theorem tfld_78_1 : tfld Try.prog 78 1 = some (9, 1, 3) := by kernel_rfl
@[simp] theorem tfld_78_2 : tfld Try.prog 78 2 = some (10, 1, 4) := by kernel_rfl
@[simp] theorem tbuild_78 : tbuild Try.prog 78 = some ([.int .i64 0, .nilsl, .nilsl, .nilsl, .nilsl, .nilsl, .int .i64 0, .bool false, .int .i64 0, .int .i64 0, .bool false], [(0, 9), (9, 1), (10, 1)]) := by kernel_rfl
@[simp] theorem tk_79 : tk Try.prog 79 = some (11, true) := by kernel_rfl
@[simp] theorem tsz_79 : tsz Try.prog 79 = some 11 := by kernel_rfl
@[simp] theorem tzero_79 : tzero Try.prog 79 = some [.int .i64 0, .nilsl, .nilsl, .nilsl, .nilsl, .nilsl, .int .i64 0, .bool false, .int .i64 0, .int .i64 0, .bool false] := by kernel_rfl
@[simp] theorem tby_79 : tby Try.prog 79 = some 168 := by kernel_rfl
@[simp] theorem tfld_79_0 : tfld Try.prog 79 0 = some (0, 9, 30) := by kernel_rfl
@[simp] theorem tfld_79_1 : tfld Try.prog 79 1 = some (9, 1, 3) := by kernel_rfl
@[simp] theorem tfld_79_2 : tfld Try.prog 79 2 = some (10, 1, 4) := by kernel_rfl
@[simp] theorem tbuild_79 : tbuild Try.prog 79 = some ([.int .i64 0, .nilsl, .nilsl, .nilsl, .nilsl, .nilsl, .int .i64 0, .bool false, .int .i64 0, .int .i64 0, .bool false], [(0, 9), (9, 1), (10, 1)]) := by kernel_rfl
@[simp] theorem tk_80 : tk Try.prog 80 = some (1, false) := by kernel_rfl
@[simp] theorem tsz_80 : tsz Try.prog 80 = some 1 := by kernel_rfl
@[simp] theorem tzero_80 : tzero Try.prog 80 = some [.nilp] := by kernel_rfl
@[simp] theorem tby_80 : tby Try.prog 80 = some 8 := by kernel_rfl
@[simp] theorem tk_83 : tk Try.prog 83 = some (8, true) := by kernel_rfl
@[simp] theorem tsz_83 : tsz Try.prog 83 = some 8 := by kernel_rfl
@[simp] theorem tzero_83 : tzero Try.prog 83 = some [.nilsl, .nilsl, .nilsl, .int .i64 0, .int .i64 0, .bool false, .int .i64 0, .nilsl] := by kernel_rfl
@[simp] theorem tby_83 : tby Try.prog 83 = some 128 := by kernel_rfl
@[simp] theorem tfld_83_0 : tfld Try.prog 83 0 = some (0, 1, 23) := by kernel_rfl
@[simp] theorem tfld_83_1 : tfld Try.prog 83 1 = some (1, 1, 22) := by kernel_rfl
@[simp] theorem tfld_83_2 : tfld Try.prog 83 2 = some (2, 1, 22) := by kernel_rfl
@[simp] theorem tfld_83_3 : tfld Try.prog 83 3 = some (3, 1, 3) := by kernel_rfl
@[simp] theorem tfld_83_4 : tfld Try.prog 83 4 = some (4, 1, 3) := by kernel_rfl
@[simp] theorem tfld_83_5 : tfld Try.prog 83 5 = some (5, 1, 4) := by kernel_rfl
@[simp] theorem tfld_83_6 : tfld Try.prog 83 6 = some (6, 1, 3) := by kernel_rfl
@[simp] theorem tfld_83_7 : tfld Try.prog 83 7 = some (7, 1, 22) := by kernel_rfl
@[simp] theorem tbuild_83 : tbuild Try.prog 83 = some ([.nilsl, .nilsl, .nilsl, .int .i64 0, .int .i64 0, .bool false, .int .i64 0, .nilsl], [(0, 1), (1, 1), (2, 1), (3, 1), (4, 1), (5, 1), (6, 1), (7, 1)]) := by kernel_rfl
@[simp] theorem tk_84 : tk Try.prog 84 = some (8, true) := by kernel_rfl
@[simp] theorem tsz_84 : tsz Try.prog 84 = some 8 := by kernel_rfl
@[simp] theorem tzero_84 : tzero Try.prog 84 = some [.nilsl, .nilsl, .nilsl, .int .i64 0, .int .i64 0, .bool false, .int .i64 0, .nilsl] := by kernel_rfl
@[simp] theorem tby_84 : tby Try.prog 84 = some 128 := by kernel_rfl
@[simp] theorem tfld_84_0 : tfld Try.prog 84 0 = some (0, 1, 23) := by kernel_rfl
@[simp] theorem tfld_84_1 : tfld Try.prog 84 1 = some (1, 1, 22) := by kernel_rfl
@[simp] theorem tfld_84_2 : tfld Try.prog 84 2 = some (2, 1, 22) := by kernel_rfl
@[simp] theorem tfld_84_3 : tfld Try.prog 84 3 = some (3, 1, 3) := by kernel_rfl
@[simp] theorem tfld_84_4 : tfld Try.prog 84 4 = some (4, 1, 3) := by kernel_rfl
@[simp] theorem tfld_84_5 : tfld Try.prog 84 5 = some (5, 1, 4) := by kernel_rfl
@[simp] theorem tfld_84_6 : tfld Try.prog 84 6 = some (6, 1, 3) := by kernel_rfl
@[simp] theorem tfld_84_7 : tfld Try.prog 84 7 = some (7, 1, 22) := by kernel_rfl
@[simp] theorem tbuild_84 : tbuild Try.prog 84 = some ([.nilsl, .nilsl, .nilsl, .int .i64 0, .int .i64 0, .bool false, .int .i64 0, .nilsl], [(0, 1), (1, 1), (2, 1), (3, 1), (4, 1), (5, 1), (6, 1), (7, 1)]) := by kernel_rfl
@[simp] theorem tk_89 : tk Try.prog 89 = some (1, false) := by kernel_rfl
@[simp] theorem tsz_89 : tsz Try.prog 89 = some 1 := by kernel_rfl
@[simp] theorem tzero_89 : tzero Try.prog 89 = some [.nilp] := by kernel_rfl
@[simp] theorem tby_89 : tby Try.prog 89 = some 8 := by kernel_rfl
@[simp] theorem tk_91 : tk Try.prog 91 = some (5, true) := by kernel_rfl
@[simp] theorem tsz_91 : tsz Try.prog 91 = some 5 := by kernel_rfl
@[simp] theorem tzero_91 : tzero Try.prog 91 = some [.int .i64 0, .int .i64 0, .int .i64 0, .int .i64 0, .int .i64 0] := by kernel_rfl
@[simp] theorem tby_91 : tby Try.prog 91 = some 40 := by kernel_rfl
@[simp] theorem tfld_91_0 : tfld Try.prog 91 0 = some (0, 1, 3) := by kernel_rfl
@[simp] theorem tfld_91_1 : tfld Try.prog 91 1 = some (1, 1, 3) := by kernel_rfl
@[simp] theorem tfld_91_2 : tfld Try.prog 91 2 = some (2, 1, 3) := by kernel_rfl
@[simp] theorem tfld_91_3 : tfld Try.prog 91 3 = some (3, 1, 3) := by kernel_rfl
@[simp] theorem tfld_91_4 : tfld Try.prog 91 4 = some (4, 1, 3) := by kernel_rfl
@[simp] theorem tbuild_91 : tbuild Try.prog 91 = some ([.int .i64 0, .int .i64 0, .int .i64 0, .int .i64 0, .int .i64 0], [(0, 1), (1, 1), (2, 1), (3, 1), (4, 1)]) := by kernel_rfl
@[simp] theorem tkinds_91 : tkinds Try.prog 91 = some [.i, .i, .i, .i, .i] := by kernel_rfl
@[simp] theorem tk_92 : tk Try.prog 92 = some (5, true) := by kernel_rfl
@[simp] theorem tsz_92 : tsz Try.prog 92 = some 5 := by kernel_rfl
@[simp] theorem tzero_92 : tzero Try.prog 92 = some [.int .i64 0, .int .i64 0, .int .i64 0, .int .i64 0, .int .i64 0] := by kernel_rfl
@[simp] theorem tby_92 : tby Try.prog 92 = some 40 := by kernel_rfl
@[simp] theorem tfld_92_0 : tfld Try.prog 92 0 = some (0, 1, 3) := by kernel_rfl
@[simp] theorem tfld_92_1 : tfld Try.prog 92 1 = some (1, 1, 3) := by kernel_rfl
@[simp] theorem tfld_92_2 : tfld Try.prog 92 2 = some (2, 1, 3) := by kernel_rfl
@[simp] theorem tfld_92_3 : tfld Try.prog 92 3 = some (3, 1, 3) := by kernel_rfl
@[simp] theorem tfld_92_4 : tfld Try.prog 92 4 = some (4, 1, 3) := by kernel_rfl
@[simp] theorem tbuild_92 : tbuild Try.prog 92 = some ([.int .i64 0, .int .i64 0, .int .i64 0, .int .i64 0, .int .i64 0], [(0, 1), (1, 1), (2, 1), (3, 1), (4, 1)]) := by kernel_rfl
@[simp] theorem tkinds_92 : tkinds Try.prog 92 = some [.i, .i, .i, .i, .i] := by kernel_rfl
@[simp] theorem tk_94 : tk Try.prog 94 = some (5, true) := by kernel_rfl
@[simp] theorem tsz_94 : tsz Try.prog 94 = some 5 := by kernel_rfl
@[simp] theorem tzero_94 : tzero Try.prog 94 = some [.int .i64 0, .int .i64 0, .int .i64 0, .int .i64 0, .int .i64 0] := by kernel_rfl
@[simp] theorem tby_94 : tby Try.prog 94 = some 40 := by kernel_rfl
@[simp] theorem tfld_94_0 : tfld Try.prog 94 0 = some (0, 1, 3) := by kernel_rfl
@[simp] theorem tfld_94_1 : tfld Try.prog 94 1 = some (1, 1, 3) := by kernel_rfl
@[simp] theorem tfld_94_2 : tfld Try.prog 94 2 = some (2, 1, 3) := by kernel_rfl
@[simp] theorem tfld_94_3 : tfld Try.prog 94 3 = some (3, 1, 3) := by kernel_rfl
@[simp] theorem tfld_94_4 : tfld Try.prog 94 4 = some (4, 1, 3) := by kernel_rfl
@[simp] theorem tbuild_94 : tbuild Try.prog 94 = some ([.int .i64 0, .int .i64 0, .int .i64 0, .int .i64 0, .int .i64 0], [(0, 1), (1, 1), (2, 1), (3, 1), (4, 1)]) := by kernel_rfl
@[simp] theorem tkinds_94 : tkinds Try.prog 94 = some [.i, .i, .i, .i, .i] := by kernel_rfl
@[simp] theorem tk_101 : tk Try.prog 101 = some (1, false) := by kernel_rfl
@[simp] theorem tsz_101 : tsz Try.prog 101 = some 1 := by kernel_rfl
@[simp] theorem tzero_101 : tzero Try.prog 101 = some [.nilsl] := by kernel_rfl
@[simp] theorem tby_101 : tby Try.prog 101 = some 24 := by kernel_rfl
@[simp] theorem telem_101 : telem Try.prog 101 = some 9 := by kernel_rfl
@[simp] theorem und_101 : Try.prog.underlying 101 = some (.slice 9) := by kernel_rfl
@[simp] theorem tk_104 : tk Try.prog 104 = some (1, false) := by kernel_rfl
@[simp] theorem tsz_104 : tsz Try.prog 104 = some 1 := by kernel_rfl
@[simp] theorem tzero_104 : tzero Try.prog 104 = some [.nilsl] := by kernel_rfl
@[simp] theorem tby_104 : tby Try.prog 104 = some 24 := by kernel_rfl
@[simp] theorem telem_104 : telem Try.prog 104 = some 119 := by kernel_rfl
@[simp] theorem und_104 : Try.prog.underlying 104 = some (.slice 119) := by kernel_rfl
@[simp] theorem tk_105 : tk Try.prog 105 = some (4, true) := by kernel_rfl
@[simp] theorem tsz_105 : tsz Try.prog 105 = some 4 := by kernel_rfl
@[simp] theorem tzero_105 : tzero Try.prog 105 = some [.nilsl, .int .i64 0, .int .i64 0, .nilsl] := by kernel_rfl
@[simp] theorem tby_105 : tby Try.prog 105 = some 64 := by kernel_rfl
@[simp] theorem tfld_105_0 : tfld Try.prog 105 0 = some (0, 1, 22) := by kernel_rfl
@[simp] theorem tfld_105_1 : tfld Try.prog 105 1 = some (1, 1, 3) := by kernel_rfl
@[simp] theorem tfld_105_2 : tfld Try.prog 105 2 = some (2, 1, 3) := by kernel_rfl
@[simp] theorem tfld_105_3 : tfld Try.prog 105 3 = some (3, 1, 104) := by kernel_rfl
@[simp] theorem tbuild_105 : tbuild Try.prog 105 = some ([.nilsl, .int .i64 0, .int .i64 0, .nilsl], [(0, 1), (1, 1), (2, 1), (3, 1)]) := by kernel_rfl
@[simp] theorem tk_106 : tk Try.prog 106 = some (4, true) := by kernel_rfl
@[simp] theorem tsz_106 : tsz Try.prog 106 = some 4 := by kernel_rfl
@[simp] theorem tzero_106 : tzero Try.prog 106 = some [.nilsl, .int .i64 0, .int .i64 0, .nilsl] := by kernel_rfl
@[simp] theorem tby_106 : tby Try.prog 106 = some 64 := by kernel_rfl
@[simp] theorem tfld_106_0 : tfld Try.prog 106 0 = some (0, 1, 22) := by kernel_rfl
@[simp] theorem tfld_106_1 : tfld Try.prog 106 1 = some (1, 1, 3) := by kernel_rfl
@[simp] theorem tfld_106_2 : tfld Try.prog 106 2 = some (2, 1, 3) := by kernel_rfl
@[simp] theorem tfld_106_3 : tfld Try.prog 106 3 = some (3, 1, 104) := by kernel_rfl
@[simp] theorem tbuild_106 : tbuild Try.prog 106 = some ([.nilsl, .int .i64 0, .int .i64 0, .nilsl], [(0, 1), (1, 1), (2, 1), (3, 1)]) := by kernel_rfl
@[simp] theorem tk_117 : tk Try.prog 117 = some (1, false) := by kernel_rfl
@[simp] theorem tsz_117 : tsz Try.prog 117 = some 1 := by kernel_rfl
@[simp] theorem tzero_117 : tzero Try.prog 117 = some [.nilsl] := by kernel_rfl
@[simp] theorem tby_117 : tby Try.prog 117 = some 24 := by kernel_rfl
@[simp] theorem telem_117 : telem Try.prog 117 = some 123 := by kernel_rfl
@[simp] theorem und_117 : Try.prog.underlying 117 = some (.slice 123) := by kernel_rfl
@[simp] theorem tk_118 : tk Try.prog 118 = some (6, true) := by kernel_rfl
@[simp] theorem tsz_118 : tsz Try.prog 118 = some 6 := by kernel_rfl
@[simp] theorem tzero_118 : tzero Try.prog 118 = some [.int .i64 0, .int .i64 0, .int .i64 0, .nilsl, .nilsl, .nilsl] := by kernel_rfl
@[simp] theorem tby_118 : tby Try.prog 118 = some 96 := by kernel_rfl
@[simp] theorem tfld_118_0 : tfld Try.prog 118 0 = some (0, 1, 3) := by kernel_rfl
@[simp] theorem tfld_118_1 : tfld Try.prog 118 1 = some (1, 1, 3) := by kernel_rfl
@[simp] theorem tfld_118_2 : tfld Try.prog 118 2 = some (2, 1, 3) := by kernel_rfl
@[simp] theorem tfld_118_3 : tfld Try.prog 118 3 = some (3, 1, 117) := by kernel_rfl
@[simp] theorem tfld_118_4 : tfld Try.prog 118 4 = some (4, 1, 104) := by kernel_rfl
@[simp] theorem tfld_118_5 : tfld Try.prog 118 5 = some (5, 1, 104) := by kernel_rfl
@[simp] theorem tbuild_118 : tbuild Try.prog 118 = some ([.int .i64 0, .int .i64 0, .int .i64 0, .nilsl, .nilsl, .nilsl], [(0, 1), (1, 1), (2, 1), (3, 1), (4, 1), (5, 1)]) := by kernel_rfl
@[simp] theorem tk_119 : tk Try.prog 119 = some (6, true) := by kernel_rfl
@[simp] theorem tsz_119 : tsz Try.prog 119 = some 6 := by kernel_rfl
@[simp] theorem tzero_119 : tzero Try.prog 119 = some [.int .i64 0, .int .i64 0, .int .i64 0, .nilsl, .nilsl, .nilsl] := by kernel_rfl
@[simp] theorem tby_119 : tby Try.prog 119 = some 96 := by kernel_rfl
@[simp] theorem tfld_119_0 : tfld Try.prog 119 0 = some (0, 1, 3) := by kernel_rfl
@[simp] theorem tfld_119_1 : tfld Try.prog 119 1 = some (1, 1, 3) := by kernel_rfl
@[simp] theorem tfld_119_2 : tfld Try.prog 119 2 = some (2, 1, 3) := by kernel_rfl
@[simp] theorem tfld_119_3 : tfld Try.prog 119 3 = some (3, 1, 117) := by kernel_rfl
@[simp] theorem tfld_119_4 : tfld Try.prog 119 4 = some (4, 1, 104) := by kernel_rfl
@[simp] theorem tfld_119_5 : tfld Try.prog 119 5 = some (5, 1, 104) := by kernel_rfl
@[simp] theorem tbuild_119 : tbuild Try.prog 119 = some ([.int .i64 0, .int .i64 0, .int .i64 0, .nilsl, .nilsl, .nilsl], [(0, 1), (1, 1), (2, 1), (3, 1), (4, 1), (5, 1)]) := by kernel_rfl
@[simp] theorem tk_122 : tk Try.prog 122 = some (5, true) := by kernel_rfl
@[simp] theorem tsz_122 : tsz Try.prog 122 = some 5 := by kernel_rfl
@[simp] theorem tzero_122 : tzero Try.prog 122 = some [.int .i64 0, .int .i64 0, .int .i64 0, .str ByteArray.empty, .nilsl] := by kernel_rfl
@[simp] theorem tby_122 : tby Try.prog 122 = some 64 := by kernel_rfl
@[simp] theorem tfld_122_0 : tfld Try.prog 122 0 = some (0, 1, 3) := by kernel_rfl
@[simp] theorem tfld_122_1 : tfld Try.prog 122 1 = some (1, 1, 3) := by kernel_rfl
@[simp] theorem tfld_122_2 : tfld Try.prog 122 2 = some (2, 1, 3) := by kernel_rfl
@[simp] theorem tfld_122_3 : tfld Try.prog 122 3 = some (3, 1, 9) := by kernel_rfl
@[simp] theorem tfld_122_4 : tfld Try.prog 122 4 = some (4, 1, 117) := by kernel_rfl
@[simp] theorem tbuild_122 : tbuild Try.prog 122 = some ([.int .i64 0, .int .i64 0, .int .i64 0, .str ByteArray.empty, .nilsl], [(0, 1), (1, 1), (2, 1), (3, 1), (4, 1)]) := by kernel_rfl
@[simp] theorem tk_123 : tk Try.prog 123 = some (5, true) := by kernel_rfl
@[simp] theorem tsz_123 : tsz Try.prog 123 = some 5 := by kernel_rfl
@[simp] theorem tzero_123 : tzero Try.prog 123 = some [.int .i64 0, .int .i64 0, .int .i64 0, .str ByteArray.empty, .nilsl] := by kernel_rfl
@[simp] theorem tby_123 : tby Try.prog 123 = some 64 := by kernel_rfl
@[simp] theorem tfld_123_0 : tfld Try.prog 123 0 = some (0, 1, 3) := by kernel_rfl
@[simp] theorem tfld_123_1 : tfld Try.prog 123 1 = some (1, 1, 3) := by kernel_rfl
@[simp] theorem tfld_123_2 : tfld Try.prog 123 2 = some (2, 1, 3) := by kernel_rfl
@[simp] theorem tfld_123_3 : tfld Try.prog 123 3 = some (3, 1, 9) := by kernel_rfl
@[simp] theorem tfld_123_4 : tfld Try.prog 123 4 = some (4, 1, 117) := by kernel_rfl
@[simp] theorem tbuild_123 : tbuild Try.prog 123 = some ([.int .i64 0, .int .i64 0, .int .i64 0, .str ByteArray.empty, .nilsl], [(0, 1), (1, 1), (2, 1), (3, 1), (4, 1)]) := by kernel_rfl
@[simp] theorem tk_131 : tk Try.prog 131 = some (4, true) := by kernel_rfl
@[simp] theorem tsz_131 : tsz Try.prog 131 = some 4 := by kernel_rfl
@[simp] theorem tzero_131 : tzero Try.prog 131 = some [.nilp, .nilp, .nilp, .str ByteArray.empty] := by kernel_rfl
@[simp] theorem tby_131 : tby Try.prog 131 = some 40 := by kernel_rfl
@[simp] theorem tfld_131_0 : tfld Try.prog 131 0 = some (0, 1, 17) := by kernel_rfl
@[simp] theorem tfld_131_1 : tfld Try.prog 131 1 = some (1, 1, 17) := by kernel_rfl
@[simp] theorem tfld_131_2 : tfld Try.prog 131 2 = some (2, 1, 17) := by kernel_rfl
@[simp] theorem tfld_131_3 : tfld Try.prog 131 3 = some (3, 1, 9) := by kernel_rfl
@[simp] theorem tbuild_131 : tbuild Try.prog 131 = some ([.nilp, .nilp, .nilp, .str ByteArray.empty], [(0, 1), (1, 1), (2, 1), (3, 1)]) := by kernel_rfl
@[simp] theorem tk_132 : tk Try.prog 132 = some (4, true) := by kernel_rfl
@[simp] theorem tsz_132 : tsz Try.prog 132 = some 4 := by kernel_rfl
@[simp] theorem tzero_132 : tzero Try.prog 132 = some [.nilp, .nilp, .nilp, .str ByteArray.empty] := by kernel_rfl
@[simp] theorem tby_132 : tby Try.prog 132 = some 40 := by kernel_rfl
@[simp] theorem tfld_132_0 : tfld Try.prog 132 0 = some (0, 1, 17) := by kernel_rfl
@[simp] theorem tfld_132_1 : tfld Try.prog 132 1 = some (1, 1, 17) := by kernel_rfl
@[simp] theorem tfld_132_2 : tfld Try.prog 132 2 = some (2, 1, 17) := by kernel_rfl
@[simp] theorem tfld_132_3 : tfld Try.prog 132 3 = some (3, 1, 9) := by kernel_rfl
@[simp] theorem tbuild_132 : tbuild Try.prog 132 = some ([.nilp, .nilp, .nilp, .str ByteArray.empty], [(0, 1), (1, 1), (2, 1), (3, 1)]) := by kernel_rfl
@[simp] theorem tk_133 : tk Try.prog 133 = some (0, true) := by kernel_rfl
@[simp] theorem tsz_133 : tsz Try.prog 133 = some 0 := by kernel_rfl
@[simp] theorem tzero_133 : tzero Try.prog 133 = some [] := by kernel_rfl
@[simp] theorem tby_133 : tby Try.prog 133 = some 0 := by kernel_rfl
@[simp] theorem tk_134 : tk Try.prog 134 = some (0, true) := by kernel_rfl
@[simp] theorem tsz_134 : tsz Try.prog 134 = some 0 := by kernel_rfl
@[simp] theorem tzero_134 : tzero Try.prog 134 = some [] := by kernel_rfl
@[simp] theorem tby_134 : tby Try.prog 134 = some 0 := by kernel_rfl
@[simp] theorem tfld_134_0 : tfld Try.prog 134 0 = some (0, 0, 133) := by kernel_rfl
@[simp] theorem tbuild_134 : tbuild Try.prog 134 = some ([], [(0, 0)]) := by kernel_rfl
@[simp] theorem tk_135 : tk Try.prog 135 = some (0, true) := by kernel_rfl
@[simp] theorem tsz_135 : tsz Try.prog 135 = some 0 := by kernel_rfl
@[simp] theorem tzero_135 : tzero Try.prog 135 = some [] := by kernel_rfl
@[simp] theorem tby_135 : tby Try.prog 135 = some 0 := by kernel_rfl
@[simp] theorem tfld_135_0 : tfld Try.prog 135 0 = some (0, 0, 133) := by kernel_rfl
@[simp] theorem tbuild_135 : tbuild Try.prog 135 = some ([], [(0, 0)]) := by kernel_rfl
@[simp] theorem tk_137 : tk Try.prog 137 = some (1, false) := by kernel_rfl
@[simp] theorem tsz_137 : tsz Try.prog 137 = some 1 := by kernel_rfl
@[simp] theorem tzero_137 : tzero Try.prog 137 = some [.int .u32 0] := by kernel_rfl
@[simp] theorem tby_137 : tby Try.prog 137 = some 4 := by kernel_rfl
@[simp] theorem und_137 : Try.prog.underlying 137 = some (.int .u32) := by kernel_rfl
@[simp] theorem tk_138 : tk Try.prog 138 = some (1, false) := by kernel_rfl
@[simp] theorem tsz_138 : tsz Try.prog 138 = some 1 := by kernel_rfl
@[simp] theorem tzero_138 : tzero Try.prog 138 = some [.int .u8 0] := by kernel_rfl
@[simp] theorem tby_138 : tby Try.prog 138 = some 1 := by kernel_rfl
@[simp] theorem und_138 : Try.prog.underlying 138 = some (.int .u8) := by kernel_rfl
@[simp] theorem tk_139 : tk Try.prog 139 = some (1, false) := by kernel_rfl
@[simp] theorem tsz_139 : tsz Try.prog 139 = some 1 := by kernel_rfl
@[simp] theorem tzero_139 : tzero Try.prog 139 = some [.int .u8 0] := by kernel_rfl
@[simp] theorem tby_139 : tby Try.prog 139 = some 1 := by kernel_rfl
@[simp] theorem und_139 : Try.prog.underlying 139 = some (.int .u8) := by kernel_rfl
@[simp] theorem tk_141 : tk Try.prog 141 = some (1, false) := by kernel_rfl
@[simp] theorem tsz_141 : tsz Try.prog 141 = some 1 := by kernel_rfl
@[simp] theorem tzero_141 : tzero Try.prog 141 = some [.nilp] := by kernel_rfl
@[simp] theorem tby_141 : tby Try.prog 141 = some 8 := by kernel_rfl
@[simp] theorem tk_142 : tk Try.prog 142 = some (1, false) := by kernel_rfl
@[simp] theorem tsz_142 : tsz Try.prog 142 = some 1 := by kernel_rfl
@[simp] theorem tzero_142 : tzero Try.prog 142 = some [.int .i32 0] := by kernel_rfl
@[simp] theorem tby_142 : tby Try.prog 142 = some 4 := by kernel_rfl
@[simp] theorem und_142 : Try.prog.underlying 142 = some (.int .i32) := by kernel_rfl
@[simp] theorem tk_143 : tk Try.prog 143 = some (1, false) := by kernel_rfl
@[simp] theorem tsz_143 : tsz Try.prog 143 = some 1 := by kernel_rfl
@[simp] theorem tzero_143 : tzero Try.prog 143 = some [.int .i32 0] := by kernel_rfl
@[simp] theorem tby_143 : tby Try.prog 143 = some 4 := by kernel_rfl
@[simp] theorem und_143 : Try.prog.underlying 143 = some (.int .i32) := by kernel_rfl
@[simp] theorem tk_146 : tk Try.prog 146 = some (1, false) := by kernel_rfl
@[simp] theorem tsz_146 : tsz Try.prog 146 = some 1 := by kernel_rfl
@[simp] theorem tzero_146 : tzero Try.prog 146 = some [.nilp] := by kernel_rfl
@[simp] theorem tby_146 : tby Try.prog 146 = some 8 := by kernel_rfl
theorem mixed : Try.prog.follows .mixedOrders = true := by kernel_rfl
theorem laid : laidOutB Try.prog = true := by kernel_rfl
end Go.Proofs.Ytfgaoojogididaa.AM

/-
  Whole numbers in slices, and slices of such: their sizes, copies, marks.
-/
set_option linter.unusedVariables false
set_option linter.unusedSimpArgs false
set_option maxRecDepth 4000
namespace Go.Proofs.Ytfgaoojogididaa.AM
open Go.RowKit

private def MU1 : FuncId → Mode := fun f => if f = 27 then .fresh else if f = 33 then .heap else .tree

theorem wrap_id {n : Int} (h1 : -9223372036854775808 ≤ n) (h2 : n ≤ 9223372036854775807) : IntKind.i64.wrap n = n := by
  simp [IntKind.wrap, IntKind.bits, IntKind.signed]
  omega
def marks (k : Int) (n : Nat) : List Int := (List.range n).map fun (i : Nat) => k + (i : Int)
theorem marks_length (k : Int) (n : Nat) : (marks k n).length = n := by simp [marks]
theorem marks_get {k : Int} {n i : Nat} (h : i < n) : (marks k n)[i]? = some (k + i) := by simp [marks, h]

theorem szIntS (xs : List Int) (left : Int) (h1 : 0 ≤ left) (h2 : left ≤ 2 ^ 20) (hm : xs.length ≤ maxLen) : Pure Try.prog 46 [ints true xs, .int .i64 left] (.int .i64 (if left < xs.length then -1 else left - xs.length)) := by
  intro T
  have hw : IntKind.i64.wrap (left - xs.length) = left - xs.length := wrap_id (by simp [maxLen] at hm; omega) (by omega)
  refine enter mixed MU1 Try.func46 rfl (by kernel_rfl) rfl ?_
  repeat' (first
    | (with_reducible first | refine st_seq ?_ | refine st_reg ?_ | refine st_block ?_ | refine st_nil ?_ | refine st_skip ?_ | refine st_ret ?_ | refine st_exit ?_ | refine fr_nil ?_ | refine k_seq_n ?_ | refine k_seq_r ?_ | refine k_seq_e ?_ | refine k_blk_n ?_ | refine k_blk_r ?_ | refine k_blk_s ?_ | refine k_blk_o rfl ?_ | refine k_fn_r ?_ | refine k_fn_n ?_ | refine k_lp_r ?_ | refine k_lp_e ?_)
    | ((with_reducible first | refine st_move ?_ | refine st_asg ?_ | refine st_c ?_ | refine fr_c ?_); (try (conv => arg 1; simp [ints, hw])); (with_reducible refine at_mk ?_))
    | ((with_reducible first | refine st_g ?_ | refine fr_g ?_); (try (conv => arg 1; simp [ints, hw])); (with_reducible refine at_mk ?_); with_reducible first | refine gd_tt ?_ | refine gd_ff ?_ | refine gd_tf ?_ | refine gd_ft ?_ | refine gd_no ?_ | (refine gd_b (fun hb => ?_) (fun hb => ?_) <;> ((try simp only [Bool.not_eq_eq_eq_not, Bool.not_true, Bool.not_false] at hb); (try simp only [hb]); (try simp at hb))))
    | ((with_reducible refine st_m rfl ?_); (try (conv => arg 1; simp [ints, hw])); (with_reducible refine ev2_some ?_))
    | ((with_reducible refine fr_n rfl ?_); (try (conv => arg 1; simp [ints, hw])); (with_reducible refine evn_some ?_))
    | ((with_reducible first | refine st_cv ?_ | refine fr_cv ?_); (try (conv => arg 1; simp [ints, hw])); (with_reducible refine at_mk ?_); (with_reducible refine fn_mk ?_); (try (conv => arg 1; simp [ints, hw])); (with_reducible refine at_mk ?_))
    | ((with_reducible refine fr_a ?_); (try (conv => arg 1; simp [ints, hw])); (with_reducible refine at_mk ?_); (try (conv => arg 1; simp [ints, hw])); (with_reducible refine at_mk ?_); refine ⟨?names, ?_⟩; (case names => (simp [appNames, ints, intss] <;> first | kernel_rfl | (refine ⟨?_, ?_⟩ <;> kernel_rfl))); (try (conv => arg 1; simp [ints, hw])); (with_reducible refine ev2_some ?_))
    | ((with_reducible first | refine st_q ?_ | refine fr_q ?_ | refine st_res ?_); (try (conv => arg 1; simp [ints, hw])); (with_reducible refine ev_some ?_))
    | ((with_reducible refine st_if ?_); (try (conv => arg 1; simp [ints, hw])); (with_reducible refine at_mk ?_); with_reducible first | refine br_t ?_ | refine br_f ?_ | (refine br_b (fun hb => ?_) (fun hb => ?_) <;> ((try simp only [Bool.not_eq_eq_eq_not, Bool.not_true, Bool.not_false] at hb); (try simp only [hb]); (try simp at hb)))))
  · have : left < xs.length := by omega
    rw [if_pos this]; exact .int _ _
  · have : ¬ left < xs.length := by omega
    rw [if_neg this]; exact .int _ _

theorem toIntS (xs : List Int) (hl : xs.length ≤ 2 ^ 20) : Fresh Try.prog 27 [ints true xs] (fun c => ints c xs) := by
  intro T
  have hl2 : (xs.length : Int) ≤ 4294967296 := by omega
  refine enter mixed MU1 Try.func27 rfl (by kernel_rfl) rfl ?_
  repeat' (first
    | (with_reducible first | refine st_seq ?_ | refine st_reg ?_ | refine st_block ?_ | refine st_nil ?_ | refine st_skip ?_ | refine st_ret ?_ | refine st_exit ?_ | refine fr_nil ?_ | refine k_seq_n ?_ | refine k_seq_r ?_ | refine k_seq_e ?_ | refine k_blk_n ?_ | refine k_blk_r ?_ | refine k_blk_s ?_ | refine k_blk_o rfl ?_ | refine k_fn_r ?_ | refine k_fn_n ?_ | refine k_lp_r ?_ | refine k_lp_e ?_)
    | ((with_reducible first | refine st_move ?_ | refine st_asg ?_ | refine st_c ?_ | refine fr_c ?_); (try (conv => arg 1; simp [ints, hl2])); (with_reducible refine at_mk ?_))
    | ((with_reducible first | refine st_g ?_ | refine fr_g ?_); (try (conv => arg 1; simp [ints, hl2])); (with_reducible refine at_mk ?_); with_reducible first | refine gd_tt ?_ | refine gd_ff ?_ | refine gd_tf ?_ | refine gd_ft ?_ | refine gd_no ?_)
    | ((with_reducible refine st_m rfl ?_); (try (conv => arg 1; simp [ints, hl2])); (with_reducible refine ev2_some ?_))
    | ((with_reducible refine fr_n rfl ?_); (try (conv => arg 1; simp [ints, hl2])); (with_reducible refine evn_some ?_))
    | ((with_reducible first | refine st_cv ?_ | refine fr_cv ?_); (try (conv => arg 1; simp [ints, hl2])); (with_reducible refine at_mk ?_); (with_reducible refine fn_mk ?_); (try (conv => arg 1; simp [ints, hl2])); (with_reducible refine at_mk ?_))
    | ((with_reducible refine fr_a ?_); (try (conv => arg 1; simp [ints, hl2])); (with_reducible refine at_mk ?_); (try (conv => arg 1; simp [ints, hl2])); (with_reducible refine at_mk ?_); refine ⟨?names, ?_⟩; (case names => (simp [appNames, ints, intss] <;> first | kernel_rfl | (refine ⟨?_, ?_⟩ <;> kernel_rfl))); (try (conv => arg 1; simp [ints, hl2])); (with_reducible refine ev2_some ?_))
    | ((with_reducible first | refine st_q ?_ | refine fr_q ?_ | refine st_res ?_); (try (conv => arg 1; simp [ints, hl2])); (with_reducible refine ev_some ?_))
    | ((with_reducible refine st_if ?_); (try (conv => arg 1; simp [ints, hl2])); (with_reducible refine at_mk ?_); with_reducible first | refine br_t ?_ | refine br_f ?_))
  refine st_loop (fun (i : Nat) σ h => i ≤ xs.length ∧ σ 0 = ints true xs ∧ σ 3 = .sl (T + 1, 2, 0) 0 0 xs.length ∧ σ 4 = .int .i64 i ∧ T + 1 < h.tick ∧ ∃ ys : List Int, ys.length = xs.length ∧ ys.take i = xs.take i ∧ h.rows (T + 1, 2, 0) = some ⟨0, 1, ys.map fun n => [.int .i64 n]⟩) (fun i => xs.length - i) 0 ?init ?step
  case init =>
    simp [putA_get, envOf_0, hp_next_tick, hp_next_rows, hp_put_tick, hp_mt_tick, hp_rows_put]
    exact ⟨List.replicate xs.length 0, by simp, by simp⟩
  case step =>
    rintro i σ h ⟨hi, h0, h3, h4, ht, ys, hy, hyi, hr⟩
    repeat' (first
      | (with_reducible first | refine st_seq ?_ | refine st_reg ?_ | refine st_block ?_ | refine st_nil ?_ | refine st_skip ?_ | refine st_ret ?_ | refine st_exit ?_ | refine fr_nil ?_ | refine k_seq_n ?_ | refine k_seq_r ?_ | refine k_seq_e ?_ | refine k_blk_n ?_ | refine k_blk_r ?_ | refine k_blk_s ?_ | refine k_blk_o rfl ?_ | refine k_fn_r ?_ | refine k_fn_n ?_ | refine k_lp_r ?_ | refine k_lp_e ?_)
      | ((with_reducible first | refine st_move ?_ | refine st_asg ?_ | refine st_c ?_ | refine fr_c ?_); (try (conv => arg 1; simp [ints, h0, h3, h4, hr])); (with_reducible refine at_mk ?_))
      | ((with_reducible first | refine st_g ?_ | refine fr_g ?_); (try (conv => arg 1; simp [ints, h0, h3, h4, hr])); (with_reducible refine at_mk ?_); with_reducible first | refine gd_tt ?_ | refine gd_ff ?_ | refine gd_tf ?_ | refine gd_ft ?_ | refine gd_no ?_)
      | ((with_reducible refine st_m rfl ?_); (try (conv => arg 1; simp [ints, h0, h3, h4, hr])); (with_reducible refine ev2_some ?_))
      | ((with_reducible refine fr_n rfl ?_); (try (conv => arg 1; simp [ints, h0, h3, h4, hr])); (with_reducible refine evn_some ?_))
      | ((with_reducible first | refine st_cv ?_ | refine fr_cv ?_); (try (conv => arg 1; simp [ints, h0, h3, h4, hr])); (with_reducible refine at_mk ?_); (with_reducible refine fn_mk ?_); (try (conv => arg 1; simp [ints, h0, h3, h4, hr])); (with_reducible refine at_mk ?_))
      | ((with_reducible refine fr_a ?_); (try (conv => arg 1; simp [ints, h0, h3, h4, hr])); (with_reducible refine at_mk ?_); (try (conv => arg 1; simp [ints, h0, h3, h4, hr])); (with_reducible refine at_mk ?_); refine ⟨?names, ?_⟩; (case names => (simp [appNames, ints, intss] <;> first | kernel_rfl | (refine ⟨?_, ?_⟩ <;> kernel_rfl))); (try (conv => arg 1; simp [ints, h0, h3, h4, hr])); (with_reducible refine ev2_some ?_))
      | ((with_reducible first | refine st_q ?_ | refine fr_q ?_ | refine st_res ?_); (try (conv => arg 1; simp [ints, h0, h3, h4, hr])); (with_reducible refine ev_some ?_))
      | ((with_reducible refine st_if ?_); (try (conv => arg 1; simp [ints, h0, h3, h4, hr])); (with_reducible refine at_mk ?_); with_reducible first | refine br_t ?_ | refine br_f ?_))
    (with_reducible refine st_if ?_)
    (try (conv => arg 1; simp [h0]))
    (with_reducible refine at_mk ?_)
    refine ⟨fun hb => ?_, fun hb => ?_⟩
    · have hlt : i < xs.length := by simpa using hb
      have hx : xs[i]? = some (xs[i]) := by simp
      have hy2 : ys[i]? = some (ys[i]'(by omega)) := by simp
      have ht2 : T + 1 < h.tick + 1 + 1 := by omega
      have hw : IntKind.i64.wrap (i + 1) = i + 1 := wrap_id (by omega) (by omega)
      repeat' (first
        | (with_reducible first | refine st_seq ?_ | refine st_reg ?_ | refine st_block ?_ | refine st_nil ?_ | refine st_skip ?_ | refine st_ret ?_ | refine st_exit ?_ | refine fr_nil ?_ | refine k_seq_n ?_ | refine k_seq_r ?_ | refine k_seq_e ?_ | refine k_blk_n ?_ | refine k_blk_r ?_ | refine k_blk_s ?_ | refine k_blk_o rfl ?_ | refine k_fn_r ?_ | refine k_fn_n ?_ | refine k_lp_r ?_ | refine k_lp_e ?_)
        | ((with_reducible first | refine st_move ?_ | refine st_asg ?_ | refine st_c ?_ | refine fr_c ?_); (try (conv => arg 1; simp [ints, h0, h3, h4, hr, hlt, hx, hy2, ht2, hw])); (with_reducible refine at_mk ?_))
        | ((with_reducible first | refine st_g ?_ | refine fr_g ?_); (try (conv => arg 1; simp [ints, h0, h3, h4, hr, hlt, hx, hy2, ht2, hw])); (with_reducible refine at_mk ?_); with_reducible first | refine gd_tt ?_ | refine gd_ff ?_ | refine gd_tf ?_ | refine gd_ft ?_ | refine gd_no ?_)
        | ((with_reducible refine st_m rfl ?_); (try (conv => arg 1; simp [ints, h0, h3, h4, hr, hlt, hx, hy2, ht2, hw])); (with_reducible refine ev2_some ?_))
        | ((with_reducible refine fr_n rfl ?_); (try (conv => arg 1; simp [ints, h0, h3, h4, hr, hlt, hx, hy2, ht2, hw])); (with_reducible refine evn_some ?_))
        | ((with_reducible first | refine st_cv ?_ | refine fr_cv ?_); (try (conv => arg 1; simp [ints, h0, h3, h4, hr, hlt, hx, hy2, ht2, hw])); (with_reducible refine at_mk ?_); (with_reducible refine fn_mk ?_); (try (conv => arg 1; simp [ints, h0, h3, h4, hr, hlt, hx, hy2, ht2, hw])); (with_reducible refine at_mk ?_))
        | ((with_reducible refine fr_a ?_); (try (conv => arg 1; simp [ints, h0, h3, h4, hr, hlt, hx, hy2, ht2, hw])); (with_reducible refine at_mk ?_); (try (conv => arg 1; simp [ints, h0, h3, h4, hr, hlt, hx, hy2, ht2, hw])); (with_reducible refine at_mk ?_); refine ⟨?names, ?_⟩; (case names => (simp [appNames, ints, intss] <;> first | kernel_rfl | (refine ⟨?_, ?_⟩ <;> kernel_rfl))); (try (conv => arg 1; simp [ints, h0, h3, h4, hr, hlt, hx, hy2, ht2, hw])); (with_reducible refine ev2_some ?_))
        | ((with_reducible first | refine st_q ?_ | refine fr_q ?_ | refine st_res ?_); (try (conv => arg 1; simp [ints, h0, h3, h4, hr, hlt, hx, hy2, ht2, hw])); (with_reducible refine ev_some ?_))
        | ((with_reducible refine st_if ?_); (try (conv => arg 1; simp [ints, h0, h3, h4, hr, hlt, hx, hy2, ht2, hw])); (with_reducible refine at_mk ?_); with_reducible first | refine br_t ?_ | refine br_f ?_))
      refine k_lp_n (i + 1) (by omega) ⟨by omega, by simp [putA_get, putA_none, h0], by simp [putA_get, putA_none, h3], by simp [putA_get, putA_none, h4], by simp [hp_next_tick, hp_put_tick, hp_mt_tick]; omega, ys.set i xs[i], by simp [hy], ?_, ?_⟩
      · rw [List.take_add_one, List.take_add_one]
        simp [hyi, hy, hlt, List.take_set_of_le]
      · simp [hp_next_rows, hp_rows_put]
    · have hge : i = xs.length := by simp at hb; omega
      repeat' (first
        | (with_reducible first | refine st_seq ?_ | refine st_reg ?_ | refine st_block ?_ | refine st_nil ?_ | refine st_skip ?_ | refine st_ret ?_ | refine st_exit ?_ | refine fr_nil ?_ | refine k_seq_n ?_ | refine k_seq_r ?_ | refine k_seq_e ?_ | refine k_blk_n ?_ | refine k_blk_r ?_ | refine k_blk_s ?_ | refine k_blk_o rfl ?_ | refine k_fn_r ?_ | refine k_fn_n ?_ | refine k_lp_r ?_ | refine k_lp_e ?_)
        | ((with_reducible first | refine st_move ?_ | refine st_asg ?_ | refine st_c ?_ | refine fr_c ?_); (try (conv => arg 1; simp [h0, h3, h4, hr])); (with_reducible refine at_mk ?_))
        | ((with_reducible first | refine st_g ?_ | refine fr_g ?_); (try (conv => arg 1; simp [h0, h3, h4, hr])); (with_reducible refine at_mk ?_); with_reducible first | refine gd_tt ?_ | refine gd_ff ?_ | refine gd_tf ?_ | refine gd_ft ?_ | refine gd_no ?_)
        | ((with_reducible refine st_m rfl ?_); (try (conv => arg 1; simp [h0, h3, h4, hr])); (with_reducible refine ev2_some ?_))
        | ((with_reducible refine fr_n rfl ?_); (try (conv => arg 1; simp [h0, h3, h4, hr])); (with_reducible refine evn_some ?_))
        | ((with_reducible first | refine st_cv ?_ | refine fr_cv ?_); (try (conv => arg 1; simp [h0, h3, h4, hr])); (with_reducible refine at_mk ?_); (with_reducible refine fn_mk ?_); (try (conv => arg 1; simp [h0, h3, h4, hr])); (with_reducible refine at_mk ?_))
        | ((with_reducible refine fr_a ?_); (try (conv => arg 1; simp [h0, h3, h4, hr])); (with_reducible refine at_mk ?_); (try (conv => arg 1; simp [h0, h3, h4, hr])); (with_reducible refine at_mk ?_); refine ⟨?names, ?_⟩; (case names => (simp [appNames, ints, intss] <;> first | kernel_rfl | (refine ⟨?_, ?_⟩ <;> kernel_rfl))); (try (conv => arg 1; simp [h0, h3, h4, hr])); (with_reducible refine ev2_some ?_))
        | ((with_reducible first | refine st_q ?_ | refine fr_q ?_ | refine st_res ?_); (try (conv => arg 1; simp [h0, h3, h4, hr])); (with_reducible refine ev_some ?_))
        | ((with_reducible refine st_if ?_); (try (conv => arg 1; simp [h0, h3, h4, hr])); (with_reducible refine at_mk ?_); with_reducible first | refine br_t ?_ | refine br_f ?_))
      refine ⟨by simp [hp_next_tick]; omega, [(T + 1, 2, 0)], fun c => .one ?_, by simp, by simp [hp_next_tick]; omega⟩
      simp [resV]
      refine own_ints (by simpa [hp_next_rows] using hr) ?_ rfl
      subst hge
      rw [hyi]; simp

theorem eqIntS (xs : List Int) (hl : xs.length ≤ 2 ^ 62) : Pure Try.prog 29 [ints true xs, ints true xs] (.bool true) := by
  intro T
  refine enter mixed MU1 Try.func29 rfl (by kernel_rfl) rfl ?_
  repeat' (first
    | (with_reducible first | refine st_seq ?_ | refine st_reg ?_ | refine st_block ?_ | refine st_nil ?_ | refine st_skip ?_ | refine st_ret ?_ | refine st_exit ?_ | refine fr_nil ?_ | refine k_seq_n ?_ | refine k_seq_r ?_ | refine k_seq_e ?_ | refine k_blk_n ?_ | refine k_blk_r ?_ | refine k_blk_s ?_ | refine k_blk_o rfl ?_ | refine k_fn_r ?_ | refine k_fn_n ?_ | refine k_lp_r ?_ | refine k_lp_e ?_)
    | ((with_reducible first | refine st_move ?_ | refine st_asg ?_ | refine st_c ?_ | refine fr_c ?_); (try (conv => arg 1; simp [ints])); (with_reducible refine at_mk ?_))
    | ((with_reducible first | refine st_g ?_ | refine fr_g ?_); (try (conv => arg 1; simp [ints])); (with_reducible refine at_mk ?_); with_reducible first | refine gd_tt ?_ | refine gd_ff ?_ | refine gd_tf ?_ | refine gd_ft ?_ | refine gd_no ?_)
    | ((with_reducible refine st_m rfl ?_); (try (conv => arg 1; simp [ints])); (with_reducible refine ev2_some ?_))
    | ((with_reducible refine fr_n rfl ?_); (try (conv => arg 1; simp [ints])); (with_reducible refine evn_some ?_))
    | ((with_reducible first | refine st_cv ?_ | refine fr_cv ?_); (try (conv => arg 1; simp [ints])); (with_reducible refine at_mk ?_); (with_reducible refine fn_mk ?_); (try (conv => arg 1; simp [ints])); (with_reducible refine at_mk ?_))
    | ((with_reducible refine fr_a ?_); (try (conv => arg 1; simp [ints])); (with_reducible refine at_mk ?_); (try (conv => arg 1; simp [ints])); (with_reducible refine at_mk ?_); refine ⟨?names, ?_⟩; (case names => (simp [appNames, ints, intss] <;> first | kernel_rfl | (refine ⟨?_, ?_⟩ <;> kernel_rfl))); (try (conv => arg 1; simp [ints])); (with_reducible refine ev2_some ?_))
    | ((with_reducible first | refine st_q ?_ | refine fr_q ?_ | refine st_res ?_); (try (conv => arg 1; simp [ints])); (with_reducible refine ev_some ?_))
    | ((with_reducible refine st_if ?_); (try (conv => arg 1; simp [ints])); (with_reducible refine at_mk ?_); with_reducible first | refine br_t ?_ | refine br_f ?_))
  repeat' (first
    | (with_reducible first | refine st_seq ?_ | refine st_reg ?_ | refine st_block ?_ | refine st_nil ?_ | refine st_skip ?_ | refine st_ret ?_ | refine st_exit ?_ | refine fr_nil ?_ | refine k_seq_n ?_ | refine k_seq_r ?_ | refine k_seq_e ?_ | refine k_blk_n ?_ | refine k_blk_r ?_ | refine k_blk_s ?_ | refine k_blk_o rfl ?_ | refine k_fn_r ?_ | refine k_fn_n ?_ | refine k_lp_r ?_ | refine k_lp_e ?_)
    | ((with_reducible first | refine st_move ?_ | refine st_asg ?_ | refine st_c ?_ | refine fr_c ?_); (try (conv => arg 1; simp [ints])); (with_reducible refine at_mk ?_))
    | ((with_reducible first | refine st_g ?_ | refine fr_g ?_); (try (conv => arg 1; simp [ints])); (with_reducible refine at_mk ?_); with_reducible first | refine gd_tt ?_ | refine gd_ff ?_ | refine gd_tf ?_ | refine gd_ft ?_ | refine gd_no ?_)
    | ((with_reducible refine st_m rfl ?_); (try (conv => arg 1; simp [ints])); (with_reducible refine ev2_some ?_))
    | ((with_reducible refine fr_n rfl ?_); (try (conv => arg 1; simp [ints])); (with_reducible refine evn_some ?_))
    | ((with_reducible first | refine st_cv ?_ | refine fr_cv ?_); (try (conv => arg 1; simp [ints])); (with_reducible refine at_mk ?_); (with_reducible refine fn_mk ?_); (try (conv => arg 1; simp [ints])); (with_reducible refine at_mk ?_))
    | ((with_reducible refine fr_a ?_); (try (conv => arg 1; simp [ints])); (with_reducible refine at_mk ?_); (try (conv => arg 1; simp [ints])); (with_reducible refine at_mk ?_); refine ⟨?names, ?_⟩; (case names => (simp [appNames, ints, intss] <;> first | kernel_rfl | (refine ⟨?_, ?_⟩ <;> kernel_rfl))); (try (conv => arg 1; simp [ints])); (with_reducible refine ev2_some ?_))
    | ((with_reducible first | refine st_q ?_ | refine fr_q ?_ | refine st_res ?_); (try (conv => arg 1; simp [ints])); (with_reducible refine ev_some ?_))
    | ((with_reducible refine st_if ?_); (try (conv => arg 1; simp [ints])); (with_reducible refine at_mk ?_); with_reducible first | refine br_t ?_ | refine br_f ?_))
  refine st_loop (fun (i : Nat) σ h => i ≤ xs.length ∧ σ 0 = ints true xs ∧ σ 1 = ints true xs ∧ σ 5 = .int .i64 i) (fun i => xs.length - i) 0 ?init ?step
  case init =>
    simp [putA_get, envOf_0, envOf_1]
  case step =>
    rintro i σ h ⟨hi, h0, h1, h5⟩
    repeat' (first
      | (with_reducible first | refine st_seq ?_ | refine st_reg ?_ | refine st_block ?_ | refine st_nil ?_ | refine st_skip ?_ | refine st_ret ?_ | refine st_exit ?_ | refine fr_nil ?_ | refine k_seq_n ?_ | refine k_seq_r ?_ | refine k_seq_e ?_ | refine k_blk_n ?_ | refine k_blk_r ?_ | refine k_blk_s ?_ | refine k_blk_o rfl ?_ | refine k_fn_r ?_ | refine k_fn_n ?_ | refine k_lp_r ?_ | refine k_lp_e ?_)
      | ((with_reducible first | refine st_move ?_ | refine st_asg ?_ | refine st_c ?_ | refine fr_c ?_); (try (conv => arg 1; simp [ints, h0, h5])); (with_reducible refine at_mk ?_))
      | ((with_reducible first | refine st_g ?_ | refine fr_g ?_); (try (conv => arg 1; simp [ints, h0, h5])); (with_reducible refine at_mk ?_); with_reducible first | refine gd_tt ?_ | refine gd_ff ?_ | refine gd_tf ?_ | refine gd_ft ?_ | refine gd_no ?_)
      | ((with_reducible refine st_m rfl ?_); (try (conv => arg 1; simp [ints, h0, h5])); (with_reducible refine ev2_some ?_))
      | ((with_reducible refine fr_n rfl ?_); (try (conv => arg 1; simp [ints, h0, h5])); (with_reducible refine evn_some ?_))
      | ((with_reducible first | refine st_cv ?_ | refine fr_cv ?_); (try (conv => arg 1; simp [ints, h0, h5])); (with_reducible refine at_mk ?_); (with_reducible refine fn_mk ?_); (try (conv => arg 1; simp [ints, h0, h5])); (with_reducible refine at_mk ?_))
      | ((with_reducible refine fr_a ?_); (try (conv => arg 1; simp [ints, h0, h5])); (with_reducible refine at_mk ?_); (try (conv => arg 1; simp [ints, h0, h5])); (with_reducible refine at_mk ?_); refine ⟨?names, ?_⟩; (case names => (simp [appNames, ints, intss] <;> first | kernel_rfl | (refine ⟨?_, ?_⟩ <;> kernel_rfl))); (try (conv => arg 1; simp [ints, h0, h5])); (with_reducible refine ev2_some ?_))
      | ((with_reducible first | refine st_q ?_ | refine fr_q ?_ | refine st_res ?_); (try (conv => arg 1; simp [ints, h0, h5])); (with_reducible refine ev_some ?_))
      | ((with_reducible refine st_if ?_); (try (conv => arg 1; simp [ints, h0, h5])); (with_reducible refine at_mk ?_); with_reducible first | refine br_t ?_ | refine br_f ?_))
    (with_reducible refine st_if ?_)
    (try (conv => arg 1; simp [ints]))
    (with_reducible refine at_mk ?_)
    refine ⟨fun hb => ?_, fun hb => ?_⟩
    · have hlt : i < xs.length := by simpa using hb
      have hx : xs[i]? = some (xs[i]) := by simp
      have hw : IntKind.i64.wrap (i + 1) = i + 1 := wrap_id (by omega) (by omega)
      repeat' (first
        | (with_reducible first | refine st_seq ?_ | refine st_reg ?_ | refine st_block ?_ | refine st_nil ?_ | refine st_skip ?_ | refine st_ret ?_ | refine st_exit ?_ | refine fr_nil ?_ | refine k_seq_n ?_ | refine k_seq_r ?_ | refine k_seq_e ?_ | refine k_blk_n ?_ | refine k_blk_r ?_ | refine k_blk_s ?_ | refine k_blk_o rfl ?_ | refine k_fn_r ?_ | refine k_fn_n ?_ | refine k_lp_r ?_ | refine k_lp_e ?_)
        | ((with_reducible first | refine st_move ?_ | refine st_asg ?_ | refine st_c ?_ | refine fr_c ?_); (try (conv => arg 1; simp [ints])); (with_reducible refine at_mk ?_))
        | ((with_reducible first | refine st_g ?_ | refine fr_g ?_); (try (conv => arg 1; simp [ints])); (with_reducible refine at_mk ?_); with_reducible first | refine gd_tt ?_ | refine gd_ff ?_ | refine gd_tf ?_ | refine gd_ft ?_ | refine gd_no ?_)
        | ((with_reducible refine st_m rfl ?_); (try (conv => arg 1; simp [ints])); (with_reducible refine ev2_some ?_))
        | ((with_reducible refine fr_n rfl ?_); (try (conv => arg 1; simp [ints])); (with_reducible refine evn_some ?_))
        | ((with_reducible first | refine st_cv ?_ | refine fr_cv ?_); (try (conv => arg 1; simp [ints])); (with_reducible refine at_mk ?_); (with_reducible refine fn_mk ?_); (try (conv => arg 1; simp [ints])); (with_reducible refine at_mk ?_))
        | ((with_reducible refine fr_a ?_); (try (conv => arg 1; simp [ints])); (with_reducible refine at_mk ?_); (try (conv => arg 1; simp [ints])); (with_reducible refine at_mk ?_); refine ⟨?names, ?_⟩; (case names => (simp [appNames, ints, intss] <;> first | kernel_rfl | (refine ⟨?_, ?_⟩ <;> kernel_rfl))); (try (conv => arg 1; simp [ints])); (with_reducible refine ev2_some ?_))
        | ((with_reducible first | refine st_q ?_ | refine fr_q ?_ | refine st_res ?_); (try (conv => arg 1; simp [ints])); (with_reducible refine ev_some ?_))
        | ((with_reducible refine st_if ?_); (try (conv => arg 1; simp [ints])); (with_reducible refine at_mk ?_); with_reducible first | refine br_t ?_ | refine br_f ?_))
      refine st_draw 9 (fun _ => false) (by kernel_rfl) ?_
      simp only [List.take_succ_cons, List.take_zero, List.drop_succ_cons, List.drop_zero, List.take_nil, List.drop_nil]
      repeat' (first
        | (with_reducible first | refine st_seq ?_ | refine st_reg ?_ | refine st_block ?_ | refine st_nil ?_ | refine st_skip ?_ | refine st_ret ?_ | refine st_exit ?_ | refine fr_nil ?_ | refine k_seq_n ?_ | refine k_seq_r ?_ | refine k_seq_e ?_ | refine k_blk_n ?_ | refine k_blk_r ?_ | refine k_blk_s ?_ | refine k_blk_o rfl ?_ | refine k_fn_r ?_ | refine k_fn_n ?_ | refine k_lp_r ?_ | refine k_lp_e ?_)
        | ((with_reducible first | refine st_move ?_ | refine st_asg ?_ | refine st_c ?_ | refine fr_c ?_); (try (conv => arg 1; simp [ints, h0, h1, h5, hx, hw])); (with_reducible refine at_mk ?_))
        | ((with_reducible first | refine st_g ?_ | refine fr_g ?_); (try (conv => arg 1; simp [ints, h0, h1, h5, hx, hw])); (with_reducible refine at_mk ?_); with_reducible first | refine gd_tt ?_ | refine gd_ff ?_ | refine gd_tf ?_ | refine gd_ft ?_ | refine gd_no ?_)
        | ((with_reducible refine st_m rfl ?_); (try (conv => arg 1; simp [ints, h0, h1, h5, hx, hw])); (with_reducible refine ev2_some ?_))
        | ((with_reducible refine fr_n rfl ?_); (try (conv => arg 1; simp [ints, h0, h1, h5, hx, hw])); (with_reducible refine evn_some ?_))
        | ((with_reducible first | refine st_cv ?_ | refine fr_cv ?_); (try (conv => arg 1; simp [ints, h0, h1, h5, hx, hw])); (with_reducible refine at_mk ?_); (with_reducible refine fn_mk ?_); (try (conv => arg 1; simp [ints, h0, h1, h5, hx, hw])); (with_reducible refine at_mk ?_))
        | ((with_reducible refine fr_a ?_); (try (conv => arg 1; simp [ints, h0, h1, h5, hx, hw])); (with_reducible refine at_mk ?_); (try (conv => arg 1; simp [ints, h0, h1, h5, hx, hw])); (with_reducible refine at_mk ?_); refine ⟨?names, ?_⟩; (case names => (simp [appNames, ints, intss] <;> first | kernel_rfl | (refine ⟨?_, ?_⟩ <;> kernel_rfl))); (try (conv => arg 1; simp [ints, h0, h1, h5, hx, hw])); (with_reducible refine ev2_some ?_))
        | ((with_reducible first | refine st_q ?_ | refine fr_q ?_ | refine st_res ?_); (try (conv => arg 1; simp [ints, h0, h1, h5, hx, hw])); (with_reducible refine ev_some ?_))
        | ((with_reducible refine st_if ?_); (try (conv => arg 1; simp [ints, h0, h1, h5, hx, hw])); (with_reducible refine at_mk ?_); with_reducible first | refine br_t ?_ | refine br_f ?_))
      repeat' (first
        | (with_reducible first | refine st_seq ?_ | refine st_reg ?_ | refine st_block ?_ | refine st_nil ?_ | refine st_skip ?_ | refine st_ret ?_ | refine st_exit ?_ | refine fr_nil ?_ | refine k_seq_n ?_ | refine k_seq_r ?_ | refine k_seq_e ?_ | refine k_blk_n ?_ | refine k_blk_r ?_ | refine k_blk_s ?_ | refine k_blk_o rfl ?_ | refine k_fn_r ?_ | refine k_fn_n ?_ | refine k_lp_r ?_ | refine k_lp_e ?_)
        | ((with_reducible first | refine st_move ?_ | refine st_asg ?_ | refine st_c ?_ | refine fr_c ?_); (try (conv => arg 1; simp [h5, hw])); (with_reducible refine at_mk ?_))
        | ((with_reducible first | refine st_g ?_ | refine fr_g ?_); (try (conv => arg 1; simp [h5, hw])); (with_reducible refine at_mk ?_); with_reducible first | refine gd_tt ?_ | refine gd_ff ?_ | refine gd_tf ?_ | refine gd_ft ?_ | refine gd_no ?_)
        | ((with_reducible refine st_m rfl ?_); (try (conv => arg 1; simp [h5, hw])); (with_reducible refine ev2_some ?_))
        | ((with_reducible refine fr_n rfl ?_); (try (conv => arg 1; simp [h5, hw])); (with_reducible refine evn_some ?_))
        | ((with_reducible first | refine st_cv ?_ | refine fr_cv ?_); (try (conv => arg 1; simp [h5, hw])); (with_reducible refine at_mk ?_); (with_reducible refine fn_mk ?_); (try (conv => arg 1; simp [h5, hw])); (with_reducible refine at_mk ?_))
        | ((with_reducible refine fr_a ?_); (try (conv => arg 1; simp [h5, hw])); (with_reducible refine at_mk ?_); (try (conv => arg 1; simp [h5, hw])); (with_reducible refine at_mk ?_); refine ⟨?names, ?_⟩; (case names => (simp [appNames, ints, intss] <;> first | kernel_rfl | (refine ⟨?_, ?_⟩ <;> kernel_rfl))); (try (conv => arg 1; simp [h5, hw])); (with_reducible refine ev2_some ?_))
        | ((with_reducible first | refine st_q ?_ | refine fr_q ?_ | refine st_res ?_); (try (conv => arg 1; simp [h5, hw])); (with_reducible refine ev_some ?_))
        | ((with_reducible refine st_if ?_); (try (conv => arg 1; simp [h5, hw])); (with_reducible refine at_mk ?_); with_reducible first | refine br_t ?_ | refine br_f ?_))
      refine k_lp_n (i + 1) (by omega) ⟨by omega, by simp [putA_get, putA_none, h0], by simp [putA_get, putA_none, h1], by simp [putA_get, putA_none, h5]⟩
    · skip
      repeat' (first
        | (with_reducible first | refine st_seq ?_ | refine st_reg ?_ | refine st_block ?_ | refine st_nil ?_ | refine st_skip ?_ | refine st_ret ?_ | refine st_exit ?_ | refine fr_nil ?_ | refine k_seq_n ?_ | refine k_seq_r ?_ | refine k_seq_e ?_ | refine k_blk_n ?_ | refine k_blk_r ?_ | refine k_blk_s ?_ | refine k_blk_o rfl ?_ | refine k_fn_r ?_ | refine k_fn_n ?_ | refine k_lp_r ?_ | refine k_lp_e ?_)
        | ((with_reducible first | refine st_move ?_ | refine st_asg ?_ | refine st_c ?_ | refine fr_c ?_); (try (conv => arg 1; simp [ints])); (with_reducible refine at_mk ?_))
        | ((with_reducible first | refine st_g ?_ | refine fr_g ?_); (try (conv => arg 1; simp [ints])); (with_reducible refine at_mk ?_); with_reducible first | refine gd_tt ?_ | refine gd_ff ?_ | refine gd_tf ?_ | refine gd_ft ?_ | refine gd_no ?_)
        | ((with_reducible refine st_m rfl ?_); (try (conv => arg 1; simp [ints])); (with_reducible refine ev2_some ?_))
        | ((with_reducible refine fr_n rfl ?_); (try (conv => arg 1; simp [ints])); (with_reducible refine evn_some ?_))
        | ((with_reducible first | refine st_cv ?_ | refine fr_cv ?_); (try (conv => arg 1; simp [ints])); (with_reducible refine at_mk ?_); (with_reducible refine fn_mk ?_); (try (conv => arg 1; simp [ints])); (with_reducible refine at_mk ?_))
        | ((with_reducible refine fr_a ?_); (try (conv => arg 1; simp [ints])); (with_reducible refine at_mk ?_); (try (conv => arg 1; simp [ints])); (with_reducible refine at_mk ?_); refine ⟨?names, ?_⟩; (case names => (simp [appNames, ints, intss] <;> first | kernel_rfl | (refine ⟨?_, ?_⟩ <;> kernel_rfl))); (try (conv => arg 1; simp [ints])); (with_reducible refine ev2_some ?_))
        | ((with_reducible first | refine st_q ?_ | refine fr_q ?_ | refine st_res ?_); (try (conv => arg 1; simp [ints])); (with_reducible refine ev_some ?_))
        | ((with_reducible refine st_if ?_); (try (conv => arg 1; simp [ints])); (with_reducible refine at_mk ?_); with_reducible first | refine br_t ?_ | refine br_f ?_))
      exact .bool true

theorem heldIntS (n : Nat) (k : Int) (hk : 0 ≤ k) (hl : k + n ≤ 2 ^ 62) : Pure Try.prog 39 [ints true (marks k n), .int .i64 k] (.int .i64 (k + n)) := by
  intro T
  refine enter mixed MU1 Try.func39 rfl (by kernel_rfl) rfl ?_
  repeat' (first
    | (with_reducible first | refine st_seq ?_ | refine st_reg ?_ | refine st_block ?_ | refine st_nil ?_ | refine st_skip ?_ | refine st_ret ?_ | refine st_exit ?_ | refine fr_nil ?_ | refine k_seq_n ?_ | refine k_seq_r ?_ | refine k_seq_e ?_ | refine k_blk_n ?_ | refine k_blk_r ?_ | refine k_blk_s ?_ | refine k_blk_o rfl ?_ | refine k_fn_r ?_ | refine k_fn_n ?_ | refine k_lp_r ?_ | refine k_lp_e ?_)
    | ((with_reducible first | refine st_move ?_ | refine st_asg ?_ | refine st_c ?_ | refine fr_c ?_); (try (conv => arg 1; simp [ints])); (with_reducible refine at_mk ?_))
    | ((with_reducible first | refine st_g ?_ | refine fr_g ?_); (try (conv => arg 1; simp [ints])); (with_reducible refine at_mk ?_); with_reducible first | refine gd_tt ?_ | refine gd_ff ?_ | refine gd_tf ?_ | refine gd_ft ?_ | refine gd_no ?_)
    | ((with_reducible refine st_m rfl ?_); (try (conv => arg 1; simp [ints])); (with_reducible refine ev2_some ?_))
    | ((with_reducible refine fr_n rfl ?_); (try (conv => arg 1; simp [ints])); (with_reducible refine evn_some ?_))
    | ((with_reducible first | refine st_cv ?_ | refine fr_cv ?_); (try (conv => arg 1; simp [ints])); (with_reducible refine at_mk ?_); (with_reducible refine fn_mk ?_); (try (conv => arg 1; simp [ints])); (with_reducible refine at_mk ?_))
    | ((with_reducible refine fr_a ?_); (try (conv => arg 1; simp [ints])); (with_reducible refine at_mk ?_); (try (conv => arg 1; simp [ints])); (with_reducible refine at_mk ?_); refine ⟨?names, ?_⟩; (case names => (simp [appNames, ints, intss] <;> first | kernel_rfl | (refine ⟨?_, ?_⟩ <;> kernel_rfl))); (try (conv => arg 1; simp [ints])); (with_reducible refine ev2_some ?_))
    | ((with_reducible first | refine st_q ?_ | refine fr_q ?_ | refine st_res ?_); (try (conv => arg 1; simp [ints])); (with_reducible refine ev_some ?_))
    | ((with_reducible refine st_if ?_); (try (conv => arg 1; simp [ints])); (with_reducible refine at_mk ?_); with_reducible first | refine br_t ?_ | refine br_f ?_))
  refine st_loop (fun (i : Nat) σ h => i ≤ n ∧ σ 0 = ints true (marks k n) ∧ σ 1 = .int .i64 (k + i) ∧ σ 5 = .int .i64 i) (fun i => n - i) 0 ?init ?step
  case init =>
    simp [putA_get, envOf_0, envOf_1]
  case step =>
    rintro i σ h ⟨hi, h0, h1, h5⟩
    repeat' (first
      | (with_reducible first | refine st_seq ?_ | refine st_reg ?_ | refine st_block ?_ | refine st_nil ?_ | refine st_skip ?_ | refine st_ret ?_ | refine st_exit ?_ | refine fr_nil ?_ | refine k_seq_n ?_ | refine k_seq_r ?_ | refine k_seq_e ?_ | refine k_blk_n ?_ | refine k_blk_r ?_ | refine k_blk_s ?_ | refine k_blk_o rfl ?_ | refine k_fn_r ?_ | refine k_fn_n ?_ | refine k_lp_r ?_ | refine k_lp_e ?_)
      | ((with_reducible first | refine st_move ?_ | refine st_asg ?_ | refine st_c ?_ | refine fr_c ?_); (try (conv => arg 1; simp [ints, h0, h5, marks_length])); (with_reducible refine at_mk ?_))
      | ((with_reducible first | refine st_g ?_ | refine fr_g ?_); (try (conv => arg 1; simp [ints, h0, h5, marks_length])); (with_reducible refine at_mk ?_); with_reducible first | refine gd_tt ?_ | refine gd_ff ?_ | refine gd_tf ?_ | refine gd_ft ?_ | refine gd_no ?_)
      | ((with_reducible refine st_m rfl ?_); (try (conv => arg 1; simp [ints, h0, h5, marks_length])); (with_reducible refine ev2_some ?_))
      | ((with_reducible refine fr_n rfl ?_); (try (conv => arg 1; simp [ints, h0, h5, marks_length])); (with_reducible refine evn_some ?_))
      | ((with_reducible first | refine st_cv ?_ | refine fr_cv ?_); (try (conv => arg 1; simp [ints, h0, h5, marks_length])); (with_reducible refine at_mk ?_); (with_reducible refine fn_mk ?_); (try (conv => arg 1; simp [ints, h0, h5, marks_length])); (with_reducible refine at_mk ?_))
      | ((with_reducible refine fr_a ?_); (try (conv => arg 1; simp [ints, h0, h5, marks_length])); (with_reducible refine at_mk ?_); (try (conv => arg 1; simp [ints, h0, h5, marks_length])); (with_reducible refine at_mk ?_); refine ⟨?names, ?_⟩; (case names => (simp [appNames, ints, intss] <;> first | kernel_rfl | (refine ⟨?_, ?_⟩ <;> kernel_rfl))); (try (conv => arg 1; simp [ints, h0, h5, marks_length])); (with_reducible refine ev2_some ?_))
      | ((with_reducible first | refine st_q ?_ | refine fr_q ?_ | refine st_res ?_); (try (conv => arg 1; simp [ints, h0, h5, marks_length])); (with_reducible refine ev_some ?_))
      | ((with_reducible refine st_if ?_); (try (conv => arg 1; simp [ints, h0, h5, marks_length])); (with_reducible refine at_mk ?_); with_reducible first | refine br_t ?_ | refine br_f ?_))
    (with_reducible refine st_if ?_)
    (try (conv => arg 1; simp [ints]))
    (with_reducible refine at_mk ?_)
    refine ⟨fun hb => ?_, fun hb => ?_⟩
    · have hlt : i < n := by simpa using hb
      have hw : IntKind.i64.wrap (i + 1) = i + 1 := wrap_id (by omega) (by omega)
      have hw2 : IntKind.i64.wrap (k + i + 1) = k + i + 1 := wrap_id (by omega) (by omega)
      repeat' (first
        | (with_reducible first | refine st_seq ?_ | refine st_reg ?_ | refine st_block ?_ | refine st_nil ?_ | refine st_skip ?_ | refine st_ret ?_ | refine st_exit ?_ | refine fr_nil ?_ | refine k_seq_n ?_ | refine k_seq_r ?_ | refine k_seq_e ?_ | refine k_blk_n ?_ | refine k_blk_r ?_ | refine k_blk_s ?_ | refine k_blk_o rfl ?_ | refine k_fn_r ?_ | refine k_fn_n ?_ | refine k_lp_r ?_ | refine k_lp_e ?_)
        | ((with_reducible first | refine st_move ?_ | refine st_asg ?_ | refine st_c ?_ | refine fr_c ?_); (try (conv => arg 1; simp [ints, h0, h1, h5, hlt, marks_get hlt, hw, hw2])); (with_reducible refine at_mk ?_))
        | ((with_reducible first | refine st_g ?_ | refine fr_g ?_); (try (conv => arg 1; simp [ints, h0, h1, h5, hlt, marks_get hlt, hw, hw2])); (with_reducible refine at_mk ?_); with_reducible first | refine gd_tt ?_ | refine gd_ff ?_ | refine gd_tf ?_ | refine gd_ft ?_ | refine gd_no ?_)
        | ((with_reducible refine st_m rfl ?_); (try (conv => arg 1; simp [ints, h0, h1, h5, hlt, marks_get hlt, hw, hw2])); (with_reducible refine ev2_some ?_))
        | ((with_reducible refine fr_n rfl ?_); (try (conv => arg 1; simp [ints, h0, h1, h5, hlt, marks_get hlt, hw, hw2])); (with_reducible refine evn_some ?_))
        | ((with_reducible first | refine st_cv ?_ | refine fr_cv ?_); (try (conv => arg 1; simp [ints, h0, h1, h5, hlt, marks_get hlt, hw, hw2])); (with_reducible refine at_mk ?_); (with_reducible refine fn_mk ?_); (try (conv => arg 1; simp [ints, h0, h1, h5, hlt, marks_get hlt, hw, hw2])); (with_reducible refine at_mk ?_))
        | ((with_reducible refine fr_a ?_); (try (conv => arg 1; simp [ints, h0, h1, h5, hlt, marks_get hlt, hw, hw2])); (with_reducible refine at_mk ?_); (try (conv => arg 1; simp [ints, h0, h1, h5, hlt, marks_get hlt, hw, hw2])); (with_reducible refine at_mk ?_); refine ⟨?names, ?_⟩; (case names => (simp [appNames, ints, intss] <;> first | kernel_rfl | (refine ⟨?_, ?_⟩ <;> kernel_rfl))); (try (conv => arg 1; simp [ints, h0, h1, h5, hlt, marks_get hlt, hw, hw2])); (with_reducible refine ev2_some ?_))
        | ((with_reducible first | refine st_q ?_ | refine fr_q ?_ | refine st_res ?_); (try (conv => arg 1; simp [ints, h0, h1, h5, hlt, marks_get hlt, hw, hw2])); (with_reducible refine ev_some ?_))
        | ((with_reducible refine st_if ?_); (try (conv => arg 1; simp [ints, h0, h1, h5, hlt, marks_get hlt, hw, hw2])); (with_reducible refine at_mk ?_); with_reducible first | refine br_t ?_ | refine br_f ?_))
      repeat' (first
        | (with_reducible first | refine st_seq ?_ | refine st_reg ?_ | refine st_block ?_ | refine st_nil ?_ | refine st_skip ?_ | refine st_ret ?_ | refine st_exit ?_ | refine fr_nil ?_ | refine k_seq_n ?_ | refine k_seq_r ?_ | refine k_seq_e ?_ | refine k_blk_n ?_ | refine k_blk_r ?_ | refine k_blk_s ?_ | refine k_blk_o rfl ?_ | refine k_fn_r ?_ | refine k_fn_n ?_ | refine k_lp_r ?_ | refine k_lp_e ?_)
        | ((with_reducible first | refine st_move ?_ | refine st_asg ?_ | refine st_c ?_ | refine fr_c ?_); (try (conv => arg 1; simp [h1, h5, hw, hw2])); (with_reducible refine at_mk ?_))
        | ((with_reducible first | refine st_g ?_ | refine fr_g ?_); (try (conv => arg 1; simp [h1, h5, hw, hw2])); (with_reducible refine at_mk ?_); with_reducible first | refine gd_tt ?_ | refine gd_ff ?_ | refine gd_tf ?_ | refine gd_ft ?_ | refine gd_no ?_)
        | ((with_reducible refine st_m rfl ?_); (try (conv => arg 1; simp [h1, h5, hw, hw2])); (with_reducible refine ev2_some ?_))
        | ((with_reducible refine fr_n rfl ?_); (try (conv => arg 1; simp [h1, h5, hw, hw2])); (with_reducible refine evn_some ?_))
        | ((with_reducible first | refine st_cv ?_ | refine fr_cv ?_); (try (conv => arg 1; simp [h1, h5, hw, hw2])); (with_reducible refine at_mk ?_); (with_reducible refine fn_mk ?_); (try (conv => arg 1; simp [h1, h5, hw, hw2])); (with_reducible refine at_mk ?_))
        | ((with_reducible refine fr_a ?_); (try (conv => arg 1; simp [h1, h5, hw, hw2])); (with_reducible refine at_mk ?_); (try (conv => arg 1; simp [h1, h5, hw, hw2])); (with_reducible refine at_mk ?_); refine ⟨?names, ?_⟩; (case names => (simp [appNames, ints, intss] <;> first | kernel_rfl | (refine ⟨?_, ?_⟩ <;> kernel_rfl))); (try (conv => arg 1; simp [h1, h5, hw, hw2])); (with_reducible refine ev2_some ?_))
        | ((with_reducible first | refine st_q ?_ | refine fr_q ?_ | refine st_res ?_); (try (conv => arg 1; simp [h1, h5, hw, hw2])); (with_reducible refine ev_some ?_))
        | ((with_reducible refine st_if ?_); (try (conv => arg 1; simp [h1, h5, hw, hw2])); (with_reducible refine at_mk ?_); with_reducible first | refine br_t ?_ | refine br_f ?_))
      refine k_lp_n (i + 1) (by omega) ⟨by omega, by simp [putA_get, putA_none, h0], by simp [putA_get, putA_none, h1]; omega, by simp [putA_get, putA_none, h5]⟩
    · have : i = n := by simp at hb; omega
      subst this
      repeat' (first
        | (with_reducible first | refine st_seq ?_ | refine st_reg ?_ | refine st_block ?_ | refine st_nil ?_ | refine st_skip ?_ | refine st_ret ?_ | refine st_exit ?_ | refine fr_nil ?_ | refine k_seq_n ?_ | refine k_seq_r ?_ | refine k_seq_e ?_ | refine k_blk_n ?_ | refine k_blk_r ?_ | refine k_blk_s ?_ | refine k_blk_o rfl ?_ | refine k_fn_r ?_ | refine k_fn_n ?_ | refine k_lp_r ?_ | refine k_lp_e ?_)
        | ((with_reducible first | refine st_move ?_ | refine st_asg ?_ | refine st_c ?_ | refine fr_c ?_); (try (conv => arg 1; simp [ints, h1])); (with_reducible refine at_mk ?_))
        | ((with_reducible first | refine st_g ?_ | refine fr_g ?_); (try (conv => arg 1; simp [ints, h1])); (with_reducible refine at_mk ?_); with_reducible first | refine gd_tt ?_ | refine gd_ff ?_ | refine gd_tf ?_ | refine gd_ft ?_ | refine gd_no ?_)
        | ((with_reducible refine st_m rfl ?_); (try (conv => arg 1; simp [ints, h1])); (with_reducible refine ev2_some ?_))
        | ((with_reducible refine fr_n rfl ?_); (try (conv => arg 1; simp [ints, h1])); (with_reducible refine evn_some ?_))
        | ((with_reducible first | refine st_cv ?_ | refine fr_cv ?_); (try (conv => arg 1; simp [ints, h1])); (with_reducible refine at_mk ?_); (with_reducible refine fn_mk ?_); (try (conv => arg 1; simp [ints, h1])); (with_reducible refine at_mk ?_))
        | ((with_reducible refine fr_a ?_); (try (conv => arg 1; simp [ints, h1])); (with_reducible refine at_mk ?_); (try (conv => arg 1; simp [ints, h1])); (with_reducible refine at_mk ?_); refine ⟨?names, ?_⟩; (case names => (simp [appNames, ints, intss] <;> first | kernel_rfl | (refine ⟨?_, ?_⟩ <;> kernel_rfl))); (try (conv => arg 1; simp [ints, h1])); (with_reducible refine ev2_some ?_))
        | ((with_reducible first | refine st_q ?_ | refine fr_q ?_ | refine st_res ?_); (try (conv => arg 1; simp [ints, h1])); (with_reducible refine ev_some ?_))
        | ((with_reducible refine st_if ?_); (try (conv => arg 1; simp [ints, h1])); (with_reducible refine at_mk ?_); with_reducible first | refine br_t ?_ | refine br_f ?_))
      exact .int _ _

/-- What owns a slice of whole numbers. -/
theorem own_ints_inv {rows : Nm → Option Row} {a : AV} {xs : List Int} {ns : List Nm} (h : Own rows true [a] [ints true xs] ns) :
    (xs = [] ∧ (∀ c, Own rows c [a] [ints c []] ns) ∧ ((a = .nilsl ∧ ns = []) ∨ ∃ n ver off, a = .sl n ver off 0 ∧ ns = [n])) ∨
    (∃ n ver pre sp, a = .sl n ver pre.length xs.length ∧ ns = [n] ∧ rows n = some ⟨ver, 1, pre ++ ((xs.map fun x => [.int .i64 x]) ++ sp)⟩ ∧ (∀ e ∈ pre, e.length = 1) ∧ (∀ e ∈ sp, e.length = 1) ∧ ClRow ⟨ver, 1, pre⟩ ∧ ClRow ⟨ver, 1, sp⟩) := by
  unfold ints at h
  generalize hm : (xs.map fun n => [AV.int .i64 n]) = tm at h
  cases h with
  | nilsl h =>
    cases h
    exact .inl ⟨by simpa using hm, fun c => .nilsl .nil, .inl ⟨rfl, rfl⟩⟩
  | @sl _ _ ns1 ns2 n ver len s r _ h1 h2 h3 h4 h5 h6 h7 h8 h9 h10 =>
    cases h10
    have flat : ∀ (ys : List Int) (bs : List AV) (ns : List Nm), Own rows true bs (ys.map fun n => [AV.int .i64 n]).flatten ns → ns = [] ∧ bs = (ys.map fun n => [AV.int .i64 n]).flatten := by
      intro ys
      induction ys with
      | nil => intro bs ns h; cases h; exact ⟨rfl, rfl⟩
      | cons y ys ih =>
        intro bs ns h
        simp only [List.map_cons, List.flatten_cons, List.cons_append, List.nil_append] at h
        cases h with
        | int _ _ h => obtain ⟨e1, e2⟩ := ih _ _ h; exact ⟨e1, by simp [e2]⟩
    subst hm
    obtain ⟨e1, e2⟩ := flat xs _ _ h9
    subst e1
    have hlen : xs.length = len := by simpa using h7
    cases xs with
    | nil =>
      left
      simp at hlen
      subst hlen
      exact ⟨rfl, fun c => .sl n ver 0 s r [] h1 h2 h3 h4 h5 h6 rfl (by simp) (by simpa using Own.nil) .nil, .inr ⟨n, ver, 0, rfl, by simp⟩⟩
    | cons x xs =>
      right
      have hs : s = 1 := by
        have := h8 [.int .i64 x] (by simp)
        simpa using this.symm
      subst hs
      have key : ∀ (l : List (List AV)) (ys : List Int), (∀ e ∈ l, e.length = 1) → l.flatten = (ys.map fun n => [AV.int .i64 n]).flatten → l = ys.map fun n => [AV.int .i64 n] := by
        intro l
        induction l with
        | nil => intro ys _ he; cases ys with
          | nil => rfl
          | cons _ _ => simp at he
        | cons e l ih =>
          intro ys hl he
          have h1 := hl e (by simp)
          match e, h1 with
          | [v], _ =>
            cases ys with
            | nil => simp at he
            | cons y ys =>
              simp only [List.flatten_cons, List.map_cons, List.cons_append, List.nil_append, List.cons.injEq] at he
              rw [he.1, ih ys (fun e he => hl e (by simp [he])) he.2]
              rfl
      have e3 := key _ (x :: xs) (fun e he => h6 e (List.mem_of_mem_take he)) e2
      obtain ⟨ver', esz', elems⟩ := r
      simp only at h2 h3 e3 h6 h4 h5
      subst h2 h3
      refine ⟨n, ver', [], elems.drop len, by rw [hlen]; rfl, by simp, ?_, by simp, fun e he => h6 e (List.mem_of_mem_drop he), fun i e j x he hx => by simp at he, fun i e j x he hx => ?_⟩
      · rw [h1, List.nil_append, ← e3, List.take_append_drop]
      · refine h4 (len + i) e j x ?_ hx
        simpa [List.getElem?_drop] using he
  | slo n ver pre sp ys h1 h2 h3 h4 h5 h6 =>
    cases h6
    have hxy : ys = xs := by
      have h7 := congrArg (List.map fun l : List AV => match l with | [AV.int _ z] => z | _ => 0) hm
      simp only [List.map_map] at h7
      have e : ((fun l : List AV => match l with | [AV.int _ z] => z | _ => 0) ∘ fun n : Int => [AV.int IntKind.i64 n]) = id := funext fun z => rfl
      rw [e, List.map_id, List.map_id] at h7
      exact h7.symm
    subst hxy
    cases ys with
    | nil => exact .inl ⟨rfl, fun c => .slo n ver pre sp [] h1 h2 h3 h4 h5 .nil, .inr ⟨n, ver, _, rfl, rfl⟩⟩
    | cons y ys => exact .inr ⟨n, ver, pre, sp, rfl, rfl, h1, h4, h5, h2, h3⟩

theorem own_ints_mk {rows : Nm → Option Row} {n : Nm} {ver : Nat} {xs : List Int} {pre sp : List (List AV)} (h : rows n = some ⟨ver, 1, pre ++ ((xs.map fun x => [.int .i64 x]) ++ sp)⟩) (h0 : ∀ e ∈ pre, e.length = 1) (h1 : ∀ e ∈ sp, e.length = 1) (h3 : ClRow ⟨ver, 1, pre⟩) (h2 : ClRow ⟨ver, 1, sp⟩) {c : Bool} : Own rows c [.sl n ver pre.length xs.length] [ints c xs] [n] :=
  .slo n ver pre sp xs h h3 h2 h0 h1 .nil

theorem mid_get {α : Type} {pre l sp : List α} {i : Nat} (hi : i < l.length) : (pre ++ (l ++ sp))[pre.length + i]? = l[i]? := by
  rw [List.getElem?_append_right (by omega), Nat.add_sub_cancel_left, List.getElem?_append_left hi]
theorem mid_set {α : Type} {pre l sp : List α} {i : Nat} {e : α} (hi : i < l.length) : (pre ++ (l ++ sp)).set (pre.length + i) e = pre ++ (l.set i e ++ sp) := by
  rw [List.set_append, if_neg (by omega), Nat.add_sub_cancel_left, List.set_append, if_pos hi]

/-- Marked: the rows are the same ones, what they hold are marks. -/
theorem markIntS {h : Hp} {a : AV} {xs : List Int} {ns : List Nm} (ho : Own h.rows true [a] [ints true xs] ns) (hns : ∀ n ∈ ns, n.1 < h.tick) (k : Int) (hk : 0 ≤ k) (hl : k + xs.length ≤ 2 ^ 62) :
    Sound Try.prog 33 [a, .int .i64 k] h fun v h' => v = .int .i64 (k + xs.length) ∧ (∀ c, Own h'.rows c [a] [ints c (marks k xs.length)] ns) ∧ (∀ n, n ∉ ns → h'.rows n = h.rows n) ∧ h.tick ≤ h'.tick := by
  rcases own_ints_inv ho with ⟨rfl, hc, hx⟩ | ⟨n, ver, pre, sp, rfl, rfl, hr, hpr, hsp, hcp, hcl⟩
  · rcases hx with ⟨rfl, rfl⟩ | ⟨n, ver, off, rfl, rfl⟩
    all_goals
      refine enter mixed MU1 Try.func33 rfl (by kernel_rfl) rfl ?_
      repeat' (first
        | (with_reducible first | refine st_seq ?_ | refine st_reg ?_ | refine st_block ?_ | refine st_nil ?_ | refine st_skip ?_ | refine st_ret ?_ | refine st_exit ?_ | refine fr_nil ?_ | refine k_seq_n ?_ | refine k_seq_r ?_ | refine k_seq_e ?_ | refine k_blk_n ?_ | refine k_blk_r ?_ | refine k_blk_s ?_ | refine k_blk_o rfl ?_ | refine k_fn_r ?_ | refine k_fn_n ?_ | refine k_lp_r ?_ | refine k_lp_e ?_)
        | ((with_reducible first | refine st_move ?_ | refine st_asg ?_ | refine st_c ?_ | refine fr_c ?_); (try (conv => arg 1; simp [ints])); (with_reducible refine at_mk ?_))
        | ((with_reducible first | refine st_g ?_ | refine fr_g ?_); (try (conv => arg 1; simp [ints])); (with_reducible refine at_mk ?_); with_reducible first | refine gd_tt ?_ | refine gd_ff ?_ | refine gd_tf ?_ | refine gd_ft ?_ | refine gd_no ?_)
        | ((with_reducible refine st_m rfl ?_); (try (conv => arg 1; simp [ints])); (with_reducible refine ev2_some ?_))
        | ((with_reducible refine fr_n rfl ?_); (try (conv => arg 1; simp [ints])); (with_reducible refine evn_some ?_))
        | ((with_reducible first | refine st_cv ?_ | refine fr_cv ?_); (try (conv => arg 1; simp [ints])); (with_reducible refine at_mk ?_); (with_reducible refine fn_mk ?_); (try (conv => arg 1; simp [ints])); (with_reducible refine at_mk ?_))
        | ((with_reducible refine fr_a ?_); (try (conv => arg 1; simp [ints])); (with_reducible refine at_mk ?_); (try (conv => arg 1; simp [ints])); (with_reducible refine at_mk ?_); refine ⟨?names, ?_⟩; (case names => (simp [appNames, ints, intss] <;> first | kernel_rfl | (refine ⟨?_, ?_⟩ <;> kernel_rfl))); (try (conv => arg 1; simp [ints])); (with_reducible refine ev2_some ?_))
        | ((with_reducible first | refine st_q ?_ | refine fr_q ?_ | refine st_res ?_); (try (conv => arg 1; simp [ints])); (with_reducible refine ev_some ?_))
        | ((with_reducible refine st_if ?_); (try (conv => arg 1; simp [ints])); (with_reducible refine at_mk ?_); with_reducible first | refine br_t ?_ | refine br_f ?_))
      refine st_loop (fun (i : Nat) σ h' => (∃ a, (a = .nilsl ∨ ∃ n ver off, a = .sl n ver off 0) ∧ σ 0 = a) ∧ σ 1 = .int .i64 k ∧ σ 5 = .int .i64 0 ∧ h'.rows = h.rows ∧ h.tick ≤ h'.tick) (fun i => 0) 0 ?init ?step
      case init =>
        refine ⟨⟨_, ?_, rfl⟩, by simp [putA_get, envOf_1], by simp [putA_get, opd, avc, avc1], by simp [hp_next_rows], by simp [hp_next_tick] <;> omega⟩
        simp [putA_get, envOf_0]
      case step =>
        rintro i σ h' ⟨⟨a, ha, h0⟩, h1, h5, h6, h7⟩
        rcases ha with rfl | ⟨n, ver, off, rfl⟩
        all_goals
          repeat' (first
            | (with_reducible first | refine st_seq ?_ | refine st_reg ?_ | refine st_block ?_ | refine st_nil ?_ | refine st_skip ?_ | refine st_ret ?_ | refine st_exit ?_ | refine fr_nil ?_ | refine k_seq_n ?_ | refine k_seq_r ?_ | refine k_seq_e ?_ | refine k_blk_n ?_ | refine k_blk_r ?_ | refine k_blk_s ?_ | refine k_blk_o rfl ?_ | refine k_fn_r ?_ | refine k_fn_n ?_ | refine k_lp_r ?_ | refine k_lp_e ?_)
            | ((with_reducible first | refine st_move ?_ | refine st_asg ?_ | refine st_c ?_ | refine fr_c ?_); (try (conv => arg 1; simp [h0, h1, h5])); (with_reducible refine at_mk ?_))
            | ((with_reducible first | refine st_g ?_ | refine fr_g ?_); (try (conv => arg 1; simp [h0, h1, h5])); (with_reducible refine at_mk ?_); with_reducible first | refine gd_tt ?_ | refine gd_ff ?_ | refine gd_tf ?_ | refine gd_ft ?_ | refine gd_no ?_)
            | ((with_reducible refine st_m rfl ?_); (try (conv => arg 1; simp [h0, h1, h5])); (with_reducible refine ev2_some ?_))
            | ((with_reducible refine fr_n rfl ?_); (try (conv => arg 1; simp [h0, h1, h5])); (with_reducible refine evn_some ?_))
            | ((with_reducible first | refine st_cv ?_ | refine fr_cv ?_); (try (conv => arg 1; simp [h0, h1, h5])); (with_reducible refine at_mk ?_); (with_reducible refine fn_mk ?_); (try (conv => arg 1; simp [h0, h1, h5])); (with_reducible refine at_mk ?_))
            | ((with_reducible refine fr_a ?_); (try (conv => arg 1; simp [h0, h1, h5])); (with_reducible refine at_mk ?_); (try (conv => arg 1; simp [h0, h1, h5])); (with_reducible refine at_mk ?_); refine ⟨?names, ?_⟩; (case names => (simp [appNames, ints, intss] <;> first | kernel_rfl | (refine ⟨?_, ?_⟩ <;> kernel_rfl))); (try (conv => arg 1; simp [h0, h1, h5])); (with_reducible refine ev2_some ?_))
            | ((with_reducible first | refine st_q ?_ | refine fr_q ?_ | refine st_res ?_); (try (conv => arg 1; simp [h0, h1, h5])); (with_reducible refine ev_some ?_))
            | ((with_reducible refine st_if ?_); (try (conv => arg 1; simp [h0, h1, h5])); (with_reducible refine at_mk ?_); with_reducible first | refine br_t ?_ | refine br_f ?_))
          repeat' (first
            | (with_reducible first | refine st_seq ?_ | refine st_reg ?_ | refine st_block ?_ | refine st_nil ?_ | refine st_skip ?_ | refine st_ret ?_ | refine st_exit ?_ | refine fr_nil ?_ | refine k_seq_n ?_ | refine k_seq_r ?_ | refine k_seq_e ?_ | refine k_blk_n ?_ | refine k_blk_r ?_ | refine k_blk_s ?_ | refine k_blk_o rfl ?_ | refine k_fn_r ?_ | refine k_fn_n ?_ | refine k_lp_r ?_ | refine k_lp_e ?_)
            | ((with_reducible first | refine st_move ?_ | refine st_asg ?_ | refine st_c ?_ | refine fr_c ?_); (try (conv => arg 1; simp [h0, h1, h5])); (with_reducible refine at_mk ?_))
            | ((with_reducible first | refine st_g ?_ | refine fr_g ?_); (try (conv => arg 1; simp [h0, h1, h5])); (with_reducible refine at_mk ?_); with_reducible first | refine gd_tt ?_ | refine gd_ff ?_ | refine gd_tf ?_ | refine gd_ft ?_ | refine gd_no ?_)
            | ((with_reducible refine st_m rfl ?_); (try (conv => arg 1; simp [h0, h1, h5])); (with_reducible refine ev2_some ?_))
            | ((with_reducible refine fr_n rfl ?_); (try (conv => arg 1; simp [h0, h1, h5])); (with_reducible refine evn_some ?_))
            | ((with_reducible first | refine st_cv ?_ | refine fr_cv ?_); (try (conv => arg 1; simp [h0, h1, h5])); (with_reducible refine at_mk ?_); (with_reducible refine fn_mk ?_); (try (conv => arg 1; simp [h0, h1, h5])); (with_reducible refine at_mk ?_))
            | ((with_reducible refine fr_a ?_); (try (conv => arg 1; simp [h0, h1, h5])); (with_reducible refine at_mk ?_); (try (conv => arg 1; simp [h0, h1, h5])); (with_reducible refine at_mk ?_); refine ⟨?names, ?_⟩; (case names => (simp [appNames, ints, intss] <;> first | kernel_rfl | (refine ⟨?_, ?_⟩ <;> kernel_rfl))); (try (conv => arg 1; simp [h0, h1, h5])); (with_reducible refine ev2_some ?_))
            | ((with_reducible first | refine st_q ?_ | refine fr_q ?_ | refine st_res ?_); (try (conv => arg 1; simp [h0, h1, h5])); (with_reducible refine ev_some ?_))
            | ((with_reducible refine st_if ?_); (try (conv => arg 1; simp [h0, h1, h5])); (with_reducible refine at_mk ?_); with_reducible first | refine br_t ?_ | refine br_f ?_))
          refine ⟨by simp [resV], fun c => ?_, fun n _ => by simp [hp_next_rows, h6], by simp [hp_next_tick]; omega⟩
          exact (hc c).congr fun n _ => by simp [hp_next_rows, h6]
  · have hn : n.1 < h.tick := hns n (by simp)
    refine enter mixed MU1 Try.func33 rfl (by kernel_rfl) rfl ?_
    repeat' (first
      | (with_reducible first | refine st_seq ?_ | refine st_reg ?_ | refine st_block ?_ | refine st_nil ?_ | refine st_skip ?_ | refine st_ret ?_ | refine st_exit ?_ | refine fr_nil ?_ | refine k_seq_n ?_ | refine k_seq_r ?_ | refine k_seq_e ?_ | refine k_blk_n ?_ | refine k_blk_r ?_ | refine k_blk_s ?_ | refine k_blk_o rfl ?_ | refine k_fn_r ?_ | refine k_fn_n ?_ | refine k_lp_r ?_ | refine k_lp_e ?_)
      | ((with_reducible first | refine st_move ?_ | refine st_asg ?_ | refine st_c ?_ | refine fr_c ?_); (try (conv => arg 1; simp [ints])); (with_reducible refine at_mk ?_))
      | ((with_reducible first | refine st_g ?_ | refine fr_g ?_); (try (conv => arg 1; simp [ints])); (with_reducible refine at_mk ?_); with_reducible first | refine gd_tt ?_ | refine gd_ff ?_ | refine gd_tf ?_ | refine gd_ft ?_ | refine gd_no ?_)
      | ((with_reducible refine st_m rfl ?_); (try (conv => arg 1; simp [ints])); (with_reducible refine ev2_some ?_))
      | ((with_reducible refine fr_n rfl ?_); (try (conv => arg 1; simp [ints])); (with_reducible refine evn_some ?_))
      | ((with_reducible first | refine st_cv ?_ | refine fr_cv ?_); (try (conv => arg 1; simp [ints])); (with_reducible refine at_mk ?_); (with_reducible refine fn_mk ?_); (try (conv => arg 1; simp [ints])); (with_reducible refine at_mk ?_))
      | ((with_reducible refine fr_a ?_); (try (conv => arg 1; simp [ints])); (with_reducible refine at_mk ?_); (try (conv => arg 1; simp [ints])); (with_reducible refine at_mk ?_); refine ⟨?names, ?_⟩; (case names => (simp [appNames, ints, intss] <;> first | kernel_rfl | (refine ⟨?_, ?_⟩ <;> kernel_rfl))); (try (conv => arg 1; simp [ints])); (with_reducible refine ev2_some ?_))
      | ((with_reducible first | refine st_q ?_ | refine fr_q ?_ | refine st_res ?_); (try (conv => arg 1; simp [ints])); (with_reducible refine ev_some ?_))
      | ((with_reducible refine st_if ?_); (try (conv => arg 1; simp [ints])); (with_reducible refine at_mk ?_); with_reducible first | refine br_t ?_ | refine br_f ?_))
    refine st_loop (fun (i : Nat) σ h' => i ≤ xs.length ∧ σ 0 = .sl n ver pre.length xs.length ∧ σ 1 = .int .i64 (k + i) ∧ σ 5 = .int .i64 i ∧ h.tick ≤ h'.tick ∧ (∀ m, m ≠ n → h'.rows m = h.rows m) ∧
      ∃ ys : List Int, ys.length = xs.length ∧ ys.take i = (marks k xs.length).take i ∧ h'.rows n = some ⟨ver, 1, pre ++ ((ys.map fun x => [.int .i64 x]) ++ sp)⟩) (fun i => xs.length - i) 0 ?init ?step
    case init =>
      refine ⟨Nat.zero_le _, by simp [putA_get, envOf_0], by simp [putA_get, envOf_1], by simp [putA_get, opd, avc, avc1], by simp [hp_next_tick]; omega, fun m _ => by simp [hp_next_rows], xs, rfl, rfl, by simpa [hp_next_rows] using hr⟩
    case step =>
      rintro i σ h' ⟨hi, h0, h1, h5, ht, hoth, ys, hy, hyi, hr'⟩
      repeat' (first
        | (with_reducible first | refine st_seq ?_ | refine st_reg ?_ | refine st_block ?_ | refine st_nil ?_ | refine st_skip ?_ | refine st_ret ?_ | refine st_exit ?_ | refine fr_nil ?_ | refine k_seq_n ?_ | refine k_seq_r ?_ | refine k_seq_e ?_ | refine k_blk_n ?_ | refine k_blk_r ?_ | refine k_blk_s ?_ | refine k_blk_o rfl ?_ | refine k_fn_r ?_ | refine k_fn_n ?_ | refine k_lp_r ?_ | refine k_lp_e ?_)
        | ((with_reducible first | refine st_move ?_ | refine st_asg ?_ | refine st_c ?_ | refine fr_c ?_); (try (conv => arg 1; simp [h0, h1, h5])); (with_reducible refine at_mk ?_))
        | ((with_reducible first | refine st_g ?_ | refine fr_g ?_); (try (conv => arg 1; simp [h0, h1, h5])); (with_reducible refine at_mk ?_); with_reducible first | refine gd_tt ?_ | refine gd_ff ?_ | refine gd_tf ?_ | refine gd_ft ?_ | refine gd_no ?_)
        | ((with_reducible refine st_m rfl ?_); (try (conv => arg 1; simp [h0, h1, h5])); (with_reducible refine ev2_some ?_))
        | ((with_reducible refine fr_n rfl ?_); (try (conv => arg 1; simp [h0, h1, h5])); (with_reducible refine evn_some ?_))
        | ((with_reducible first | refine st_cv ?_ | refine fr_cv ?_); (try (conv => arg 1; simp [h0, h1, h5])); (with_reducible refine at_mk ?_); (with_reducible refine fn_mk ?_); (try (conv => arg 1; simp [h0, h1, h5])); (with_reducible refine at_mk ?_))
        | ((with_reducible refine fr_a ?_); (try (conv => arg 1; simp [h0, h1, h5])); (with_reducible refine at_mk ?_); (try (conv => arg 1; simp [h0, h1, h5])); (with_reducible refine at_mk ?_); refine ⟨?names, ?_⟩; (case names => (simp [appNames, ints, intss] <;> first | kernel_rfl | (refine ⟨?_, ?_⟩ <;> kernel_rfl))); (try (conv => arg 1; simp [h0, h1, h5])); (with_reducible refine ev2_some ?_))
        | ((with_reducible first | refine st_q ?_ | refine fr_q ?_ | refine st_res ?_); (try (conv => arg 1; simp [h0, h1, h5])); (with_reducible refine ev_some ?_))
        | ((with_reducible refine st_if ?_); (try (conv => arg 1; simp [h0, h1, h5])); (with_reducible refine at_mk ?_); with_reducible first | refine br_t ?_ | refine br_f ?_))
      (with_reducible refine st_if ?_)
      (try (conv => arg 1; simp [h0]))
      (with_reducible refine at_mk ?_)
      refine ⟨fun hb => ?_, fun hb => ?_⟩
      · have hlt : i < xs.length := by simpa using hb
        have hy2 : (pre ++ ((ys.map fun x => [AV.int .i64 x]) ++ sp))[pre.length + i]? = some [.int .i64 (ys[i]'(by omega))] := by
          rw [mid_get (by simp; omega)]
          simp
        generalize hes : pre ++ ((ys.map fun x => [AV.int .i64 x]) ++ sp) = es at hr' hy2
        have ht2 : n.1 < h'.tick + 1 + 1 := by omega
        have hw : IntKind.i64.wrap (i + 1) = i + 1 := wrap_id (by omega) (by omega)
        have hw2 : IntKind.i64.wrap (k + i + 1) = k + i + 1 := wrap_id (by omega) (by omega)
        repeat' (first
          | (with_reducible first | refine st_seq ?_ | refine st_reg ?_ | refine st_block ?_ | refine st_nil ?_ | refine st_skip ?_ | refine st_ret ?_ | refine st_exit ?_ | refine fr_nil ?_ | refine k_seq_n ?_ | refine k_seq_r ?_ | refine k_seq_e ?_ | refine k_blk_n ?_ | refine k_blk_r ?_ | refine k_blk_s ?_ | refine k_blk_o rfl ?_ | refine k_fn_r ?_ | refine k_fn_n ?_ | refine k_lp_r ?_ | refine k_lp_e ?_)
          | ((with_reducible first | refine st_move ?_ | refine st_asg ?_ | refine st_c ?_ | refine fr_c ?_); (try (conv => arg 1; simp [h0, h1, h5, hr', hlt, hy2, ht2, hw, hw2])); (with_reducible refine at_mk ?_))
          | ((with_reducible first | refine st_g ?_ | refine fr_g ?_); (try (conv => arg 1; simp [h0, h1, h5, hr', hlt, hy2, ht2, hw, hw2])); (with_reducible refine at_mk ?_); with_reducible first | refine gd_tt ?_ | refine gd_ff ?_ | refine gd_tf ?_ | refine gd_ft ?_ | refine gd_no ?_)
          | ((with_reducible refine st_m rfl ?_); (try (conv => arg 1; simp [h0, h1, h5, hr', hlt, hy2, ht2, hw, hw2])); (with_reducible refine ev2_some ?_))
          | ((with_reducible refine fr_n rfl ?_); (try (conv => arg 1; simp [h0, h1, h5, hr', hlt, hy2, ht2, hw, hw2])); (with_reducible refine evn_some ?_))
          | ((with_reducible first | refine st_cv ?_ | refine fr_cv ?_); (try (conv => arg 1; simp [h0, h1, h5, hr', hlt, hy2, ht2, hw, hw2])); (with_reducible refine at_mk ?_); (with_reducible refine fn_mk ?_); (try (conv => arg 1; simp [h0, h1, h5, hr', hlt, hy2, ht2, hw, hw2])); (with_reducible refine at_mk ?_))
          | ((with_reducible refine fr_a ?_); (try (conv => arg 1; simp [h0, h1, h5, hr', hlt, hy2, ht2, hw, hw2])); (with_reducible refine at_mk ?_); (try (conv => arg 1; simp [h0, h1, h5, hr', hlt, hy2, ht2, hw, hw2])); (with_reducible refine at_mk ?_); refine ⟨?names, ?_⟩; (case names => (simp [appNames, ints, intss] <;> first | kernel_rfl | (refine ⟨?_, ?_⟩ <;> kernel_rfl))); (try (conv => arg 1; simp [h0, h1, h5, hr', hlt, hy2, ht2, hw, hw2])); (with_reducible refine ev2_some ?_))
          | ((with_reducible first | refine st_q ?_ | refine fr_q ?_ | refine st_res ?_); (try (conv => arg 1; simp [h0, h1, h5, hr', hlt, hy2, ht2, hw, hw2])); (with_reducible refine ev_some ?_))
          | ((with_reducible refine st_if ?_); (try (conv => arg 1; simp [h0, h1, h5, hr', hlt, hy2, ht2, hw, hw2])); (with_reducible refine at_mk ?_); with_reducible first | refine br_t ?_ | refine br_f ?_))
        refine k_lp_n (i + 1) (by omega) ⟨by omega, by simp [putA_get, putA_none, h0], by simp [putA_get, putA_none, h1]; omega, by simp [putA_get, putA_none, h5], by simp [hp_next_tick, hp_put_tick, hp_mt_tick]; omega, fun m hm => by simp [hp_next_rows, hp_rows_put, hm, hoth m hm], ys.set i (k + i), by simp [hy], ?_, ?_⟩
        · rw [List.take_add_one, List.take_add_one, marks_get hlt]
          simp [hyi, hy, hlt, List.take_set_of_le]
        · simp [hp_next_rows, hp_rows_put, ← hes, mid_set (show i < (ys.map fun x => [AV.int .i64 x]).length by simp; omega), List.map_set]
      · have hge : i = xs.length := by simp at hb; omega
        repeat' (first
          | (with_reducible first | refine st_seq ?_ | refine st_reg ?_ | refine st_block ?_ | refine st_nil ?_ | refine st_skip ?_ | refine st_ret ?_ | refine st_exit ?_ | refine fr_nil ?_ | refine k_seq_n ?_ | refine k_seq_r ?_ | refine k_seq_e ?_ | refine k_blk_n ?_ | refine k_blk_r ?_ | refine k_blk_s ?_ | refine k_blk_o rfl ?_ | refine k_fn_r ?_ | refine k_fn_n ?_ | refine k_lp_r ?_ | refine k_lp_e ?_)
          | ((with_reducible first | refine st_move ?_ | refine st_asg ?_ | refine st_c ?_ | refine fr_c ?_); (try (conv => arg 1; simp [h0, h1, h5])); (with_reducible refine at_mk ?_))
          | ((with_reducible first | refine st_g ?_ | refine fr_g ?_); (try (conv => arg 1; simp [h0, h1, h5])); (with_reducible refine at_mk ?_); with_reducible first | refine gd_tt ?_ | refine gd_ff ?_ | refine gd_tf ?_ | refine gd_ft ?_ | refine gd_no ?_)
          | ((with_reducible refine st_m rfl ?_); (try (conv => arg 1; simp [h0, h1, h5])); (with_reducible refine ev2_some ?_))
          | ((with_reducible refine fr_n rfl ?_); (try (conv => arg 1; simp [h0, h1, h5])); (with_reducible refine evn_some ?_))
          | ((with_reducible first | refine st_cv ?_ | refine fr_cv ?_); (try (conv => arg 1; simp [h0, h1, h5])); (with_reducible refine at_mk ?_); (with_reducible refine fn_mk ?_); (try (conv => arg 1; simp [h0, h1, h5])); (with_reducible refine at_mk ?_))
          | ((with_reducible refine fr_a ?_); (try (conv => arg 1; simp [h0, h1, h5])); (with_reducible refine at_mk ?_); (try (conv => arg 1; simp [h0, h1, h5])); (with_reducible refine at_mk ?_); refine ⟨?names, ?_⟩; (case names => (simp [appNames, ints, intss] <;> first | kernel_rfl | (refine ⟨?_, ?_⟩ <;> kernel_rfl))); (try (conv => arg 1; simp [h0, h1, h5])); (with_reducible refine ev2_some ?_))
          | ((with_reducible first | refine st_q ?_ | refine fr_q ?_ | refine st_res ?_); (try (conv => arg 1; simp [h0, h1, h5])); (with_reducible refine ev_some ?_))
          | ((with_reducible refine st_if ?_); (try (conv => arg 1; simp [h0, h1, h5])); (with_reducible refine at_mk ?_); with_reducible first | refine br_t ?_ | refine br_f ?_))
        have e1 : ys = marks k xs.length := by
          subst hge
          rw [List.take_of_length_le (by omega), List.take_of_length_le (by simp [marks_length])] at hyi
          exact hyi
        refine ⟨by simp [resV, hge], fun c => ?_, fun m hm => by simpa [hp_next_rows] using hoth m (by simpa using hm), by simp [hp_next_tick]; omega⟩
        have := own_ints_mk (rows := h'.rows) (n := n) (ver := ver) (xs := marks k xs.length) (pre := pre) (sp := sp) (by rw [← e1]; exact hr') hpr hsp hcp hcl (c := c)
        rw [marks_length] at this
        exact this.congr fun m _ => by simp [hp_next_rows]
end Go.Proofs.Ytfgaoojogididaa.AM
