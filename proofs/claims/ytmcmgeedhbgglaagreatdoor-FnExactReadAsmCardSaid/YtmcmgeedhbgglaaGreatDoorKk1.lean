/- Lemmas: an abstract machine over named rows, and what single functions compute (parts A17, A29, A30, A31, A32, A33, A18, A19, A20, A21, A22, A23, A24, A25, A26, A27, A28, A34, A35, D0, D1). -/
import Derived.Test.YtmcmgeedhbgglaaGreatDoorKk0
import Derived.ChangeArms
import Derived.WideShapes
import Derived.ChangeOld
import Derived.Below
import Derived.Carry
import Derived.Lib.ItoaNum
set_option linter.unusedVariables false
set_option linter.unusedSimpArgs false
namespace Go.Proofs.YtmcmgeedhbgglaaGreatDoor.AM
open Go.RowKit

section
variable {P : Program} {M : FuncId → Mode} {ops : Array Oper} {T : Nat} {W : Nm → Bool} {rows0 : Nm → Option Row} {f N : Nat}

def lst (listed : Array Bool) (j : Nat) : Bool := listed.getD j false

theorem lst_set {listed : Array Bool} {i : Nat} (hi : i < listed.size) (j : Nat) : lst (listed.setIfInBounds i true) j = (lst listed j || j == i) := by
  unfold lst
  by_cases h : j = i
  · subst h; simp [hi]
  · rw [getD_set_ne false (Ne.symm h)]; simp [h]

theorem mem_ready' {listed : Array Bool} (hs : listed.size = ops.size) {i : Nat} : i ∈ Region.ready .any ops listed ↔ lst listed i = false ∧ ∃ o, ops[i]? = some o ∧ ∀ e ∈ o.after, Region.binds .any e = true → lst listed e.on = true := by
  rw [mem_ready]
  refine and_congr_left fun ⟨o, ho, _⟩ => ?_
  have hlt : i < listed.size := by rw [hs]; exact (Array.getElem?_eq_some_iff.1 ho).1
  simp [lst, hlt]

/-- The least that isn't listed may come up. -/
theorem ready_least (S : DrawS ops f) {listed : Array Bool} (hs : listed.size = ops.size) : ∀ (i : Nat), i < ops.size → lst listed i = false → Region.ready .any ops listed ≠ [] := by
  intro i
  induction i using Nat.strongRecOn with
  | _ i ih =>
    intro hi hl hr
    by_cases hex : ∃ j, j < i ∧ lst listed j = false
    · obtain ⟨j, h1, h2⟩ := hex
      exact ih j h1 (by omega) h2 hr
    · have ho : ops[i]? = some ops[i] := by simp
      have : i ∈ Region.ready .any ops listed := (mem_ready' hs).2 ⟨hl, _, ho, fun e he hb => by
        have := S.edge i _ ho e he hb
        cases h : lst listed e.on with
        | true => rfl
        | false => exact (hex ⟨e.on, this, h⟩).elim⟩
      rw [hr] at this
      cases this

/-- The operations behind all others. -/
theorem tail_ok (S : DrawS ops f) (hall : ∀ (j : Nat) (o : Oper), ops[j]? = some o → dstOk N o.dst = true) {Q : Exit → Act → World → Prop} :
    ∀ (n k fuel : Nat) (listed : Array Bool) (a : Act) (w : World), k + n = ops.size → f ≤ k → n ≤ fuel → listed.size = ops.size → (∀ j, j < ops.size → lst listed j = decide (j < k)) →
    Go.wpOps P ops Q (List.range' k n) a w → wpAny P .any ops Q fuel listed a w
  | 0, k, fuel, listed, a, w, hk, hf, hfu, hs, hl, hw => by
    have hr : Region.ready .any ops listed = [] := by
      refine List.eq_nil_iff_forall_not_mem.2 fun i hi => ?_
      obtain ⟨h1, o, ho, _⟩ := (mem_ready' hs).1 hi
      have := (Array.getElem?_eq_some_iff.1 ho).1
      rw [hl i this] at h1
      simp at h1
      omega
    cases fuel with
    | zero => exact ⟨hr, hw⟩
    | succ m => exact ⟨fun _ => hw, fun i hi => by rw [hr] at hi; cases hi⟩
  | n + 1, k, fuel, listed, a, w, hk, hf, hfu, hs, hl, hw => by
    obtain ⟨m, rfl⟩ : ∃ m, fuel = m + 1 := ⟨fuel - 1, by omega⟩
    have hkl : lst listed k = false := by rw [hl k (by omega)]; simp
    refine ⟨fun hr => absurd hr (ready_least S hs k (by omega) hkl), fun i hi => ?_⟩
    obtain ⟨h1, o, ho, h2⟩ := (mem_ready' hs).1 hi
    have hilt := (Array.getElem?_eq_some_iff.1 ho).1
    have hki : k ≤ i := by
      rw [hl i hilt] at h1
      simpa using h1
    have hik : i = k := by
      rcases Nat.lt_or_ge k i with h3 | h3
      · exfalso
        obtain ⟨ok, hok⟩ := S.get ho h3
        have hb := S.tail i k o ok ho hok h3 (by omega)
        have hc : Closed ops (lst listed) := fun j oj hoj hlj e he hb => by
          have hj := (Array.getElem?_eq_some_iff.1 hoj).1
          have h5 := S.edge j oj hoj e he hb
          rw [hl j hj] at hlj
          rw [hl e.on (by omega)]
          simp at hlj ⊢
          omega
        have := S.listed hc i o ho h2 k hb
        rw [hkl] at this
        cases this
      · omega
    subst hik
    rw [List.range'_succ, wpOps_cons] at hw
    refine wpOp_mono (fun a' w' h' => ?_) hw
    refine tail_ok S hall n (i + 1) m _ a' w' (by omega) (by omega) (by omega) (by simp [hs]) (fun j hj => ?_) h'
    rw [lst_set (by omega), hl j hj]
    by_cases h : j = i
    · subst h; simp
    · have : (j == i) = false := by simp [h]
      rw [this, Bool.or_false, decide_eq_decide]
      omega

variable {σ : Nat → AV} {vals : Nat → AV} {act : Nat → Option (Nm × Option Row)}

theorem front_ok (S : DrawS ops f) (hall : ∀ (j : Nat) (o : Oper), ops[j]? = some o → dstOk N o.dst = true) (Tr : Traced P (Sound P) ops T W rows0 f σ vals act) {K : (Nat → AV) → Hp → Prop}
    (htail : wpOps P M (Sound P) ops T (ops.toList.drop f) f (lw (we ops vals) allL f σ) (hpA T act allL f rows0) K) {Q : Exit → Act → World → Prop} {mu0 : Nm → Nat → Option Loc} {pr0 : Bool → Nat → Prop} {h0 : Hp} {w0 : World} {a0 : Act}
    (hQ : ∀ σ' h' mu' pr' w' a', K σ' h' → EnvR mu' pr' w'.heap σ' a' N → AfterB T mu0 pr0 h0 w0 mu' pr' h' w' → a'.defers = a0.defers → Q .normal a' w') :
    ∀ (fuel : Nat) (listed : Array Bool) (mu : Nm → Nat → Option Loc) (pr : Bool → Nat → Prop) (w : World) (a : Act), listed.size = ops.size → Closed ops (lst listed) → (∀ j, f ≤ j → lst listed j = false) → cnt (lst listed) ops.size ≤ fuel →
    EnvR mu pr w.heap (lw (we ops vals) (lst listed) f σ) a N → Rel mu pr (hpA T act (lst listed) f rows0) w → (∀ i j v, lst listed i = false → mu (T, i, j) v = none) →
    AfterB T mu0 pr0 h0 w0 mu pr (hpA T act (lst listed) f rows0) w → a.defers = a0.defers → wpAny P .any ops Q fuel listed a w := by
  have fin : ∀ (fuel : Nat) (listed : Array Bool) (mu : Nm → Nat → Option Loc) (pr : Bool → Nat → Prop) (w : World) (a : Act), listed.size = ops.size → (∀ j, f ≤ j → lst listed j = false) → (∀ j, j < f → lst listed j = true) → cnt (lst listed) ops.size ≤ fuel →
      EnvR mu pr w.heap (lw (we ops vals) (lst listed) f σ) a N → Rel mu pr (hpA T act (lst listed) f rows0) w → (∀ i j v, lst listed i = false → mu (T, i, j) v = none) →
      AfterB T mu0 pr0 h0 w0 mu pr (hpA T act (lst listed) f rows0) w → a.defers = a0.defers → wpAny P .any ops Q fuel listed a w := by
    intro fuel listed mu pr w a hs hhi hlo hcnt E R hfree A hd
    have e1 : lw (we ops vals) (lst listed) f σ = lw (we ops vals) allL f σ := lw_congr f fun j hj => ⟨rfl, hlo j hj⟩
    have e2 : hpA T act (lst listed) f rows0 = hpA T act allL f rows0 := by
      have : lw act (lst listed) f rows0 = lw act allL f rows0 := lw_congr f fun j hj => ⟨rfl, hlo j hj⟩
      unfold hpA
      rw [this]
    rw [e1] at E
    rw [e2] at R A
    have hL : ∀ j, lst listed j = decide (j < f) := fun j => by
      rcases Nat.lt_or_ge j f with h | h
      · rw [hlo j h]; simp [h]
      · rw [hhi j h]; simp; omega
    have hsz := S.size
    have hc : ∀ n, f ≤ n → cnt (lst listed) n = n - f := by
      intro n
      induction n with
      | zero => intro h; simp [cnt]
      | succ n ihn =>
        intro h
        simp only [cnt]
        rcases Nat.lt_or_ge n f with h1 | h1
        · have : f = n + 1 := by omega
          have hz : ∀ n', n' ≤ f → cnt (lst listed) n' = 0 := by
            intro n'
            induction n' with
            | zero => intro _; rfl
            | succ n' ih' => intro h'; simp only [cnt]; rw [ih' (by omega), hL n', if_pos (by simp; omega)]
          rw [hz n (by omega), hL n, if_pos (by simp [h1])]
          omega
        · rw [ihn h1, hL n, if_neg (by simp; omega)]
          omega
    refine tail_ok S hall (ops.size - f) f fuel listed a w (by omega) (Nat.le_refl f) (by rw [hc _ hsz] at hcnt; exact hcnt) hs (fun j _ => hL j) ?_
    have h1 := wpOps_ok (Q := Q) hall (ops.toList.drop f) f _ _ K mu pr w a (fun j => by simp [List.getElem?_drop]) htail E R (Nat.lt_succ_self T) (fun i j v hi => hfree i j v (hhi i hi)) (fun σ' h' mu' pr' w' a' hk E' A' hd' => hQ σ' h' mu' pr' w' a' hk E' (A.trans A') (hd'.trans hd))
    simpa using h1
  intro fuel
  induction fuel with
  | zero =>
    intro listed mu pr w a hs hc hhi hcnt E R hfree A hd
    exact fin 0 listed mu pr w a hs hhi (fun j hj => cnt_zero _ (Nat.le_zero.1 hcnt) j (Nat.lt_of_lt_of_le hj S.size)) hcnt E R hfree A hd
  | succ m ih =>
    intro listed mu pr w a hs hc hhi hcnt E R hfree A hd
    by_cases hex : ∃ j, j < f ∧ lst listed j = false
    case neg =>
      exact fin (m + 1) listed mu pr w a hs hhi (fun j hj => by
        cases h : lst listed j with
        | true => rfl
        | false => exact (hex ⟨j, hj, h⟩).elim) hcnt E R hfree A hd
    case pos =>
      obtain ⟨j0, hj0, hlj0⟩ := hex
      refine ⟨fun hr => absurd hr (ready_least S hs j0 (Nat.lt_of_lt_of_le hj0 S.size) hlj0), fun i hi => ?_⟩
      obtain ⟨h1, o, ho, h2⟩ := (mem_ready' hs).1 hi
      have hilt := (Array.getElem?_eq_some_iff.1 ho).1
      have hif : i < f := by
        rcases Nat.lt_or_ge i f with h3 | h3
        · exact h3
        · exfalso
          obtain ⟨o', ho'⟩ := S.get ho (show j0 < i by omega)
          have := S.listed hc i o ho h2 j0 (S.tail i j0 o o' ho ho' (by omega) h3)
          rw [hlj0] at this
          cases this
      obtain ⟨g1, g2, g3⟩ := draw_step S Tr hc ho hif h1 h2
      have hset : lst (listed.setIfInBounds i true) = fun j => lst listed j || j == i := funext fun j => lst_set (by omega) j
      have hsz' : (listed.setIfInBounds i true).size = ops.size := by simp [hs]
      have hc' : Closed ops (lst (listed.setIfInBounds i true)) := fun j oj hoj hlj e he hb => by
        rw [hset] at hlj ⊢
        simp only [Bool.or_eq_true, beq_iff_eq] at hlj ⊢
        rcases hlj with hlj | rfl
        · exact .inl (hc j oj hoj hlj e he hb)
        · rw [ho] at hoj; cases hoj
          exact .inl (h2 e he hb)
      have hhi' : ∀ j, f ≤ j → lst (listed.setIfInBounds i true) j = false := fun j hj => by
        rw [hset]
        have : (j == i) = false := by simp; omega
        simp [hhi j hj, this]
      have hcnt' : cnt (lst (listed.setIfInBounds i true)) ops.size ≤ m := by
        have := cnt_set h1 ops.size hilt
        rw [hset]
        omega
      have hdst := hall i o ho
      have step : ∀ (mu' : Nm → Nat → Option Loc) (pr' : Bool → Nat → Prop) (w' : World) (a' : Act), EnvR mu' pr' w'.heap (upd (o.dst.map fun d => (d, vals i)) (lw (we ops vals) (lst listed) f σ)) a' N →
          Rel mu' pr' ⟨upd (act i) (lw act (lst listed) f rows0), T + 1⟩ w' → (∀ i' j v, lst listed i' = false → i' ≠ i → mu' (T, i', j) v = none) →
          AfterB T mu0 pr0 h0 w0 mu' pr' ⟨upd (act i) (lw act (lst listed) f rows0), T + 1⟩ w' → a'.defers = a0.defers → wpAny P .any ops Q m (listed.setIfInBounds i true) a' w' := by
        intro mu' pr' w' a' E' R' hf' A' hd'
        refine ih (listed.setIfInBounds i true) mu' pr' w' a' hsz' hc' hhi' hcnt' ?_ ?_ ?_ ?_ hd'
        · rw [hset, g1]; exact E'
        · unfold hpA; rw [hset, g2]; exact R'
        · intro i' j v hl
          rw [hset] at hl
          simp only [Bool.or_eq_false_iff, beq_eq_false_iff_ne] at hl
          exact hf' i' j v hl.1 hl.2
        · unfold hpA; rw [hset, g2]; exact A'
      have hput : ∀ v : AV, putA o.dst v (lw (we ops vals) (lst listed) f σ) = upd (o.dst.map fun d => (d, v)) (lw (we ops vals) (lst listed) f σ) := fun v => by cases o.dst <;> rfl
      unfold wpOp
      simp only [ho]
      rcases g3 with ⟨q1, q2, q3⟩ | ⟨q1, q2⟩
      · rw [wantedA_ok E hall q1, if_neg (by simp)]
        refine step mu pr w _ ?_ ?_ (fun i' j v hl _ => hfree i' j v hl) ?_ ((Act.put_defers' _ _ _).trans hd)
        · rw [q2, ← hput]; exact E.put hdst (VR.tup_mk .nil)
        · rw [q3]; exact R
        · rw [q3]; exact A
      · rw [wantedA_ok E hall q1, if_pos rfl]
        left
        refine stepW_ok q2 E R (fun v => hfree i 0 v h1) (Nat.lt_succ_self T) (fun v z h' mu' pr' w' hk hv A' hfr => ?_)
        obtain ⟨rfl, rfl⟩ := hk
        refine step mu' pr' w' _ ?_ A'.rel (fun i' j v' hl hne => hfr (T, i', j) rfl (fun e => by cases e; exact hne rfl) (fun v => hfree i' j v hl) v') (A.trans A') ((Act.put_defers' _ _ _).trans hd)
        rw [← hput]
        exact (E.mono A'.ext).put hdst hv

/-- **What is asked of a region that draws its order is enough.** -/
theorem drawW_ok (hm : P.follows .mixedOrders = true) : DrawOk P (drawW P M (Sound P)) := by
  intro id ops σ h K N hw hall mu pr w a Q E R hQ
  obtain ⟨f, W, hd, hfr⟩ := hw
  have S := drawS_of hd
  obtain ⟨vals, act, _, Tr, htail⟩ := trace (M := M) (C := Sound P) (T := h.tick) (rows0 := h.rows) (σ := σ) S.size f 0 (fun _ => .undef) (fun _ => none) (by omega) (by rw [List.drop_zero]; exact hfr)
  refine wp_region_any hm ?_
  have hl : lst (Array.replicate ops.size false) = fun _ => false := funext fun j => by
    unfold lst
    by_cases h : j < ops.size <;> simp [h]
  have hz : ∀ {K V : Type} [DecidableEq K] (wr : Nat → Option (K × V)) (b : K → V) (n : Nat), lw wr (fun _ => false) n b = b := by
    intro K V _ wr b n
    induction n with
    | zero => rfl
    | succ n ih => simp only [lw]; rw [if_neg (by simp), ih]
  have hcz : ∀ n, cnt (fun _ => false) n = n := by
    intro n
    induction n with
    | zero => rfl
    | succ n ih => simp only [cnt, ih]; simp
  have R' : Rel mu pr (hpA h.tick act (fun _ => false) f h.rows) { w with drawn := w.drawn + 1 } := by
    unfold hpA
    rw [hz]
    have := R.next
    exact ⟨this.row, this.inj, this.fresh, this.vers, this.lt, this.tab⟩
  refine front_ok (M := M) S hall (fun j hj => Tr j (Nat.zero_le j) hj) htail (mu0 := mu) (pr0 := pr) (h0 := h.next) (w0 := w) (a0 := a) (fun σ' h' mu' pr' w' a' hk E' A hd => ?_) ops.size _ mu pr _ a (by simp) ?_ ?_ ?_ ?_ ?_ ?_ ?_ rfl
  · exact hQ σ' h' mu' pr' w' a' hk E' ⟨A.rel, A.ext, A.fr, A.grow, A.tru, A.names, Nat.le_trans (Nat.le_succ _) A.tick⟩ hd
  · rw [hl]; intro i o ho hli; cases hli
  · rw [hl]; intro j _; rfl
  · rw [hl, hcz]; exact Nat.le_refl _
  · rw [hl, hz]; exact E
  · rw [hl]; exact R'
  · intro i j v _; exact R.fresh h.tick i j v (Nat.le_refl _)
  · rw [hl]
    exact ⟨R', .refl, ⟨rfl, rfl, rfl, Nat.le_refl _⟩, fun b hb => .inl hb, fun b hb => hb, fun n _ hn => hn, Nat.le_refl _⟩
end

/-! ### In every order -/
def readyL (ops : Array Oper) (done : List Nat) : List Nat := (List.range ops.size).filter fun i => !done.contains i && match ops[i]? with
  | some o => o.after.toList.all fun e => !Region.binds .any e || done.contains e.on
  | none => false
def allW : List Nat → (Nat → Prop) → Prop
  | [], _ => True
  | i :: l, k => k i ∧ allW l k
theorem allW_mem {k : Nat → Prop} : ∀ {l : List Nat}, allW l k → ∀ i ∈ l, k i
  | [], _, i, hi => by cases hi
  | j :: l, h, i, hi => by
    simp only [List.mem_cons] at hi
    rcases hi with rfl | hi
    · exact h.1
    · exact allW_mem h.2 i hi
theorem all_nil {k : Nat → Prop} : allW [] k := trivial
theorem all_cons {k : Nat → Prop} {i : Nat} {l : List Nat} (h1 : k i) (h2 : allW l k) : allW (i :: l) k := ⟨h1, h2⟩

def anyW (P : Program) (M : FuncId → Mode) (C : CS) (ops : Array Oper) (T : Nat) : Nat → List Nat → (Nat → AV) → Hp → ((Nat → AV) → Hp → Prop) → Prop
  | 0, done, σ, h, K => readyL ops done = [] ∧ K σ h
  | n + 1, done, σ, h, K => (readyL ops done = [] → K σ h) ∧ allW (readyL ops done) fun i => ∃ o, ops[i]? = some o ∧ wpOps P M C ops T [o] i σ h (fun σ' h' => anyW P M C ops T n (i :: done) σ' h' K)

section
variable {P : Program} {M : FuncId → Mode} {ops : Array Oper} {T N : Nat} {K : (Nat → AV) → Hp → Prop}

theorem anyW_mono {C C' : CS} (hC : CS.le C C') {K' : (Nat → AV) → Hp → Prop} (hK : ∀ σ' h', K σ' h' → K' σ' h') : ∀ (n : Nat) (done : List Nat) (σ : Nat → AV) (h : Hp), anyW P M C ops T n done σ h K → anyW P M C' ops T n done σ h K'
  | 0, _, _, _, hw => ⟨hw.1, hK _ _ hw.2⟩
  | n + 1, done, σ, h, hw => by
    refine ⟨fun e => hK _ _ (hw.1 e), ?_⟩
    have h2 := hw.2
    generalize readyL ops done = l at h2
    induction l with
    | nil => exact trivial
    | cons i l ih =>
      obtain ⟨⟨o, ho, h3⟩, h4⟩ := h2
      exact ⟨⟨o, ho, wpOps_mono hC _ _ _ _ _ _ (fun σ' h' hr => anyW_mono hC hK n _ _ _ hr) h3⟩, ih h4⟩

theorem any_ok (hall : ∀ (j : Nat) (o : Oper), ops[j]? = some o → dstOk N o.dst = true) {Q : Exit → Act → World → Prop} {mu0 : Nm → Nat → Option Loc} {pr0 : Bool → Nat → Prop} {h0 : Hp} {w0 : World} {a0 : Act}
    (hQ : ∀ σ' h' mu' pr' w' a', K σ' h' → EnvR mu' pr' w'.heap σ' a' N → AfterB T mu0 pr0 h0 w0 mu' pr' h' w' → a'.defers = a0.defers → Q .normal a' w') :
    ∀ (fuel : Nat) (done : List Nat) (listed : Array Bool) (σ : Nat → AV) (h : Hp) (mu : Nm → Nat → Option Loc) (pr : Bool → Nat → Prop) (w : World) (a : Act), listed.size = ops.size → (∀ j ∈ done, j < ops.size) → (∀ j, j < ops.size → lst listed j = done.contains j) →
    anyW P M (Sound P) ops T fuel done σ h K → EnvR mu pr w.heap σ a N → Rel mu pr h w → T < h.tick → (∀ i j v, i < ops.size → done.contains i = false → mu (T, i, j) v = none) →
    AfterB T mu0 pr0 h0 w0 mu pr h w → a.defers = a0.defers → wpAny P .any ops Q fuel listed a w := by
  have hrd : ∀ (done : List Nat) (listed : Array Bool), listed.size = ops.size → (∀ j, j < ops.size → lst listed j = done.contains j) → ∀ i, i ∈ Region.ready .any ops listed → i ∈ readyL ops done := by
    intro done listed hs hl i hi
    obtain ⟨h1, o, ho, h2⟩ := (mem_ready' hs).1 hi
    have hilt := (Array.getElem?_eq_some_iff.1 ho).1
    simp only [readyL, List.mem_filter, List.mem_range, ho, Bool.and_eq_true]
    refine ⟨hilt, by rw [← hl i hilt, h1]; rfl, ?_⟩
    rw [List.all_eq_true]
    intro e he
    cases hb : Region.binds .any e with
    | false => rfl
    | true =>
      have h3 := h2 e (by simpa using he) hb
      have h4 : e.on < ops.size := by
        rcases Nat.lt_or_ge e.on ops.size with h | h
        · exact h
        · exfalso
          unfold lst at h3
          rw [← hs] at h
          simp [Array.getD, Nat.not_lt.2 h] at h3
      rw [hl e.on h4] at h3
      simp only [Bool.not_true, Bool.false_or, h3]
  have hrd2 : ∀ (done : List Nat) (listed : Array Bool), listed.size = ops.size → (∀ j ∈ done, j < ops.size) → (∀ j, j < ops.size → lst listed j = done.contains j) → Region.ready .any ops listed = [] → readyL ops done = [] := by
    intro done listed hs hdn hl he
    refine List.eq_nil_iff_forall_not_mem.2 fun i hi => ?_
    simp only [readyL, List.mem_filter, List.mem_range, Bool.and_eq_true] at hi
    obtain ⟨hilt, h1, h2⟩ := hi
    have ho : ops[i]? = some ops[i] := by simp [hilt]
    rw [ho] at h2
    simp only [List.all_eq_true] at h2
    have : i ∈ Region.ready .any ops listed := (mem_ready' hs).2 ⟨by rw [hl i hilt]; simpa using h1, _, ho, fun e hee hb => by
      have h3 := h2 e (by simpa using hee)
      rw [hb] at h3
      simp only [Bool.not_true, Bool.false_or] at h3
      rw [hl e.on (hdn _ (by simpa using h3))]
      exact h3⟩
    rw [he] at this
    cases this
  intro fuel
  induction fuel with
  | zero =>
    intro done listed σ h mu pr w a hs hdn hl hw E R hT hfree A hd
    refine ⟨List.eq_nil_iff_forall_not_mem.2 fun i hi => ?_, hQ _ _ _ _ _ _ hw.2 E A hd⟩
    have := hrd done listed hs hl i hi
    rw [hw.1] at this
    cases this
  | succ m ih =>
    intro done listed σ h mu pr w a hs hdn hl hw E R hT hfree A hd
    refine ⟨fun hr => hQ _ _ _ _ _ _ (hw.1 (hrd2 done listed hs hdn hl hr)) E A hd, fun i hi => ?_⟩
    obtain ⟨h1, o', ho', _⟩ := (mem_ready' hs).1 hi
    have hilt := (Array.getElem?_eq_some_iff.1 ho').1
    obtain ⟨o, ho, h3⟩ := allW_mem hw.2 i (hrd done listed hs hl i hi)
    have hni : done.contains i = false := by rw [← hl i hilt]; exact h1
    have hdst := hall i o ho
    have hl' : ∀ j, j < ops.size → lst (listed.setIfInBounds i true) j = (i :: done).contains j := fun j hj => by
      rw [lst_set (by omega), hl j hj]
      simp only [List.contains_cons]
      rw [Bool.or_comm]
    have hdn' : ∀ j ∈ i :: done, j < ops.size := fun j hj => by
      simp only [List.mem_cons] at hj
      rcases hj with rfl | hj
      · exact hilt
      · exact hdn j hj
    unfold wpOps at h3
    unfold wpOp
    simp only [ho]
    split at h3
    case h_2 => 
      rename_i hwt
      rw [wantedA_ok E hall hwt, if_neg (by simp)]
      refine ih (i :: done) (listed.setIfInBounds i true) _ h mu pr w _ (by simp [hs]) hdn' hl' h3 (E.put hdst (VR.tup_mk .nil)) R hT (fun i' j v hi' hc => hfree i' j v hi' ?_) A ((Act.put_defers' _ _ _).trans hd)
      simp only [List.contains_cons, Bool.or_eq_false_iff] at hc
      exact hc.2
    case h_1 =>
      rename_i hwt
      rw [wantedA_ok E hall hwt, if_pos rfl]
      left
      refine stepW_ok h3 E R (fun v => hfree i 0 v hilt hni) hT (fun v z h' mu' pr' w' hk hv A' hfr => ?_)
      refine ih (i :: done) (listed.setIfInBounds i true) _ h' mu' pr' w' _ (by simp [hs]) hdn' hl' hk ((E.mono A'.ext).put hdst hv) A'.rel (Nat.lt_of_lt_of_le hT A'.tick) (fun i' j v' hi' hc => ?_) (A.trans A') ((Act.put_defers' _ _ _).trans hd)
      simp only [List.contains_cons, Bool.or_eq_false_iff, beq_eq_false_iff_ne] at hc
      exact hfr (T, i', j) rfl (fun e => by cases e; exact hc.1 rfl) (fun v => hfree i' j v hi' hc.2) v'
    case h_3 => exact h3.elim
end

end Go.Proofs.YtmcmgeedhbgglaaGreatDoor.AM

namespace Go.Proofs.YtmcmgeedhbgglaaGreatDoor.AM
open Go.RowKit

/-- An operation that leaves all rows as they are (new ones may come). -/
def isStill (M : FuncId → Mode) : Op → Bool
  | .store .. => false
  | .call ⟨.builtin .append, _, _⟩ => false
  | .call ⟨.builtin .copy, _, _⟩ => false
  | .call ⟨.builtin .clear, _, _⟩ => false
  | .call ⟨.value (.func g), _, _⟩ => match M g with
    | .heap => false
    | _ => true
  | .call ⟨.value _, _, _⟩ => false
  | _ => true

def Hp.plusF (h : Hp) (ex : Nm → Option Row) : Hp := ⟨fun m => match ex m with
  | some r => some r
  | none => h.rows m, h.tick⟩

def plusL (T : Nat) : List (Nat × Row) → Hp → Hp
  | [], h => h
  | (i, r) :: l, h => (plusL T l h).put (T, i, 0) r

def exL (T : Nat) (pn : List (Nat × Row)) (L : Nat → Bool) : Nm → Option Row := fun m => if m.1 = T ∧ m.2.2 = 0 ∧ L m.2.1 = true then pn.lookup m.2.1 else none

theorem plusF_rows {h : Hp} {ex : Nm → Option Row} {m : Nm} : (h.plusF ex).rows m = match ex m with
  | some r => some r
  | none => h.rows m := rfl

theorem plusL_eq {T : Nat} {h : Hp} : ∀ pn : List (Nat × Row), plusL T pn h = h.plusF (exL T pn allL)
  | [] => by
    unfold plusL Hp.plusF exL
    simp
  | (i, r) :: l => by
    unfold plusL
    rw [plusL_eq l]
    unfold Hp.plusF Hp.put
    congr 1
    funext m
    obtain ⟨a, b, c⟩ := m
    unfold exL
    simp only [allL, and_true, List.lookup_cons]
    by_cases ha : a = T <;> by_cases hc : c = 0 <;> by_cases hb : b = i <;> simp [ha, hc, hb]
    · have : (b == i) = false := by simp [hb]
      rw [this]

theorem lookup_filter {f : Nat → Bool} {i : Nat} : ∀ l : List (Nat × Row), (l.filter fun p => f p.1).lookup i = if f i = true then l.lookup i else none
  | [] => by simp
  | (j, r) :: l => by
    by_cases hj : f j = true
    · rw [List.filter_cons_of_pos (by simpa using hj), List.lookup_cons, List.lookup_cons, lookup_filter l]
      by_cases hij : i = j
      · subst hij; simp [hj]
      · have : (i == j) = false := by simp [hij]
        rw [this]
    · rw [List.filter_cons_of_neg (by simpa using hj), lookup_filter l, List.lookup_cons]
      by_cases hij : i = j
      · subst hij; simp [hj]
      · have : (i == j) = false := by simp [hij]
        rw [this]

theorem exL_filter {T : Nat} {f : Nat → Bool} {pn : List (Nat × Row)} {L : Nat → Bool} : exL T (pn.filter fun p => f p.1) L = exL T pn (fun i => f i && L i) := by
  funext m
  unfold exL
  rw [lookup_filter]
  by_cases h : f m.2.1 = true
  · simp [h]
  · simp [h]

def quietsOk (app : Bool) (M : FuncId → Mode) (ops : Array Oper) (D : List Nat) (i : Nat) : Bool :=
  (List.range ops.size).all fun j => D.contains j || j == i || befB (Region.before ops) j i || (match ops[j]? with
    | some o => isStill M o.op || (app && isApp o.op)
    | none => true)

def frmOk (M : FuncId → Mode) (ops : Array Oper) (pn : List (Nat × Row)) (i : Nat) (op : Op) : Bool := isStill M op || isApp op || pn.all fun p => befB (Region.before ops) i p.1

def appT (T : Nat) (σ : Nat → AV) : Op → Prop
  | .call ⟨.builtin .append, ⟨[s, _]⟩, _⟩ => match opd σ s with
    | .sl m _ _ _ => m.1 = T
    | _ => True
  | _ => True

/-- What is asked of a region that draws its order: what changes nothing that others see goes first; the others in every order. 'D': what is done; 'pn': new rows, not yet seen; 'q': whether something was read that an append must not change. -/
def lazyW (P : Program) (M : FuncId → Mode) (C : CS) (ops : Array Oper) (T : Nat) : Nat → List Nat → List (Nat × Row) → Bool → (Nat → AV) → Hp → ((Nat → AV) → Hp → Prop) → Prop
  | 0, _, _, _, _, _, _ => False
  | n + 1, D, pn, q, σ, h, K =>
    (readyL ops D = [] ∧ K σ (plusL T pn h)) ∨
    (∃ i o, ops[i]? = some o ∧ i ∈ readyL ops D ∧ ((wantedA ops σ o = some false ∧ lazyW P M C ops T n (i :: D) pn q (putA o.dst (.tup []) σ) h K) ∨ (wantedA ops σ o = some true ∧
      ((∃ v, evQ P (opd σ) (fun _ => none) o.op = some v ∧ lazyW P M C ops T n (i :: D) pn q (putA o.dst v σ) h K) ∨
       (∃ v, quietsOk true M ops D i = true ∧ evQ P (opd σ) (maskR T (fun _ => false) h.rows) o.op = some v ∧ lazyW P M C ops T n (i :: D) pn true (putA o.dst v σ) h K) ∨
       (∃ v, quietsOk false M ops D i = true ∧ evQ P (opd σ) (plusL T (pn.filter fun p => befB (Region.before ops) i p.1) h).rows o.op = some v ∧ lazyW P M C ops T n (i :: D) pn q (putA o.dst v σ) h K) ∨
       (∃ v r, newA P (T, i, 0) (opd σ) o.op = some (v, r) ∧ lazyW P M C ops T n (i :: D) ((i, r) :: pn) q (putA o.dst v σ) h K))))) ∨
    (readyL ops D ≠ [] ∧ allW (readyL ops D) fun i => ∃ o, ops[i]? = some o ∧ frmOk M ops pn i o.op = true ∧ (q = true → appT T σ o.op) ∧
      wpOps P M C ops T [o] i σ (plusL T (pn.filter fun p => befB (Region.before ops) i p.1) h) (fun σ' h' => lazyW P M C ops T n (i :: D) (pn.filter fun p => !befB (Region.before ops) i p.1) q σ' h' K))

theorem allW_map {k k' : Nat → Prop} (h : ∀ i, k i → k' i) : ∀ l : List Nat, allW l k → allW l k'
  | [], _ => trivial
  | i :: l, hw => ⟨h i hw.1, allW_map h l hw.2⟩

theorem lazyW_mono {P : Program} {M : FuncId → Mode} {C C' : CS} {ops : Array Oper} {T : Nat} (hC : CS.le C C') {K K' : (Nat → AV) → Hp → Prop} (hK : ∀ σ' h', K σ' h' → K' σ' h') : ∀ (n : Nat) (D : List Nat) (pn : List (Nat × Row)) (q : Bool) (σ : Nat → AV) (h : Hp), lazyW P M C ops T n D pn q σ h K → lazyW P M C' ops T n D pn q σ h K'
  | 0, _, _, _, _, _, hw => hw
  | n + 1, D, pn, q, σ, h, hw => by
    rcases hw with ⟨h1, h2⟩ | ⟨i, o, h1, h2, h3⟩ | ⟨h1, h2⟩
    · exact .inl ⟨h1, hK _ _ h2⟩
    · refine .inr (.inl ⟨i, o, h1, h2, ?_⟩)
      rcases h3 with ⟨h3, h4⟩ | ⟨h3, h4⟩
      · exact .inl ⟨h3, lazyW_mono hC hK n _ _ _ _ _ h4⟩
      · refine .inr ⟨h3, ?_⟩
        rcases h4 with ⟨v, h4, h5⟩ | ⟨v, h4, h5, h6⟩ | ⟨v, h4, h5, h6⟩ | ⟨v, r, h4, h5⟩
        · exact .inl ⟨v, h4, lazyW_mono hC hK n _ _ _ _ _ h5⟩
        · exact .inr (.inl ⟨v, h4, h5, lazyW_mono hC hK n _ _ _ _ _ h6⟩)
        · exact .inr (.inr (.inl ⟨v, h4, h5, lazyW_mono hC hK n _ _ _ _ _ h6⟩))
        · exact .inr (.inr (.inr ⟨v, r, h4, lazyW_mono hC hK n _ _ _ _ _ h5⟩))
    · refine .inr (.inr ⟨h1, allW_map (fun i ⟨o, h3, h4, h5, h6⟩ => ⟨o, h3, h4, h5, ?_⟩) _ h2⟩)
      exact wpOps_mono hC _ _ _ _ _ _ (fun σ' h' hr => lazyW_mono hC hK n _ _ _ _ _ hr) h6

/-! ### The static part -/
def lazyOk (ops : Array Oper) : Bool :=
  (List.range ops.size).all fun i => match ops[i]? with
    | none => true
    | some o => decide ((Region.before ops).getD i 0 < 2 ^ i) && (o.after.toList.all fun e => !Region.binds .any e || decide (e.on < i)) &&
      ((List.range ops.size).all fun j => match ops[j]? with
        | none => true
        | some o' => (decide (i ≤ j) || !befB (Region.before ops) i j || o.after.toList.any fun e => Region.binds .any e && (e.on == j || befB (Region.before ops) e.on j)) &&
          (match o'.dst with
            | none => true
            | some t => (!(o.looksAt ops).contains t || befB (Region.before ops) i j) && (i == j || !(o.dst == some t))))

structure LazyS (ops : Array Oper) : Prop where
  bits : ∀ (i j : Nat) (o : Oper), ops[i]? = some o → befB (Region.before ops) i j = true → j < i
  edge : ∀ (i : Nat) (o : Oper), ops[i]? = some o → ∀ e ∈ o.after, Region.binds .any e = true → e.on < i
  clos : ∀ (i j : Nat) (o o' : Oper), ops[i]? = some o → ops[j]? = some o' → j < i → befB (Region.before ops) i j = true → ∃ e ∈ o.after, Region.binds .any e = true ∧ (e.on = j ∨ befB (Region.before ops) e.on j = true)
  looks : ∀ (i j : Nat) (o o' : Oper) (t : Tmp), ops[i]? = some o → ops[j]? = some o' → o'.dst = some t → t ∈ o.looksAt ops → befB (Region.before ops) i j = true
  dsts : ∀ (i j : Nat) (o o' : Oper) (t : Tmp), ops[i]? = some o → ops[j]? = some o' → o.dst = some t → o'.dst = some t → i = j

theorem lazyS_of {ops : Array Oper} (h : lazyOk ops = true) : LazyS ops := by
  simp only [lazyOk] at h
  have key : ∀ (i : Nat) (o : Oper), ops[i]? = some o → _ := fun i o ho => by
    have h1 := List.all_eq_true.1 h i (List.mem_range.2 (Array.getElem?_eq_some_iff.1 ho).1)
    rw [ho] at h1
    simp only [Bool.and_eq_true, decide_eq_true_eq] at h1
    exact h1
  have key2 : ∀ (i j : Nat) (o o' : Oper), ops[i]? = some o → ops[j]? = some o' → _ := fun i j o o' ho ho' => by
    have h2 := List.all_eq_true.1 (key i o ho).2 j (List.mem_range.2 (Array.getElem?_eq_some_iff.1 ho').1)
    rw [ho'] at h2
    simp only [Bool.and_eq_true] at h2
    exact h2
  have bits : ∀ (i j : Nat) (o : Oper), ops[i]? = some o → befB (Region.before ops) i j = true → j < i := fun i j o ho hb => by
    rcases Nat.lt_or_ge j i with h1 | h1
    · exact h1
    · have h2 := (key i o ho).1.1
      have h3 := Nat.testBit_lt_two_pow (Nat.lt_of_lt_of_le h2 (Nat.pow_le_pow_right (by decide) h1))
      unfold befB at hb
      rw [h3] at hb
      cases hb
  refine ⟨bits, fun i o ho e he hb => ?_, fun i j o o' ho ho' hj hb => ?_, fun i j o o' t ho ho' ht hl => ?_, fun i j o o' t ho ho' ht ht' => ?_⟩
  · have := List.all_eq_true.1 (key i o ho).1.2 e (by simpa using he)
    simpa [hb] using this
  · have := (key2 i j o o' ho ho').1
    rw [hb] at this
    have hd : decide (i ≤ j) = false := by simp; omega
    simp only [hd, Bool.not_true, Bool.false_or, List.any_eq_true, Bool.and_eq_true, Bool.or_eq_true, beq_iff_eq] at this
    obtain ⟨e, he, hb1, hb2⟩ := this
    exact ⟨e, by simpa using he, hb1, hb2⟩
  · have := (key2 i j o o' ho ho').2
    rw [ht] at this
    simp only [Bool.and_eq_true, Bool.or_eq_true, Bool.not_eq_true'] at this
    rcases this.1 with h5 | h5
    · have h6 : (o.looksAt ops).contains t = true := by simpa using hl
      rw [h5] at h6
      cases h6
    · exact h5
  · have := (key2 i j o o' ho ho').2
    rw [ht'] at this
    simp only [Bool.and_eq_true, Bool.or_eq_true, Bool.not_eq_true', beq_iff_eq] at this
    rcases this.2 with h5 | h5
    · exact h5
    · rw [ht] at h5
      simp at h5

theorem LazyS.listed {ops : Array Oper} (S : LazyS ops) {L : Nat → Bool} (hc : Closed ops L) : ∀ (i : Nat) (o : Oper), ops[i]? = some o → (∀ e ∈ o.after, Region.binds .any e = true → L e.on = true) → ∀ j, befB (Region.before ops) i j = true → L j = true := by
  intro i
  induction i using Nat.strongRecOn with
  | _ i ih =>
    intro o ho hl j hb
    have hj := S.bits i j o ho hb
    have hsz := (Array.getElem?_eq_some_iff.1 ho).1
    have ho' : ops[j]? = some (ops[j]'(by omega)) := by simp
    obtain ⟨e, he, hbi, h1⟩ := S.clos i j o _ ho ho' hj hb
    have hon := S.edge i o ho e he hbi
    have hle := hl e he hbi
    rcases h1 with rfl | h2
    · exact hle
    · have hoe : ops[e.on]? = some (ops[e.on]'(by omega)) := by simp
      exact ih e.on hon _ hoe (hc e.on _ hoe hle) j h2

theorem LazyS.least {ops : Array Oper} (S : LazyS ops) {listed : Array Bool} (hs : listed.size = ops.size) : ∀ (i : Nat), i < ops.size → lst listed i = false → Region.ready .any ops listed ≠ [] := by
  intro i
  induction i using Nat.strongRecOn with
  | _ i ih =>
    intro hi hl hr
    by_cases hex : ∃ j, j < i ∧ lst listed j = false
    · obtain ⟨j, h1, h2⟩ := hex
      exact ih j h1 (by omega) h2 hr
    · have ho : ops[i]? = some ops[i] := by simp
      have : i ∈ Region.ready .any ops listed := (mem_ready' hs).2 ⟨hl, _, ho, fun e he hb => by
        have := S.edge i _ ho e he hb
        cases h : lst listed e.on with
        | true => rfl
        | false => exact (hex ⟨e.on, this, h⟩).elim⟩
      rw [hr] at this
      cases this

theorem mem_readyL {ops : Array Oper} {D : List Nat} {i : Nat} : i ∈ readyL ops D ↔ D.contains i = false ∧ ∃ o, ops[i]? = some o ∧ ∀ e ∈ o.after, Region.binds .any e = true → D.contains e.on = true := by
  simp only [readyL, List.mem_filter, List.mem_range, Bool.and_eq_true, Bool.not_eq_true']
  constructor
  · rintro ⟨h1, h2, h3⟩
    have ho : ops[i]? = some ops[i] := by simp [h1]
    rw [ho] at h3
    simp only [List.all_eq_true] at h3
    refine ⟨h2, _, ho, fun e he hb => ?_⟩
    have := h3 e (by simpa using he)
    rw [hb] at this
    simpa using this
  · rintro ⟨h1, o, ho, h2⟩
    refine ⟨(Array.getElem?_eq_some_iff.1 ho).1, h1, ?_⟩
    rw [ho]
    simp only [List.all_eq_true]
    intro e he
    cases hb : Region.binds .any e with
    | false => rfl
    | true => rw [h2 e (by simpa using he) hb]; rfl
end Go.Proofs.YtmcmgeedhbgglaaGreatDoor.AM

namespace Go.Proofs.YtmcmgeedhbgglaaGreatDoor.AM
open Go.RowKit

section
variable {P : Program} {M : FuncId → Mode}

theorem memA_congr {n : Nm} {ρ ρ' : Operand → AV} {h : Hp} {op : Op} (hp : ∀ x ∈ op.operands, ρ x = ρ' x) : memA P n ρ h op = memA P n ρ' h op := by
  cases op <;> simp only [Op.operands] at hp <;> try (simp only [memA]; done)
  case box t x => simp only [memA, hp x (by simp)]
  case buildSlice t len parts => simp only [memA, pairs_congr fun x hx => hp x (by simpa using hx)]
  case makeSlice t l c => simp only [memA, hp l (by simp), hp c (by simp)]
  case store t a x => simp only [memA, hp a (by simp), hp x (by simp)]
  case call c =>
    have hargs : ∀ x ∈ c.args.toList, ρ x = ρ' x := fun x hx => hp x (by simp [Call.operands]; right; simpa using hx)
    unfold memA
    split <;> simp_all

theorem stepW_congr {C : CS} {n : Nm} {o : Oper} {σ σ' : Nat → AV} {h : Hp} {K : AV → Hp → Prop} (hp : ∀ x ∈ o.op.operands, opd σ x = opd σ' x) (hw : stepW P M C n o σ h K) : stepW P M C n o σ' h K := by
  unfold stepW at *
  rw [← evQ_congr o.op hp, ← memA_congr hp]
  split at hw
  · exact hw
  · split at hw
    · exact hw
    · split at hw
      case h_2 => exact hw.elim
      case h_1 f args ts hop =>
        have e1 : opd σ f = opd σ' f := hp f (by rw [hop]; simp [Op.operands, Call.operands])
        have e2 : args.toList.map (opd σ) = args.toList.map (opd σ') := List.map_congr_left fun x hx => hp x (by rw [hop]; simp [Op.operands, Call.operands]; right; simpa using hx)
        rw [← e1]
        split at hw
        case h_2 => exact hw.elim
        case h_1 g cap hf =>
          rw [← e2]
          exact hw

theorem memA_isNew {n : Nm} {ρ : Operand → AV} {h h' : Hp} {op : Op} {v : AV} (hn : isNew op = true) (he : memA P n ρ h op = some (v, h')) : ∃ r, newA P n ρ op = some (v, r) := by
  unfold newA
  rw [if_pos hn]
  have key : ∀ {y : AV} {r : Row}, memA P n ρ (.mt (n.1 + 1)) op = some (y, (Hp.mt (n.1 + 1)).put n r) → y = v → ∃ r, (match memA P n ρ (.mt (n.1 + 1)) op with
      | some (v, h') => match h'.rows n with
        | some r => some (v, r)
        | none => none
      | none => none) = some (v, r) := by
    intro y r h1 h2
    rw [h1]
    subst h2
    simp only [Hp.put_rows, if_true]
    exact ⟨_, rfl⟩
  cases op <;> simp [isNew] at hn
  case alloc t =>
    simp only [memA, allocA] at he
    (repeat' split at he) <;> first | (cases he; done) | skip
    rename_i z hz ho
    simp only [Option.some.injEq, Prod.mk.injEq] at he
    exact key (r := ⟨0, z.length, [z]⟩) (by simp only [memA, allocA, hz, if_pos ho]) he.1
  case box t x =>
    simp only [memA, boxA] at he
    (repeat' split at he) <;> first | (cases he; done) | skip
    rename_i ho
    simp only [Option.some.injEq, Prod.mk.injEq] at he
    exact key (r := ⟨0, (ρ x).cells.length, [(ρ x).cells]⟩) (by simp only [memA, boxA, if_pos ho]) he.1
  case buildSlice t len parts =>
    simp only [memA, buildSliceA] at he
    split at he
    case h_2 => cases he
    case h_1 e h1 =>
      split at he
      case h_2 => cases he
      case h_1 s z h2 h3 =>
        split at he
        case isFalse => cases he
        case isTrue ho =>
          simp only [Option.some.injEq, Prod.mk.injEq] at he
          refine key (r := ⟨0, s, (parts.toList.map fun p => (p.1, ρ p.2)).map fun p => p.2.cells⟩) ?_ he.1
          simp only [memA, buildSliceA, h1, h2, h3]
          rw [if_pos ho]
  case makeSlice t l c =>
    simp only [memA, makeSliceA] at he
    split at he
    case h_2 => cases he
    case h_1 e k1 l' k2 c' h1 hl hc =>
      split at he
      case h_2 => cases he
      case h_1 s b z h2 h3 h4 =>
        split at he
        case isFalse => cases he
        case isTrue ho =>
          simp only [Option.some.injEq, Prod.mk.injEq] at he
          refine key (r := ⟨0, s, List.replicate c'.toNat z⟩) ?_ he.1
          simp only [memA, makeSliceA, h1, hl, hc, h2, h3, h4]
          rw [if_pos ho]

theorem memA_still {n : Nm} {ρ : Operand → AV} {h : Hp} {op : Op} {x : AV × Hp} (hs : isStill M op = true) (he : memA P n ρ h op = some x) : isNew op = true := by
  unfold memA at he
  split at he <;> simp_all [isNew, isStill]

theorem appendA_rows {t : TypeId} {d x : AV} {h : Hp} {n : Nm} {r : AV × Hp} (he : appendA P t d x h n = some r) : (∀ m ver off len, d = .sl m ver off len → h.rows m ≠ none) ∧ (∀ m ver off len, x = .sl m ver off len → h.rows m ≠ none) := by
  unfold appendA at he
  split at he
  case h_2 => cases he
  case h_1 e es h1 h2 =>
    refine ⟨fun m ver off len hd hm => ?_, fun m ver off len hx hm => ?_⟩
    · subst hd
      split at he
      case h_2 => cases he
      case h_1 =>
        split at he
        case isFalse => cases he
        case isTrue => simp only [hm] at he; cases he
    · subst hx
      simp only [srcElems, hm] at h2
      cases h2

theorem memA_app {n : Nm} {ρ : Operand → AV} {h : Hp} {args : Array Operand} {ts : Array TypeId} {r : AV × Hp} (he : memA P n ρ h (.call ⟨.builtin .append, args, ts⟩) = some r) :
    ∃ s x t, args = ⟨[s, x]⟩ ∧ ts = ⟨[t, t]⟩ ∧ appendA P t (ρ s) (ρ x) h n = some r := by
  obtain ⟨l⟩ := args
  obtain ⟨k⟩ := ts
  rcases l with _ | ⟨s, _ | ⟨x, _ | ⟨_, _⟩⟩⟩
  · cases he
  · cases he
  case cons.cons.cons => cases he
  rcases k with _ | ⟨t, _ | ⟨t', _ | ⟨_, _⟩⟩⟩
  · cases he
  · cases he
  case cons.cons.cons => cases he
  simp only [memA] at he
  split at he
  case isFalse => cases he
  case isTrue ht => subst ht; exact ⟨_, _, _, rfl, rfl, he⟩

theorem sound_mono {f : FuncId} {args : List AV} {h : Hp} {K K' : AV → Hp → Prop} (hk : ∀ v h', K v h' → K' v h') (hs : Sound P f args h K) : Sound P f args h K' :=
  ⟨hs.1, fun mu pr w vs R hv => (hs.2 mu pr w vs R hv).mono fun e w' ⟨z, v, h', mu', pr', e1, k, r⟩ => ⟨z, v, h', mu', pr', e1, hk _ _ k, r⟩⟩

theorem plusF_mono {h : Hp} {ex : Nm → Option Row} (he : ∀ m r, ex m = some r → h.rows m = none) {m : Nm} {r : Row} (hr : h.rows m = some r) : (h.plusF ex).rows m = some r := by
  rw [plusF_rows]
  cases hx : ex m with
  | none => exact hr
  | some r' => rw [he m r' hx] at hr; cases hr

/-- One operation beside rows that it doesn't see. -/
theorem stepW_frame {n : Nm} {o : Oper} {σ : Nat → AV} {h : Hp} {K : AV → Hp → Prop} {ex : Nm → Option Row} (hk : isStill M o.op = true ∨ isApp o.op = true) (hw : stepW P M (Sound P) n o σ h K)
    (he : ∀ m r, ex m = some r → h.rows m = none ∧ m ≠ n ∧ m.1 < h.tick) (hdom : ∀ m r, h.rows m = some r → m.1 < h.tick) (hn : h.rows n = none) (hnt : n.1 < h.tick) :
    stepW P M (Sound P) n o σ (h.plusF ex) (fun v h'' => ∃ h', h'' = h'.plusF ex ∧ K v h' ∧ (∀ m, m ≠ n → m.1 < h.tick → h.rows m = none → h'.rows m = none) ∧ (isStill M o.op = true → ∀ m r, h.rows m = some r → h'.rows m = some r) ∧
      (isApp o.op = true → appT n.1 σ o.op → ∀ m, m.1 ≠ n.1 → h'.rows m = h.rows m)) := by
  have hex : ∀ m r, ex m = some r → h.rows m = none := fun m r hm => (he m r hm).1
  have hmono : ∀ m r, h.rows m = some r → (h.plusF ex).rows m = some r := fun m r => plusF_mono hex
  unfold stepW at hw
  split at hw
  case h_1 v hv =>
    have := evQ_mono hmono hv
    unfold stepW
    rw [this]
    exact ⟨h, rfl, hw, fun m _ _ hm => hm, fun _ m r hm => hm, fun _ _ m _ => rfl⟩
  case h_2 hq =>
    split at hw
    case h_1 v h1 hv =>
      rcases hk with hk | hk
      · have hnew := memA_still hk hv
        obtain ⟨r, hr⟩ := memA_isNew hnew hv
        have e1 := memA_new hr h
        rw [hv] at e1
        simp only [Option.some.injEq, Prod.mk.injEq, true_and] at e1
        unfold stepW
        rw [evQ_new hnew, memA_new hr]
        refine ⟨h.put n r, ?_, by rw [← e1]; exact hw, fun m hm _ hmn => ?_, fun _ m r' hm => ?_, fun happ => ?_⟩
        · unfold Hp.put Hp.plusF
          congr 1
          funext m
          by_cases hm : m = n
          · subst hm
            have : ex m = none := by
              cases hx : ex m with
              | none => rfl
              | some r' => exact absurd rfl (he m r' hx).2.1
            simp [this]
          · simp [hm]
        · rw [Hp.put_rows, if_neg hm]; exact hmn
        · rw [Hp.put_rows, if_neg (by rintro rfl; rw [hn] at hm; cases hm)]; exact hm
        · exfalso
          revert hnew happ
          cases o.op <;> simp [isNew, isApp]
      · revert hv hq hk
        cases hop : o.op <;> simp only [isApp] <;> try (intro _ _ h; cases h; done)
        rename_i c
        intro hq hv hk
        split at hk
        case h_2 => cases hk
        case h_1 args ts hc =>
          cases hc
          obtain ⟨s, x, t, rfl, rfl, ha⟩ := memA_app hv
          obtain ⟨d1, d2⟩ := appendA_rows ha
          obtain ⟨act, e1, e2, e3⟩ := appendA_any ha
          have hexn : ∀ m, h.rows m ≠ none → ex m = none := fun m hm => by
            cases hx : ex m with
            | none => rfl
            | some r => exact absurd (hex m r hx) hm
          have same : ∀ m, h.rows m ≠ none → (h.plusF ex).rows m = h.rows m := fun m hm => by rw [plusF_rows, hexn m hm]
          have e4 := e3 (h.plusF ex) rfl (fun m ver off len hd => same m (d1 m ver off len hd)) (fun m ver off len hd => same m (d2 m ver off len hd))
          unfold stepW
          rw [hop]
          have : evQ P (opd σ) (h.plusF ex).rows (.call ⟨.builtin .append, ⟨[s, x]⟩, ⟨[t, t]⟩⟩) = none := rfl
          rw [this]
          simp only [memA, if_true, e4]
          have hact : ∀ m r, act = some (m, r) → ex m = none := fun m r hm => by
            rcases e2 m r hm with rfl | ⟨ver, off, len, hd⟩
            · cases hx : ex m with
              | none => rfl
              | some r' => exact absurd rfl (he m r' hx).2.1
            · exact hexn m (d1 m ver off len hd)
          refine ⟨h1, ?_, hw, fun m hm hmt hmn => ?_, fun hst => ?_, fun _ hT m hm => ?_⟩
          · rw [e1]
            unfold Hp.plusF
            congr 1
            funext m
            cases act with
            | none => rfl
            | some p =>
              obtain ⟨k, r⟩ := p
              simp only [upd]
              by_cases hmk : m = k
              · subst hmk; simp [hact m r rfl]
              · simp [hmk]
          · rw [e1]
            show upd act h.rows m = none
            rw [upd_miss]
            · exact hmn
            · rintro ⟨r, hr⟩
              rcases e2 m r hr with rfl | ⟨ver, off, len, hd⟩
              · exact hm rfl
              · exact d1 m ver off len hd hmn
          · simp [isStill] at hst
          · rw [e1]
            show upd act h.rows m = h.rows m
            rw [upd_miss]
            rintro ⟨r, hr⟩
            rcases e2 m r hr with rfl | ⟨ver, off, len, hd⟩
            · exact hm rfl
            · simp only [appT, hd] at hT
              exact hm hT
    case h_2 hm0 =>
      split at hw
      case h_2 => exact hw.elim
      case h_1 f args ts hop =>
        split at hw
        case h_2 => exact hw.elim
        case h_1 g cap hf =>
          rcases hk with hk | hk
          case inr => rw [hop] at hk; simp [isApp] at hk
          rw [hop] at hk
          have hf2 : ∃ g', f = .func g' := by cases f <;> simp [isStill] at hk; exact ⟨_, rfl⟩
          obtain ⟨g', rfl⟩ := hf2
          have hg : g' = g ∧ cap = [] := by
            simp only [opd, AV.fn.injEq] at hf
            exact ⟨hf.1, hf.2.symm⟩
          obtain ⟨rfl, rfl⟩ := hg
          unfold stepW
          rw [hop]
          have a1 : evQ P (opd σ) (h.plusF ex).rows (.call ⟨.value (.func g'), args, ts⟩) = none := rfl
          have a2 : memA P n (opd σ) (h.plusF ex) (.call ⟨.value (.func g'), args, ts⟩) = none := rfl
          rw [a1, a2]
          simp only [opd]
          unfold callW at *
          simp only [isStill] at hk
          split at hw
          case h_1 hM => rw [hM] at hk; cases hk
          case h_2 hM =>
            rcases hw with hw | hw
            rotate_left
            · obtain ⟨targs, r, w1, w2, w3⟩ := hw
              exact .inr ⟨targs, r, ⟨w1.1, fun j a t ha ht => (w1.2 j a t ha ht).mono hmono⟩, w2, h, rfl, w3, fun m _ _ hm => hm, fun _ m r hm => hm, fun ha => by simp [isApp] at ha⟩
            obtain ⟨targs, w1, w2⟩ := hw
            refine .inl ⟨targs, ⟨w1.1, fun j a t ha ht => (w1.2 j a t ha ht).mono hmono⟩, sound_mono (K' := fun v h' => (∀ n r, h'.rows n = some r → h.tick ≤ n.1) → h.tick ≤ h'.tick → ∃ hs : Nm → Option Row, (∀ n r, hs n = some r → h'.rows n = some r ∧ ClRow r) ∧ Cl v ∧ _) (fun v h' pl l1 l2 => let ⟨hs, q1, q2, q3⟩ := pl l1 l2; ⟨hs, q1, q2, h.join hs h'.tick, ?_, q3, fun m _ hmt hmn => ?_, fun _ m r hm => ?_, fun ha => by simp [isApp] at ha⟩) w2⟩
            · unfold Hp.join Hp.plusF
              congr 1
              funext m
              cases hx : ex m with
              | none => simp [hx]
              | some r => simp [(he m r hx).2.2, hx]
            · simp only [Hp.join, if_pos hmt]; exact hmn
            · simp only [Hp.join, if_pos (hdom m r hm)]; exact hm
          case h_3 hM =>
            obtain ⟨targs, r, w1, w2, w3⟩ := hw
            exact ⟨targs, r, ⟨w1.1, fun j a t ha ht => (w1.2 j a t ha ht).mono hmono⟩, w2, h, rfl, w3, fun m _ _ hm => hm, fun _ m r hm => hm, fun ha => by simp [isApp] at ha⟩
end
end Go.Proofs.YtmcmgeedhbgglaaGreatDoor.AM

namespace Go.Proofs.YtmcmgeedhbgglaaGreatDoor.AM
open Go.RowKit

def hidB (ops : Array Oper) (D : List Nat) (L : Nat → Bool) (t : Tmp) : Bool := D.any fun i => !L i && decide ((ops[i]?.bind (·.dst)) = some t)
def hide (ops : Array Oper) (D : List Nat) (L : Nat → Bool) (σ : Nat → AV) : Nat → AV := fun t => if hidB ops D L t = true then .undef else σ t

theorem hidB_iff {ops : Array Oper} {D : List Nat} {L : Nat → Bool} {t : Tmp} : hidB ops D L t = true ↔ ∃ i ∈ D, L i = false ∧ ∃ o, ops[i]? = some o ∧ o.dst = some t := by
  unfold hidB
  simp only [List.any_eq_true, Bool.and_eq_true, Bool.not_eq_true', decide_eq_true_eq, Option.bind_eq_some_iff]

/-- What holds of an operation that is done, but not yet run. -/
def quiets (M : FuncId → Mode) (ops : Array Oper) (b : Bool) (D : List Nat) (i : Nat) : Prop := ∀ (j : Nat) (o' : Oper), ops[j]? = some o' → D.contains j = false → befB (Region.before ops) j i = true ∨ isStill M o'.op = true ∨ (b = true ∧ isApp o'.op = true)

def Pend (P : Program) (M : FuncId → Mode) (ops : Array Oper) (T : Nat) (D : List Nat) (pn : List (Nat × Row)) (q : Bool) (σ : Nat → AV) (h : Hp) (i : Nat) : Prop :=
  ∃ o v, ops[i]? = some o ∧ (∀ t, o.dst = some t → σ t = v) ∧
    ((wantedA ops σ o = some false ∧ v = .tup [] ∧ pn.lookup i = none) ∨
     (wantedA ops σ o = some true ∧ ((∃ rows : Nm → Option Row, evQ P (opd σ) rows o.op = some v ∧ pn.lookup i = none ∧ (∀ m r, rows m = some r → (h.plusF (exL T pn (befB (Region.before ops) i))).rows m = some r) ∧
        ((∀ m, rows m = none) ∨ ((q = true ∧ ∀ m r, rows m = some r → m.1 ≠ T) ∧ quiets M ops true D i) ∨ quiets M ops false D i)) ∨
      (∃ r, newA P (T, i, 0) (opd σ) o.op = some (v, r) ∧ pn.lookup i = some r))))

section
variable {P : Program} {M : FuncId → Mode} {ops : Array Oper} {T N : Nat} {K : (Nat → AV) → Hp → Prop}

theorem quiets_of {b : Bool} {D : List Nat} {i : Nat} (h : quietsOk b M ops D i = true) : quiets M ops b (i :: D) i := by
  intro j o' ho hj
  have h1 := List.all_eq_true.1 h j (List.mem_range.2 (Array.getElem?_eq_some_iff.1 ho).1)
  rw [ho] at h1
  simp only [List.contains_cons, Bool.or_eq_false_iff] at hj
  simp only [hj.1, hj.2, Bool.false_or, Bool.or_eq_true, Bool.and_eq_true] at h1
  rcases h1 with h1 | h1 | h1
  · exact .inl h1
  · exact .inr (.inl h1)
  · exact .inr (.inr h1)

/-- What holds of it goes on holding. -/
theorem Pend.step (S : LazyS ops) {D : List Nat} {pn pn' : List (Nat × Row)} {q q' : Bool} {σ : Nat → AV} {h h' : Hp} {i j : Nat} {oj : Oper} {v : AV} (hp : Pend P M ops T D pn q σ h i) (hc : Closed ops (D.contains ·)) (hi : D.contains i = true)
    (hj : D.contains j = false) (ho : ops[j]? = some oj) (hq : q = true → q' = true) (hl : pn'.lookup i = pn.lookup i)
    (hr : ∀ rows : Nm → Option Row, ((∀ m, rows m = none) ∨ ((q = true ∧ ∀ m r, rows m = some r → m.1 ≠ T) ∧ quiets M ops true D i) ∨ quiets M ops false D i) →
      (∀ m r, rows m = some r → (h.plusF (exL T pn (befB (Region.before ops) i))).rows m = some r) → ∀ m r, rows m = some r → (h'.plusF (exL T pn' (befB (Region.before ops) i))).rows m = some r) :
    Pend P M ops T (j :: D) pn' q' (putA oj.dst v σ) h' i := by
  obtain ⟨o, w, h1, h2, h3⟩ := hp
  have hbf : ∀ k, befB (Region.before ops) i k = true → D.contains k = true := S.listed hc i o h1 (hc i o h1 hi)
  have hlk : ∀ t ∈ o.looksAt ops, σ t = putA oj.dst v σ t := fun t ht => by
    cases hd : oj.dst with
    | none => rfl
    | some d =>
      by_cases htd : t = d
      · subst htd
        have := hbf j (S.looks i j o oj t h1 ho hd ht)
        rw [hj] at this
        cases this
      · simp [putA, htd]
  have hne : i ≠ j := by rintro rfl; rw [hi] at hj; cases hj
  have hqs : ∀ b, quiets M ops b D i → quiets M ops b (j :: D) i := fun b hb k o' hk hkd => hb k o' hk (by
    simp only [List.contains_cons, Bool.or_eq_false_iff] at hkd
    exact hkd.2)
  refine ⟨o, w, h1, fun t ht => ?_, ?_⟩
  · rw [← h2 t ht]
    cases hd : oj.dst with
    | none => rfl
    | some d =>
      by_cases htd : t = d
      · subst htd
        exact absurd (S.dsts i j o oj t h1 ho ht hd) hne
      · simp [putA, htd]
  · rw [← wantedA_congr hlk, hl]
    rcases h3 with h3 | ⟨h3, h4⟩
    · exact .inl h3
    · refine .inr ⟨h3, ?_⟩
      rcases h4 with ⟨rows, h4, h5, h6, h7⟩ | ⟨r, h4, h5⟩
      · refine .inl ⟨rows, by rw [← evQ_congr o.op (opd_congr hlk)]; exact h4, h5, hr rows h7 h6, ?_⟩
        rcases h7 with h7 | ⟨⟨h7, h8⟩, h9⟩ | h7
        · exact .inl h7
        · exact .inr (.inl ⟨⟨hq h7, h8⟩, hqs _ h9⟩)
        · exact .inr (.inr (hqs _ h7))
      · exact .inr ⟨r, by rw [← newA_congr (opd_congr hlk)]; exact h4, h5⟩

theorem exL_some {pn : List (Nat × Row)} {L : Nat → Bool} {m : Nm} {r : Row} (h : exL T pn L m = some r) : m.1 = T ∧ m.2.2 = 0 ∧ L m.2.1 = true ∧ pn.lookup m.2.1 = some r := by
  unfold exL at h
  split at h
  case isFalse => cases h
  case isTrue hc => exact ⟨hc.1, hc.2.1, hc.2.2, h⟩

theorem plusF_none {h : Hp} {ex : Nm → Option Row} (he : ∀ m, ex m = none) : h.plusF ex = h := by
  unfold Hp.plusF
  cases h
  congr 1
  funext m
  simp [he m]

theorem plusF_plusF {h : Hp} {e1 e2 : Nm → Option Row} : (h.plusF e1).plusF e2 = h.plusF fun m => match e2 m with
    | some r => some r
    | none => e1 m := by
  unfold Hp.plusF
  congr 1
  funext m
  simp only
  cases e2 m <;> rfl
end
end Go.Proofs.YtmcmgeedhbgglaaGreatDoor.AM

namespace Go.Proofs.YtmcmgeedhbgglaaGreatDoor.AM
open Go.RowKit

/-- What holds while such a region runs. -/
structure LI (P : Program) (M : FuncId → Mode) (ops : Array Oper) (T N : Nat) (D : List Nat) (pn : List (Nat × Row)) (q : Bool) (listed : Array Bool) (σ : Nat → AV) (h : Hp) (mu : Nm → Nat → Option Loc) (pr : Bool → Nat → Prop) (w : World) (a : Act) : Prop where
  hs : listed.size = ops.size
  dlt : ∀ j, D.contains j = true → j < ops.size
  sub : ∀ j, lst listed j = true → D.contains j = true
  cL : Closed ops (lst listed)
  cD : Closed ops (D.contains ·)
  E : EnvR mu pr w.heap (hide ops D (lst listed) σ) a N
  R : Rel mu pr (h.plusF (exL T pn (lst listed))) w
  tk : T < h.tick
  free : ∀ i j v, lst listed i = false → mu (T, i, j) v = none
  keys : ∀ i r, pn.lookup i = some r → D.contains i = true ∧ h.rows (T, i, 0) = none
  pend : ∀ i, D.contains i = true → lst listed i = false → Pend P M ops T D pn q σ h i

section
variable {P : Program} {M : FuncId → Mode} {ops : Array Oper} {T N : Nat} {D : List Nat} {pn : List (Nat × Row)} {q : Bool} {listed : Array Bool} {σ : Nat → AV} {h : Hp} {mu : Nm → Nat → Option Loc} {pr : Bool → Nat → Prop} {w : World} {a : Act}

theorem LI.nl (I : LI P M ops T N D pn q listed σ h mu pr w a) {i : Nat} (hi : D.contains i = false) : lst listed i = false := by
  cases hl : lst listed i with
  | false => rfl
  | true => rw [I.sub i hl] at hi; cases hi

theorem LI.norow (I : LI P M ops T N D pn q listed σ h mu pr w a) {i j : Nat} (hi : lst listed i = false) : h.rows (T, i, j) = none := by
  cases hr : h.rows (T, i, j) with
  | none => rfl
  | some r =>
    have hx : (h.plusF (exL T pn (lst listed))).rows (T, i, j) = some r := by
      rw [plusF_rows]
      have : exL T pn (lst listed) (T, i, j) = none := by
        unfold exL
        rw [if_neg]
        simp [hi]
      rw [this]
      exact hr
    obtain ⟨l, _, _, hm, _⟩ := I.R.row _ _ hx
    rw [I.free i j r.ver hi] at hm
    cases hm

/-- What changes nothing that others see goes first. -/
theorem LI.logical (S : LazyS ops) (I : LI P M ops T N D pn q listed σ h mu pr w a) {i : Nat} {o : Oper} {v : AV} {pn' : List (Nat × Row)} {q' : Bool} (ho : ops[i]? = some o) (hr : i ∈ readyL ops D) (hq : q = true → q' = true)
    (hpn : pn' = pn ∨ ∃ r, pn' = (i, r) :: pn) (hp : Pend P M ops T (i :: D) pn' q' (putA o.dst v σ) h i) :
    LI P M ops T N (i :: D) pn' q' listed (putA o.dst v σ) h mu pr w a ∧ exL T pn' (lst listed) = exL T pn (lst listed) := by
  obtain ⟨hi, o2, ho2, hready⟩ := mem_readyL.1 hr
  rw [ho] at ho2
  cases ho2
  have hil := I.nl hi
  have hsz := (Array.getElem?_eq_some_iff.1 ho).1
  have hex : exL T pn' (lst listed) = exL T pn (lst listed) := by
    rcases hpn with rfl | ⟨r, rfl⟩
    · rfl
    · funext m
      unfold exL
      by_cases hc : m.1 = T ∧ m.2.2 = 0 ∧ lst listed m.2.1 = true
      · rw [if_pos hc, if_pos hc, List.lookup_cons]
        have : (m.2.1 == i) = false := by
          simp only [beq_eq_false_iff_ne]
          intro he
          rw [he, hil] at hc
          cases hc.2.2
        rw [this]
      · rw [if_neg hc, if_neg hc]
  have hcd : Closed ops ((i :: D).contains ·) := fun j oj hoj hj e he hb => by
    simp only [List.contains_cons, Bool.or_eq_true, beq_iff_eq] at hj ⊢
    rcases hj with rfl | hj
    · rw [ho] at hoj; cases hoj
      exact .inr (hready e he hb)
    · exact .inr (I.cD j oj hoj hj e he hb)
  refine ⟨⟨I.hs, fun j hj => ?_, fun j hj => ?_, I.cL, hcd, ⟨I.E.1, fun t => ?_⟩, by rw [hex]; exact I.R, I.tk, I.free, fun j r hj => ?_, fun j hj hl => ?_⟩, hex⟩
  · simp only [List.contains_cons, Bool.or_eq_true, beq_iff_eq] at hj
    rcases hj with rfl | hj
    · exact hsz
    · exact I.dlt j hj
  · simp only [List.contains_cons, Bool.or_eq_true]
    exact .inr (I.sub j hj)
  · unfold hide
    split
    case isTrue => exact .undef _
    case isFalse hh =>
      have h1 : o.dst ≠ some t := fun hd => hh (hidB_iff.2 ⟨i, by simp, hil, o, ho, hd⟩)
      have h2 : putA o.dst v σ t = σ t := by
        cases hd : o.dst with
        | none => rfl
        | some d =>
          have : t ≠ d := by rintro rfl; exact h1 hd
          simp [putA, this]
      rw [h2]
      have h3 := I.E.2 t
      unfold hide at h3
      rw [if_neg] at h3
      · exact h3
      · intro hh2
        obtain ⟨j, h4, h5, h6⟩ := hidB_iff.1 hh2
        exact hh (hidB_iff.2 ⟨j, by simp [h4], h5, h6⟩)
  · rcases hpn with rfl | ⟨r', rfl⟩
    · have := I.keys j r hj
      refine ⟨?_, this.2⟩
      simp only [List.contains_cons, this.1, Bool.or_true]
    · rw [List.lookup_cons] at hj
      split at hj
      · rename_i hb
        simp only [beq_iff_eq] at hb
        subst hb
        exact ⟨by simp, I.norow hil⟩
      · have := I.keys j r hj
        refine ⟨?_, this.2⟩
        simp only [List.contains_cons, this.1, Bool.or_true]
  · simp only [List.contains_cons, Bool.or_eq_true, beq_iff_eq] at hj
    by_cases hji : j = i
    · subst hji; exact hp
    · have hjD : D.contains j = true := by
        rcases hj with hj | hj
        · exact absurd hj hji
        · exact hj
      refine (I.pend j hjD hl).step S I.cD hjD hi ho hq ?_ (fun rows _ hrw m r hm => ?_)
      · rcases hpn with rfl | ⟨r', rfl⟩
        · rfl
        · rw [List.lookup_cons]
          have : (j == i) = false := by simp [hji]
          rw [this]
      · have := hrw m r hm
        have hsame : exL T pn' (befB (Region.before ops) j) = exL T pn (befB (Region.before ops) j) := by
          rcases hpn with rfl | ⟨r', rfl⟩
          · rfl
          · funext m
            unfold exL
            by_cases hc : m.1 = T ∧ m.2.2 = 0 ∧ befB (Region.before ops) j m.2.1 = true
            · rw [if_pos hc, if_pos hc, List.lookup_cons]
              have : (m.2.1 == i) = false := by
                simp only [beq_eq_false_iff_ne]
                intro he
                have hoj : ops[j]? = some (ops[j]'(I.dlt j hjD)) := by simp
                have := S.listed I.cD j _ hoj (I.cD j _ hoj hjD) i (he ▸ hc.2.2)
                rw [hi] at this
                cases this
              rw [this]
            · rw [if_neg hc, if_neg hc]
        rw [hsame]
        exact this

theorem hide_run (S : LazyS ops) {L : Nat → Bool} {i : Nat} {o : Oper} {v : AV} (ho : ops[i]? = some o) (hv : ∀ t, o.dst = some t → σ t = v) : ∀ t, hide ops D (fun j => L j || j == i) σ t = putA o.dst v (hide ops D L σ) t := by
  intro t
  have hun : ∀ j oj, ops[j]? = some oj → oj.dst = some t → o.dst = some t → j = i := fun j oj hoj h1 h2 => S.dsts j i oj o t hoj ho h1 h2
  by_cases hd : o.dst = some t
  · have h1 : putA o.dst v (hide ops D L σ) t = v := by rw [hd]; simp [putA]
    rw [h1, ← hv t hd]
    unfold hide
    rw [if_neg]
    intro hh
    obtain ⟨j, h2, h3, oj, h4, h5⟩ := hidB_iff.1 hh
    have := hun j oj h4 h5 hd
    subst this
    simp at h3
  · have h1 : putA o.dst v (hide ops D L σ) t = hide ops D L σ t := by
      cases hd2 : o.dst with
      | none => rfl
      | some d =>
        have : t ≠ d := by rintro rfl; exact hd hd2
        simp [putA, this]
    rw [h1]
    unfold hide
    have : hidB ops D (fun j => L j || j == i) t = hidB ops D L t := by
      rw [Bool.eq_iff_iff, hidB_iff, hidB_iff]
      constructor
      · rintro ⟨j, h2, h3, h4⟩
        simp only [Bool.or_eq_false_iff] at h3
        exact ⟨j, h2, h3.1, h4⟩
      · rintro ⟨j, h2, h3, oj, h4, h5⟩
        refine ⟨j, h2, ?_, oj, h4, h5⟩
        have : j ≠ i := by rintro rfl; rw [ho] at h4; cases h4; exact hd h5
        simp [h3, this]
    rw [this]

theorem hide_cons {L : Nat → Bool} {i : Nat} (hL : L i = true) : hide ops (i :: D) L σ = hide ops D L σ := by
  funext t
  unfold hide
  have : hidB ops (i :: D) L t = hidB ops D L t := by
    unfold hidB
    simp [hL]
  rw [this]

theorem hide_looks (S : LazyS ops) {L : Nat → Bool} {i : Nat} {o : Oper} (ho : ops[i]? = some o) (hb : ∀ j, befB (Region.before ops) i j = true → L j = true) : ∀ t ∈ o.looksAt ops, σ t = hide ops D L σ t := by
  intro t ht
  unfold hide
  rw [if_neg]
  intro hh
  obtain ⟨j, h2, h3, oj, h4, h5⟩ := hidB_iff.1 hh
  have := hb j (S.looks i j o oj t ho h4 h5 ht)
  rw [h3] at this
  cases this

theorem exL_mono {L L' : Nat → Bool} (hL : ∀ j, L j = true → L' j = true) {m : Nm} {r : Row} (hm : exL T pn L m = some r) : exL T pn L' m = some r := by
  obtain ⟨h1, h2, h3, h4⟩ := exL_some hm
  unfold exL
  rw [if_pos ⟨h1, h2, hL _ h3⟩]
  exact h4

theorem plusF_sub {h h' : Hp} {e e' : Nm → Option Row} (hh : ∀ m r, e m = none → h.rows m = some r → e' m = none → h'.rows m = some r) (he : ∀ m r, e m = some r → e' m = some r) (hd : ∀ m r, e' m = some r → e m = none → h.rows m = none) {m : Nm} {r : Row}
    (hm : (h.plusF e).rows m = some r) : (h'.plusF e').rows m = some r := by
  rw [plusF_rows] at *
  cases h1 : e m with
  | some r1 => rw [h1] at hm; rw [he m r1 h1]; exact hm
  | none =>
    rw [h1] at hm
    cases h2 : e' m with
    | some r2 => rw [hd m r2 h2 h1] at hm; cases hm
    | none => exact hh m r h1 hm h2
end
end Go.Proofs.YtmcmgeedhbgglaaGreatDoor.AM

namespace Go.Proofs.YtmcmgeedhbgglaaGreatDoor.AM
open Go.RowKit

section
variable {P : Program} {M : FuncId → Mode} {ops : Array Oper} {T N : Nat} {K : (Nat → AV) → Hp → Prop}

theorem lookup_mem {k : Nat} {r : Row} : ∀ (l : List (Nat × Row)), l.lookup k = some r → ∃ p ∈ l, p.1 = k
  | [], h => by cases h
  | p :: l, h => by
    obtain ⟨a, b⟩ := p
    rw [List.lookup_cons] at h
    split at h
    · rename_i hb
      exact ⟨(a, b), by simp, (beq_iff_eq.1 hb).symm⟩
    · obtain ⟨p', h1, h2⟩ := lookup_mem l h
      exact ⟨p', by simp [h1], h2⟩

theorem lazy_ok (S : LazyS ops) (hall : ∀ (j : Nat) (o : Oper), ops[j]? = some o → dstOk N o.dst = true) {Q : Exit → Act → World → Prop} {mu0 : Nm → Nat → Option Loc} {pr0 : Bool → Nat → Prop} {h0 : Hp} {w0 : World} {a0 : Act}
    (hQ : ∀ σ' h' mu' pr' w' a', K σ' h' → EnvR mu' pr' w'.heap σ' a' N → AfterB T mu0 pr0 h0 w0 mu' pr' h' w' → a'.defers = a0.defers → Q .normal a' w') :
    ∀ (m n : Nat) (D : List Nat) (pn : List (Nat × Row)) (q : Bool) (listed : Array Bool) (σ : Nat → AV) (h : Hp) (mu : Nm → Nat → Option Loc) (pr : Bool → Nat → Prop) (w : World) (a : Act),
      LI P M ops T N D pn q listed σ h mu pr w a → cnt (lst listed) ops.size ≤ m → lazyW P M (Sound P) ops T n D pn q σ h K → AfterB T mu0 pr0 h0 w0 mu pr (h.plusF (exL T pn (lst listed))) w → a.defers = a0.defers → wpAny P .any ops Q m listed a w := by
  intro m
  induction m using Nat.strongRecOn with
  | _ m ihm =>
  intro n
  induction n with
  | zero => intro D pn q listed σ h mu pr w a _ _ hw; exact hw.elim
  | succ n ihn =>
  intro D pn q listed σ h mu pr w a I hcnt hw A hd
  have hbl : ∀ i o, ops[i]? = some o → (∀ e ∈ o.after, Region.binds .any e = true → lst listed e.on = true) → ∀ j, befB (Region.before ops) i j = true → lst listed j = true := fun i o ho hr => S.listed I.cL i o ho hr
  -- all is listed
  have fin : (∀ j, j < ops.size → lst listed j = true) → (readyL ops D = [] ∧ K σ (plusL T pn h)) → Q .normal a w := by
    intro hal hk
    have e1 : hide ops D (lst listed) σ = σ := by
      funext t
      unfold hide
      rw [if_neg]
      intro hh
      obtain ⟨j, h2, h3, _⟩ := hidB_iff.1 hh
      rw [hal j (I.dlt j (by simpa using h2))] at h3
      cases h3
    have e2 : exL T pn (lst listed) = exL T pn allL := by
      funext x
      unfold exL
      by_cases hx : x.1 = T ∧ x.2.2 = 0
      · simp only [hx.1, hx.2, true_and, allL, if_true]
        cases hl : pn.lookup x.2.1 with
        | none => split <;> rfl
        | some r => rw [if_pos (hal _ (I.dlt _ (I.keys _ r hl).1))]
      · rw [if_neg (fun hc => hx ⟨hc.1, hc.2.1⟩), if_neg (fun hc => hx ⟨hc.1, hc.2.1⟩)]
    refine hQ σ (plusL T pn h) mu pr w a hk.2 (by rw [← e1]; exact I.E) ?_ hd
    rw [plusL_eq, ← e2]
    exact A
  rcases hw with hend | ⟨i, o, ho, hr, hstep⟩ | ⟨hne, hstep⟩
  case inr.inl =>
    -- a logical step
    have go : ∀ (v : AV) (pn' : List (Nat × Row)) (q' : Bool), (q = true → q' = true) → (pn' = pn ∨ ∃ r, pn' = (i, r) :: pn) → Pend P M ops T (i :: D) pn' q' (putA o.dst v σ) h i → lazyW P M (Sound P) ops T n (i :: D) pn' q' (putA o.dst v σ) h K → wpAny P .any ops Q m listed a w := by
      intro v pn' q' hq hpn hp hk
      obtain ⟨I', hex⟩ := I.logical S ho hr hq hpn hp
      exact ihn _ _ _ _ _ _ _ _ _ _ I' hcnt hk (by rw [hex]; exact A) hd
    obtain ⟨hi, o2, ho2, hready⟩ := mem_readyL.1 hr
    rw [ho] at ho2
    cases ho2
    have hnl : pn.lookup i = none := by
      cases hl : pn.lookup i with
      | none => rfl
      | some r => rw [(I.keys i r hl).1] at hi; cases hi
    have hbi : ∀ j, befB (Region.before ops) i j = true → D.contains j = true := S.listed I.cD i o ho hready
    have hlk : ∀ v, ∀ t ∈ o.looksAt ops, σ t = putA o.dst v σ t := fun v t ht => by
      cases hdd : o.dst with
      | none => rfl
      | some d =>
        by_cases htd : t = d
        · subst htd
          have := S.looks i i o o t ho ho hdd ht
          have := S.bits i i o ho this
          omega
        · simp [putA, htd]
    have hval : ∀ v t, o.dst = some t → putA o.dst v σ t = v := fun v t ht => by rw [ht]; simp [putA]
    have hsub : ∀ v (rows : Nm → Option Row) , evQ P (opd σ) rows o.op = some v → evQ P (opd (putA o.dst v σ)) rows o.op = some v := fun v rows he => by rw [← evQ_congr o.op (opd_congr (hlk v))]; exact he
    rcases hstep with ⟨hwt, hk⟩ | ⟨hwt, ⟨v, he, hk⟩ | ⟨v, hqt, he, hk⟩ | ⟨v, hqt, he, hk⟩ | ⟨v, r, he, hk⟩⟩
    · exact go _ pn q id (.inl rfl) ⟨o, _, ho, hval _, .inl ⟨by rw [← wantedA_congr (hlk _)]; exact hwt, rfl, hnl⟩⟩ hk
    · exact go _ pn q id (.inl rfl) ⟨o, _, ho, hval _, .inr ⟨by rw [← wantedA_congr (hlk _)]; exact hwt, .inl ⟨fun _ => none, hsub _ _ he, hnl, (fun m r hm => nomatch hm), .inl fun _ => rfl⟩⟩⟩ hk
    · refine go _ pn true (fun _ => rfl) (.inl rfl) ⟨o, _, ho, hval _, .inr ⟨by rw [← wantedA_congr (hlk _)]; exact hwt, .inl ⟨_, hsub _ _ he, hnl, fun x r hx => ?_, .inr (.inl ⟨⟨rfl, fun x r hx => ?_⟩, quiets_of hqt⟩)⟩⟩⟩ hk
      · unfold maskR at hx
        split at hx
        case isTrue => cases hx
        case isFalse hc =>
          rw [plusF_rows]
          have : exL T pn (befB (Region.before ops) i) x = none := by
            unfold exL
            rw [if_neg]
            intro hcc
            exact hc (.inl hcc.1)
          rw [this]
          exact hx
      · unfold maskR at hx
        split at hx
        case isTrue => cases hx
        case isFalse hc => exact fun hT => hc (.inl hT)
    · refine go _ pn q id (.inl rfl) ⟨o, _, ho, hval _, .inr ⟨by rw [← wantedA_congr (hlk _)]; exact hwt, .inl ⟨_, hsub _ _ he, hnl, fun x r hx => ?_, .inr (.inr (quiets_of hqt))⟩⟩⟩ hk
      rw [plusL_eq, exL_filter] at hx
      simpa [allL] using hx
    · refine go _ ((i, r) :: pn) q id (.inr ⟨r, rfl⟩) ⟨o, _, ho, hval _, .inr ⟨by rw [← wantedA_congr (hlk _)]; exact hwt, .inr ⟨r, by rw [← newA_congr (opd_congr (hlk _))]; exact he, ?_⟩⟩⟩ hk
      simp
  all_goals
    -- a run
    have phys : (readyL ops D = [] ∧ K σ (plusL T pn h)) ∨ (readyL ops D ≠ [] ∧ allW (readyL ops D) fun i => ∃ o, ops[i]? = some o ∧ frmOk M ops pn i o.op = true ∧ (q = true → appT T σ o.op) ∧
        wpOps P M (Sound P) ops T [o] i σ (plusL T (pn.filter fun p => befB (Region.before ops) i p.1) h) (fun σ' h' => lazyW P M (Sound P) ops T n (i :: D) (pn.filter fun p => !befB (Region.before ops) i p.1) q σ' h' K)) := by
      first | exact .inl hend | exact .inr ⟨hne, hstep⟩
    have hw : lazyW P M (Sound P) ops T (n + 1) D pn q σ h K := by
      rcases phys with hp | hp
      · exact .inl hp
      · exact .inr (.inr hp)
    have hallD : (∀ j, j < ops.size → lst listed j = true) → readyL ops D = [] := fun hal => by
      refine List.eq_nil_iff_forall_not_mem.2 fun j hj => ?_
      obtain ⟨h1, o, ho, _⟩ := mem_readyL.1 hj
      rw [I.sub j (hal j (Array.getElem?_eq_some_iff.1 ho).1)] at h1
      cases h1
    have fin2 : (∀ j, j < ops.size → lst listed j = true) → Q .normal a w := fun hal => by
      rcases phys with hp | hp
      · exact fin hal hp
      · exact absurd (hallD hal) hp.1
    cases m with
    | zero =>
      have hal : ∀ j, j < ops.size → lst listed j = true := fun j hj => cnt_zero _ (Nat.le_zero.1 hcnt) j hj
      refine ⟨List.eq_nil_iff_forall_not_mem.2 fun j hj => ?_, fin2 hal⟩
      obtain ⟨h1, o, ho, _⟩ := (mem_ready' I.hs).1 hj
      rw [hal j (Array.getElem?_eq_some_iff.1 ho).1] at h1
      cases h1
    | succ m =>
      refine ⟨fun hr => fin2 fun j hj => ?_, fun i hi => ?_⟩
      · cases hl : lst listed j with
        | true => rfl
        | false => exact absurd hr (S.least I.hs j hj hl)
      obtain ⟨h1, o, ho, h2⟩ := (mem_ready' I.hs).1 hi
      have hilt := (Array.getElem?_eq_some_iff.1 ho).1
      have hset : lst (listed.setIfInBounds i true) = fun j => lst listed j || j == i := funext fun j => lst_set (by rw [I.hs]; exact hilt) j
      have hsz' : (listed.setIfInBounds i true).size = ops.size := by simp [I.hs]
      have hcnt' : cnt (lst (listed.setIfInBounds i true)) ops.size ≤ m := by
        have := cnt_set h1 ops.size hilt
        rw [hset]
        omega
      have hcL' : Closed ops (lst (listed.setIfInBounds i true)) := fun j oj hoj hlj e he hb => by
        rw [hset] at hlj ⊢
        simp only [Bool.or_eq_true, beq_iff_eq] at hlj ⊢
        rcases hlj with hlj | rfl
        · exact .inl (I.cL j oj hoj hlj e he hb)
        · rw [ho] at hoj; cases hoj
          exact .inl (h2 e he hb)
      have hdst := hall i o ho
      have hb := hbl i o ho h2
      have hlk := hide_looks (D := D) (σ := σ) S ho hb
      have hfree' : ∀ (mu' : Nm → Nat → Option Loc), (∀ i' j v, lst listed i' = false → i' ≠ i → mu' (T, i', j) v = none) → ∀ i' j v, lst (listed.setIfInBounds i true) i' = false → mu' (T, i', j) v = none := fun mu' hf i' j v hl => by
        rw [hset] at hl
        simp only [Bool.or_eq_false_iff, beq_eq_false_iff_ne] at hl
        exact hf i' j v hl.1 hl.2
      have hput : ∀ (v : AV) (s : Nat → AV), putA o.dst v s = upd (o.dst.map fun d => (d, v)) s := fun v s => by cases o.dst <;> rfl
      have hrow : ∀ j, lst listed j = false → h.rows (T, j, 0) = none := fun j hj => I.norow hj
      cases hiD : D.contains i with
      | true =>
        -- it is done already
        obtain ⟨o2, v, ho2, hv, hp⟩ := I.pend i hiD h1
        rw [ho] at ho2
        cases ho2
        have hrun := hide_run (D := D) (L := lst listed) (v := v) S ho hv
        have step : ∀ (mu' : Nm → Nat → Option Loc) (pr' : Bool → Nat → Prop) (w' : World) (a' : Act), EnvR mu' pr' w'.heap (putA o.dst v (hide ops D (lst listed) σ)) a' N → Rel mu' pr' (h.plusF (exL T pn (lst (listed.setIfInBounds i true)))) w' →
            (∀ i' j v, lst listed i' = false → i' ≠ i → mu' (T, i', j) v = none) → AfterB T mu0 pr0 h0 w0 mu' pr' (h.plusF (exL T pn (lst (listed.setIfInBounds i true)))) w' → a'.defers = a0.defers → wpAny P .any ops Q m (listed.setIfInBounds i true) a' w' := by
          intro mu' pr' w' a' E' R' hf' A' hd'
          refine ihm m (Nat.lt_succ_self m) (n + 1) D pn q _ σ h mu' pr' w' a' ⟨hsz', I.dlt, fun j hj => ?_, hcL', I.cD, ⟨E'.1, fun t => ?_⟩, R', I.tk, hfree' mu' hf', I.keys, fun j hj hl => ?_⟩ hcnt' hw A' hd'
          · rw [hset] at hj
            simp only [Bool.or_eq_true, beq_iff_eq] at hj
            rcases hj with hj | rfl
            · exact I.sub j hj
            · exact hiD
          · rw [hset, hrun t]
            exact E'.2 t
          · rw [hset] at hl
            simp only [Bool.or_eq_false_iff] at hl
            exact I.pend j hj hl.1
        have hexq : pn.lookup i = none → exL T pn (lst (listed.setIfInBounds i true)) = exL T pn (lst listed) := fun hnone => by
          rw [hset]
          funext x
          unfold exL
          by_cases hx : x.2.1 = i
          · rw [hx, hnone]; split <;> split <;> rfl
          · simp [hx]
        unfold wpOp
        simp only [ho]
        rcases hp with ⟨hwt, hvt, hnone⟩ | ⟨hwt, hp⟩
        · rw [wantedA_ok I.E hall (by rw [← wantedA_congr hlk]; exact hwt), if_neg (by simp)]
          refine step mu pr w _ ?_ ?_ (fun i' j v hl _ => I.free i' j v hl) ?_ ((Act.put_defers' _ _ _).trans hd)
          · rw [hvt]; exact I.E.put hdst (VR.tup_mk .nil)
          · rw [hexq hnone]; exact I.R
          · rw [hexq hnone]; exact A
        · rw [wantedA_ok I.E hall (by rw [← wantedA_congr hlk]; exact hwt), if_pos rfl]
          left
          have hst : stepW P M (Sound P) (T, i, 0) o σ (h.plusF (exL T pn (lst listed))) (fun v' h'' => v' = v ∧ h'' = h.plusF (exL T pn (lst (listed.setIfInBounds i true)))) := by
            rcases hp with ⟨rows, he, hnone, hsub, _⟩ | ⟨r, he, hr⟩
            · have he2 : evQ P (opd σ) (h.plusF (exL T pn (lst listed))).rows o.op = some v := by
                refine evQ_mono (fun x r hx => ?_) he
                refine plusF_sub (fun x r _ hh _ => hh) (fun x r hx => exL_mono hb hx) (fun x r hx hx2 => ?_) (hsub x r hx)
                obtain ⟨g1, g2, g3, g4⟩ := exL_some hx
                have := (I.keys _ r g4).2
                rw [← g1, ← g2] at this
                exact this
              unfold stepW
              rw [he2]
              exact ⟨rfl, by rw [hexq hnone]⟩
            · unfold stepW
              rw [evQ_new (newA_isNew he), memA_new he]
              refine ⟨rfl, ?_⟩
              rw [hset]
              unfold Hp.put Hp.plusF
              congr 1
              funext x
              obtain ⟨x1, x2, x3⟩ := x
              unfold exL
              by_cases hx : (x1, x2, x3) = (T, i, 0)
              · cases hx
                simp [hr]
              · rw [if_neg hx]
                simp only [Bool.or_eq_true, beq_iff_eq]
                by_cases hc : x1 = T ∧ x3 = 0 ∧ lst listed x2 = true
                · rw [if_pos hc, if_pos ⟨hc.1, hc.2.1, .inl hc.2.2⟩]
                · rw [if_neg hc, if_neg]
                  rintro ⟨g1, g2, g3 | g3⟩
                  · exact hc ⟨g1, g2, g3⟩
                  · exact hx (by rw [g1, g2, g3])
          have hst2 := stepW_congr (opd_congr hlk) hst
          refine stepW_ok hst2 I.E I.R (fun v => I.free i 0 v h1) I.tk (fun v' z h' mu' pr' w' hk hv' A' hfr => ?_)
          obtain ⟨rfl, rfl⟩ := hk
          refine step mu' pr' w' _ ((I.E.mono A'.ext).put hdst hv') A'.rel (fun i' j v' hl hne => hfr (T, i', j) rfl (fun e => by cases e; exact hne rfl) (fun v => I.free i' j v hl) v') (A.trans A') ((Act.put_defers' _ _ _).trans hd)
      | false =>
        have hrD : i ∈ readyL ops D := mem_readyL.2 ⟨hiD, o, ho, fun e he hbn => I.sub _ (h2 e he hbn)⟩
        rcases phys with hp | hp
        · rw [hp.1] at hrD; cases hrD
        obtain ⟨o2, ho2, hfrm, happ, hwp⟩ := allW_mem hp.2 i hrD
        rw [ho] at ho2
        cases ho2
        have hkey : ∀ r, pn.lookup i ≠ some r := fun r hl => by rw [(I.keys i r hl).1] at hiD; cases hiD
        rw [plusL_eq, exL_filter] at hwp
        have eall : (fun k => befB (Region.before ops) i k && allL k) = befB (Region.before ops) i := by funext k; simp [allL]
        rw [eall] at hwp
        -- the rows that it sees, and the others
        have hsplit : h.plusF (exL T pn (lst listed)) = (h.plusF (exL T pn (befB (Region.before ops) i))).plusF (exL T pn fun k => lst listed k && !befB (Region.before ops) i k) := by
          rw [plusF_plusF]
          congr 1
          funext x
          unfold exL
          by_cases hx : x.1 = T ∧ x.2.2 = 0
          · simp only [hx.1, hx.2, true_and]
            cases hbx : befB (Region.before ops) i x.2.1 with
            | true => simp [hb _ hbx]
            | false =>
              simp only [Bool.not_false, Bool.and_true, if_false]
              cases hlx : lst listed x.2.1 <;> simp
              cases pn.lookup x.2.1 <;> rfl
          · rw [if_neg (fun hc => hx ⟨hc.1, hc.2.1⟩), if_neg (fun hc => hx ⟨hc.1, hc.2.1⟩), if_neg (fun hc => hx ⟨hc.1, hc.2.1⟩)]
        have hex' : exL T (pn.filter fun p => !befB (Region.before ops) i p.1) (lst (listed.setIfInBounds i true)) = exL T pn fun k => lst listed k && !befB (Region.before ops) i k := by
          rw [exL_filter (f := fun k => !befB (Region.before ops) i k), hset]
          funext x
          unfold exL
          by_cases hx : x.2.1 = i
          · have : pn.lookup x.2.1 = none := by
              cases hl : pn.lookup x.2.1 with
              | none => rfl
              | some r => exact absurd (hx ▸ hl) (hkey r)
            rw [this]; split <;> split <;> rfl
          · simp [hx, Bool.and_comm]
        have hdj : ∀ x r, exL T pn (fun k => lst listed k && !befB (Region.before ops) i k) x = some r → (h.plusF (exL T pn (befB (Region.before ops) i))).rows x = none ∧ x ≠ (T, i, 0) ∧ x.1 < h.tick := by
          intro x r hx
          obtain ⟨g1, g2, g3, g4⟩ := exL_some hx
          simp only [Bool.and_eq_true, Bool.not_eq_true'] at g3
          refine ⟨?_, ?_, by rw [g1]; exact I.tk⟩
          · rw [plusF_rows]
            have : exL T pn (befB (Region.before ops) i) x = none := by
              unfold exL
              rw [if_neg]
              simp [g3.2]
            rw [this]
            have := (I.keys _ r g4).2
            rw [← g1, ← g2] at this
            exact this
          · rintro rfl
            exact hkey r g4
        have hdomA : ∀ x r, (h.plusF (exL T pn (lst listed))).rows x = some r → x.1 < h.tick := by
          intro x r hx
          obtain ⟨l, _, _, hm, _⟩ := I.R.row _ _ hx
          rcases Nat.lt_or_ge x.1 h.tick with h5 | h5
          · exact h5
          · have := I.R.fresh x.1 x.2.1 x.2.2 r.ver h5
            rw [this] at hm
            cases hm
        have hdom : ∀ x r, (h.plusF (exL T pn (befB (Region.before ops) i))).rows x = some r → x.1 < h.tick := fun x r hx => hdomA x r (by
          rw [hsplit]
          exact plusF_mono (fun y s hy => (hdj y s hy).1) hx)
        have hnn : (h.plusF (exL T pn (befB (Region.before ops) i))).rows (T, i, 0) = none := by
          rw [plusF_rows]
          have : exL T pn (befB (Region.before ops) i) (T, i, 0) = none := by
            cases hx : exL T pn (befB (Region.before ops) i) (T, i, 0) with
            | none => rfl
            | some r => exact absurd (exL_some hx).2.2.2 (hkey r)
          rw [this]
          exact I.norow h1
        -- what comes after
        have step : ∀ (v : AV) (h' : Hp) (mu' : Nm → Nat → Option Loc) (pr' : Bool → Nat → Prop) (w' : World) (a' : Act), lazyW P M (Sound P) ops T n (i :: D) (pn.filter fun p => !befB (Region.before ops) i p.1) q (putA o.dst v σ) h' K →
            EnvR mu' pr' w'.heap (putA o.dst v (hide ops D (lst listed) σ)) a' N → Rel mu' pr' (h'.plusF (exL T pn fun k => lst listed k && !befB (Region.before ops) i k)) w' → T < h'.tick →
            (∀ i' j v, lst listed i' = false → i' ≠ i → mu' (T, i', j) v = none) →
            (∀ k r, pn.lookup k = some r → befB (Region.before ops) i k = false → h'.rows (T, k, 0) = none) →
            (∀ j, D.contains j = true → lst listed j = false → ∀ rows : Nm → Option Row, ((∀ m, rows m = none) ∨ ((q = true ∧ ∀ m r, rows m = some r → m.1 ≠ T) ∧ quiets M ops true D j) ∨ quiets M ops false D j) →
              (∀ m r, rows m = some r → (h.plusF (exL T pn (befB (Region.before ops) j))).rows m = some r) → ∀ m r, rows m = some r → (h'.plusF (exL T (pn.filter fun p => !befB (Region.before ops) i p.1) (befB (Region.before ops) j))).rows m = some r) →
            AfterB T mu0 pr0 h0 w0 mu' pr' (h'.plusF (exL T pn fun k => lst listed k && !befB (Region.before ops) i k)) w' → a'.defers = a0.defers → wpAny P .any ops Q m (listed.setIfInBounds i true) a' w' := by
          intro v h' mu' pr' w' a' hk E' R' hT' hf' hdj' hrw A' hd'
          have hsub' : ∀ j, lst (listed.setIfInBounds i true) j = true → (i :: D).contains j = true := fun j hj => by
            rw [hset] at hj
            simp only [Bool.or_eq_true, beq_iff_eq] at hj
            simp only [List.contains_cons, Bool.or_eq_true, beq_iff_eq]
            rcases hj with hj | rfl
            · exact .inr (I.sub j hj)
            · exact .inl rfl
          refine ihm m (Nat.lt_succ_self m) n (i :: D) _ q _ (putA o.dst v σ) h' mu' pr' w' a' ⟨hsz', fun j hj => ?_, hsub', hcL', fun j oj hoj hj e he hbn => ?_, ⟨E'.1, fun t => ?_⟩, by rw [hex']; exact R', hT', hfree' mu' hf', fun k r hl => ?_, fun j hj hl => ?_⟩ hcnt' hk (by rw [hex']; exact A') hd'
          · simp only [List.contains_cons, Bool.or_eq_true, beq_iff_eq] at hj
            rcases hj with rfl | hj
            · exact hilt
            · exact I.dlt j hj
          · simp only [List.contains_cons, Bool.or_eq_true, beq_iff_eq] at hj ⊢
            rcases hj with rfl | hj
            · rw [ho] at hoj; cases hoj
              exact .inr (I.sub _ (h2 e he hbn))
            · exact .inr (I.cD j oj hoj hj e he hbn)
          · have e1 : hide ops (i :: D) (lst (listed.setIfInBounds i true)) (putA o.dst v σ) = hide ops D (lst (listed.setIfInBounds i true)) (putA o.dst v σ) := hide_cons (by rw [hset]; simp)
            have hv : ∀ t, o.dst = some t → putA o.dst v σ t = v := fun t ht => by rw [ht]; simp [putA]
            rw [e1, hset, hide_run (D := D) (L := lst listed) (σ := putA o.dst v σ) (v := v) S ho hv t]
            have : putA o.dst v (hide ops D (lst listed) (putA o.dst v σ)) t = putA o.dst v (hide ops D (lst listed) σ) t := by
              cases hdd : o.dst with
              | none => rfl
              | some d =>
                by_cases htd : t = d
                · simp [putA, htd]
                · simp [putA, htd, hide]
            rw [this]
            exact E'.2 t
          · rw [lookup_filter (f := fun k => !befB (Region.before ops) i k)] at hl
            split at hl
            case isFalse => cases hl
            case isTrue hbk =>
              simp only [Bool.not_eq_true'] at hbk
              refine ⟨?_, hdj' k r hl hbk⟩
              simp only [List.contains_cons, (I.keys k r hl).1, Bool.or_true]
          · rw [hset] at hl
            simp only [Bool.or_eq_false_iff, beq_eq_false_iff_ne] at hl
            simp only [List.contains_cons, Bool.or_eq_true, beq_iff_eq] at hj
            have hjD : D.contains j = true := by
              rcases hj with hj | hj
              · exact absurd hj hl.2
              · exact hj
            refine (I.pend j hjD hl.1).step S I.cD hjD hiD ho id ?_ (hrw j hjD hl.1)
            rw [lookup_filter (f := fun k => !befB (Region.before ops) i k)]
            cases hbj : befB (Region.before ops) i j with
            | false => simp
            | true => rw [hb j hbj] at hl; cases hl.1
        -- rows that are the same
        have hsame : ∀ (h' : Hp), (∀ x r, (h.plusF (exL T pn (befB (Region.before ops) i))).rows x = some r → h'.rows x = some r) → (∀ k r, pn.lookup k = some r → befB (Region.before ops) i k = false → h'.rows (T, k, 0) = none) →
            ∀ j x r, (h.plusF (exL T pn (befB (Region.before ops) j))).rows x = some r → (h'.plusF (exL T (pn.filter fun p => !befB (Region.before ops) i p.1) (befB (Region.before ops) j))).rows x = some r := by
          intro h' hg hdj' j x r hx
          rw [exL_filter (f := fun k => !befB (Region.before ops) i k), plusF_rows]
          cases he : exL T pn (fun k => !befB (Region.before ops) i k && befB (Region.before ops) j k) x with
          | some r2 =>
            obtain ⟨g1, g2, g3, g4⟩ := exL_some he
            simp only [Bool.and_eq_true, Bool.not_eq_true'] at g3
            rw [plusF_rows] at hx
            have : exL T pn (befB (Region.before ops) j) x = some r2 := by
              unfold exL
              rw [if_pos ⟨g1, g2, g3.2⟩]
              exact g4
            rw [this] at hx
            exact hx
          | none =>
            refine hg x r ?_
            rw [plusF_rows] at hx ⊢
            cases hj2 : exL T pn (befB (Region.before ops) j) x with
            | some r2 =>
              rw [hj2] at hx
              obtain ⟨g1, g2, g3, g4⟩ := exL_some hj2
              have hbi : befB (Region.before ops) i x.2.1 = true := by
                cases hbi : befB (Region.before ops) i x.2.1 with
                | true => rfl
                | false =>
                  unfold exL at he
                  rw [if_pos ⟨g1, g2, by simp [hbi, g3]⟩, g4] at he
                  cases he
              have : exL T pn (befB (Region.before ops) i) x = some r2 := by
                unfold exL
                rw [if_pos ⟨g1, g2, hbi⟩]
                exact g4
              rw [this]
              exact hx
            | none =>
              rw [hj2] at hx
              cases hj3 : exL T pn (befB (Region.before ops) i) x with
              | none => exact hx
              | some r3 =>
                obtain ⟨g1, g2, g3, g4⟩ := exL_some hj3
                have := (I.keys _ r3 g4).2
                rw [← g1, ← g2] at this
                rw [this] at hx
                cases hx
        have hbehind : ∀ j, D.contains j = true → lst listed j = false → befB (Region.before ops) i j = false := fun j _ hl => by
          cases hbj : befB (Region.before ops) i j with
          | false => rfl
          | true => rw [hb j hbj] at hl; cases hl
        unfold wpOps at hwp
        unfold wpOp
        simp only [ho]
        split at hwp
        case h_3 => exact hwp.elim
        case h_2 =>
          rename_i hwt
          rw [wantedA_ok I.E hall (by rw [← wantedA_congr hlk]; exact hwt), if_neg (by simp)]
          unfold wpOps at hwp
          have hdj2 : ∀ k r, pn.lookup k = some r → befB (Region.before ops) i k = false → (h.plusF (exL T pn (befB (Region.before ops) i))).rows (T, k, 0) = none := fun k r hl hbk => by
            rw [plusF_rows]
            have : exL T pn (befB (Region.before ops) i) (T, k, 0) = none := by
              unfold exL
              rw [if_neg]
              simp [hbk]
            rw [this]
            exact (I.keys k r hl).2
          refine step (.tup []) _ mu pr w _ hwp (I.E.put hdst (VR.tup_mk .nil)) (by rw [← hsplit]; exact I.R) I.tk (fun i' j v hl _ => I.free i' j v hl) hdj2 (fun j hj hl rows _ hsub x r hx => hsame _ (fun x r hx => hx) hdj2 j x r (hsub x r hx)) (by rw [← hsplit]; exact A) ((Act.put_defers' _ _ _).trans hd)
        case h_1 =>
          rename_i hwt
          rw [wantedA_ok I.E hall (by rw [← wantedA_congr hlk]; exact hwt), if_pos rfl]
          left
          by_cases hfs : isStill M o.op = true ∨ isApp o.op = true
          · have hst := stepW_frame hfs hwp hdj hdom hnn I.tk
            rw [← hsplit] at hst
            have hst2 := stepW_congr (opd_congr hlk) hst
            refine stepW_ok hst2 I.E I.R (fun v => I.free i 0 v h1) I.tk (fun v' z h'' mu' pr' w' hk hv' A' hfr => ?_)
            obtain ⟨h', rfl, hk, k1, k2, k3⟩ := hk
            unfold wpOps at hk
            have hdj2 : ∀ k r, pn.lookup k = some r → befB (Region.before ops) i k = false → h'.rows (T, k, 0) = none := fun k r hl hbk => by
              refine k1 (T, k, 0) (fun e => by cases e; exact hkey r hl) I.tk ?_
              rw [plusF_rows]
              have : exL T pn (befB (Region.before ops) i) (T, k, 0) = none := by
                unfold exL
                rw [if_neg]
                simp [hbk]
              rw [this]
              exact (I.keys k r hl).2
            refine step v' h' mu' pr' w' _ hk ((I.E.mono A'.ext).put hdst hv') A'.rel (Nat.lt_of_lt_of_le I.tk A'.tick) (fun i' j v' hl hne => hfr (T, i', j) rfl (fun e => by cases e; exact hne rfl) (fun v => I.free i' j v hl) v') hdj2 ?_ (A.trans A') ((Act.put_defers' _ _ _).trans hd)
            intro j hjD hjl rows hcond hsub x r hx
            rcases hfs with hfs | hfs
            · exact hsame h' (k2 hfs) hdj2 j x r (hsub x r hx)
            · rcases hcond with hc | ⟨⟨hc, hc2⟩, _⟩ | hc
              · rw [hc x] at hx; cases hx
              · have h5 := k3 hfs (happ hc) x (hc2 x r hx)
                have h6 := hsub x r hx
                rw [plusF_rows] at h6 ⊢
                have e1 : ∀ L pn', exL T pn' L x = none := fun L pn' => by
                  unfold exL
                  rw [if_neg (fun hcc => hc2 x r hx hcc.1)]
                rw [e1] at h6 ⊢
                rw [h5, plusF_rows, e1]
                exact h6
              · rcases hc i o ho hiD with h5 | h5 | h5
                · have h6 := I.cL
                  have h7 := hb
                  exfalso
                  have : lst listed j = true := hb j h5
                  rw [hjl] at this; cases this
                · exfalso
                  revert h5 hfs
                  cases o.op <;> simp [isApp]
                  rename_i c
                  intro g1
                  split at g1
                  case h_2 => cases g1
                  case h_1 hc5 => cases hc5; simp [isStill]
                · cases h5.1
          · have hpa : ∀ p ∈ pn, befB (Region.before ops) i p.1 = true := by
              unfold frmOk at hfrm
              simp only [Bool.or_eq_true, List.all_eq_true] at hfrm
              rcases hfrm with (h5 | h5) | h5
              · exact absurd (.inl h5) hfs
              · exact absurd (.inr h5) hfs
              · exact h5
            have hlkp : ∀ k r, pn.lookup k = some r → befB (Region.before ops) i k = true := fun k r hl => by
              obtain ⟨p, hp1, hp2⟩ := lookup_mem pn hl
              rw [← hp2]
              exact hpa p hp1
            have hno : ∀ x, exL T pn (fun k => lst listed k && !befB (Region.before ops) i k) x = none := fun x => by
              cases hx : exL T pn (fun k => lst listed k && !befB (Region.before ops) i k) x with
              | none => rfl
              | some r =>
                obtain ⟨_, _, g3, g4⟩ := exL_some hx
                rw [hlkp _ r g4] at g3
                simp at g3
            have hst := hwp
            rw [← plusF_none (h := h.plusF (exL T pn (befB (Region.before ops) i))) hno, ← hsplit] at hst
            have hst2 := stepW_congr (opd_congr hlk) hst
            refine stepW_ok hst2 I.E I.R (fun v => I.free i 0 v h1) I.tk (fun v' z h' mu' pr' w' hk hv' A' hfr => ?_)
            unfold wpOps at hk
            refine step v' h' mu' pr' w' _ hk ((I.E.mono A'.ext).put hdst hv') (by rw [plusF_none hno]; exact A'.rel) (Nat.lt_of_lt_of_le I.tk A'.tick) (fun i' j v' hl hne => hfr (T, i', j) rfl (fun e => by cases e; exact hne rfl) (fun v => I.free i' j v hl) v') (fun k r hl hbk => by
              rw [hlkp k r hl] at hbk; cases hbk) ?_ (by rw [plusF_none hno]; exact A.trans A') ((Act.put_defers' _ _ _).trans hd)
            intro j hjD hjl rows hcond hsub x r hx
            have noq : ∀ b, quiets M ops b D j → False := fun b hq => by
              rcases hq i o ho hiD with h5 | h5 | h5
              · have : lst listed j = true := hb j h5
                rw [hjl] at this; cases this
              · exact hfs (.inl h5)
              · exact hfs (.inr h5.2)
            rcases hcond with hc | ⟨_, hc⟩ | hc
            · rw [hc x] at hx; cases hx
            · exact (noq _ hc).elim
            · exact (noq _ hc).elim
end

/-- What is asked of a region that draws its order: by fronts, or in every order, or lazily. -/
def drawW2 (P : Program) (M : FuncId → Mode) (C : CS) (ops : Array Oper) (σ : Nat → AV) (h : Hp) (K : (Nat → AV) → Hp → Prop) : Prop :=
  drawW P M C ops σ h K ∨ anyW P M C ops h.tick ops.size [] σ h.next K ∨ (lazyOk ops = true ∧ lazyW P M C ops h.tick (ops.size + 1) [] [] false σ h.next K)

theorem drawW2_ok {P : Program} {M : FuncId → Mode} (hm : P.follows .mixedOrders = true) : DrawOk P (drawW2 P M (Sound P)) := by
  intro id ops σ h K N hw hall mu pr w a Q E R hQ
  rcases hw with hw | hw | ⟨hs, hw⟩
  · exact drawW_ok hm id ops σ h K N hw hall mu pr w a Q E R hQ
  · refine wp_region_any hm ?_
    have hl : ∀ j, j < ops.size → lst (Array.replicate ops.size false) j = ([] : List Nat).contains j := fun j hj => by simp [lst, hj]
    have R' : Rel mu pr h.next { w with drawn := w.drawn + 1 } := by
      have := R.next
      exact ⟨this.row, this.inj, this.fresh, this.vers, this.lt, this.tab⟩
    refine any_ok (M := M) hall (mu0 := mu) (pr0 := pr) (h0 := h.next) (w0 := w) (a0 := a) (fun σ' h' mu' pr' w' a' hk E' A hd => ?_) ops.size [] _ σ h.next mu pr _ a (by simp) (by simp) hl hw E R' (Nat.lt_succ_self _) (fun i j v _ _ => R.fresh h.tick i j v (Nat.le_refl _)) ?_ rfl
    · exact hQ σ' h' mu' pr' w' a' hk E' ⟨A.rel, A.ext, A.fr, A.grow, A.tru, A.names, Nat.le_trans (Nat.le_succ _) A.tick⟩ hd
    · exact ⟨R', .refl, ⟨rfl, rfl, rfl, Nat.le_refl _⟩, fun b hb => .inl hb, fun b hb => hb, fun n _ hn => hn, Nat.le_refl _⟩
  · have S := lazyS_of hs
    refine wp_region_any hm ?_
    have hl : lst (Array.replicate ops.size false) = fun _ => false := funext fun j => by
      unfold lst
      by_cases h : j < ops.size <;> simp [h]
    have hcz : ∀ n, cnt (fun _ => false) n = n := by
      intro n
      induction n with
      | zero => rfl
      | succ n ih => simp only [cnt, ih]; simp
    have hx : ∀ m, exL h.tick [] (fun _ => false) m = none := fun m => by unfold exL; split <;> rfl
    have R' : Rel mu pr h.next { w with drawn := w.drawn + 1 } := by
      have := R.next
      exact ⟨this.row, this.inj, this.fresh, this.vers, this.lt, this.tab⟩
    refine lazy_ok (M := M) S hall (mu0 := mu) (pr0 := pr) (h0 := h.next) (w0 := w) (a0 := a) (fun σ' h' mu' pr' w' a' hk E' A hd => ?_) ops.size _ [] [] false _ σ h.next mu pr _ a ⟨by simp, (fun j hj => by simp at hj), (fun j hj => by rw [hl] at hj; cases hj), (fun i o ho hli => by rw [hl] at hli; cases hli), (fun i o ho hli => by simp at hli), ⟨E.1, fun t => ?_⟩, ?_, Nat.lt_succ_self _, (fun i j v _ => R.fresh h.tick i j v (Nat.le_refl _)), (fun i r hl => by cases hl), (fun i hi => by simp at hi)⟩ ?_ hw ?_ rfl
    · exact hQ σ' h' mu' pr' w' a' hk E' ⟨A.rel, A.ext, A.fr, A.grow, A.tru, A.names, Nat.le_trans (Nat.le_succ _) A.tick⟩ hd
    · have : hide ops [] (lst (Array.replicate ops.size false)) σ t = σ t := by
        unfold hide hidB
        simp
      rw [this]
      exact E.2 t
    · rw [hl, plusF_none hx]; exact R'
    · rw [hl, hcz]; exact Nat.le_refl _
    · rw [hl, plusF_none hx]
      exact ⟨R', .refl, ⟨rfl, rfl, rfl, Nat.le_refl _⟩, fun b hb => .inl hb, fun b hb => hb, fun n _ hn => hn, Nat.le_refl _⟩

theorem drawW2_le {P : Program} {M : FuncId → Mode} {C C' : CS} (hC : CS.le C C') : Dle (drawW2 P M C) (drawW2 P M C') := by
  intro ops σ h K K' hK hw
  rcases hw with hw | hw | ⟨hs, hw⟩
  · exact .inl (drawW_mono hC _ _ _ _ _ hK hw)
  · exact .inr (.inl (anyW_mono hC hK _ _ _ _ hw))
  · exact .inr (.inr ⟨hs, lazyW_mono hC hK _ _ _ _ _ _ hw⟩)
end Go.Proofs.YtmcmgeedhbgglaaGreatDoor.AM

namespace Go.Proofs.YtmcmgeedhbgglaaGreatDoor.AM
open Go.RowKit

/-- Cells of a type: a tree of numbers, bools, strings, slices, structs. -/
inductive Shp (P : Program) : TypeId → List AV → Prop
  | bool (t : TypeId) (b : Bool) : P.underlying t = some .bool → Shp P t [.bool b]
  | int (t : TypeId) (k : IntKind) (n : Int) : P.underlying t = some (.int k) → (Lit.int k n).wf = true → Shp P t [.int k n]
  | str (t : TypeId) (s : ByteArray) : P.underlying t = some .string → s.size ≤ maxLen → Shp P t [.str s]
  | sl (t e : TypeId) (elems : List (List AV)) : P.underlying t = some (.slice e) → elems.length ≤ maxLen → (∀ (i : Nat) (el : List AV), elems[i]? = some el → Shp P e el) → Shp P t [.tr true elems]
  | st (t : TypeId) (fs : Array Field) (parts : List (List AV)) : P.underlying t = some (.struct fs) → parts.length = fs.size → (∀ (i : Nat) (f : Field) (p : List AV), fs[i]? = some f → parts[i]? = some p → Shp P f.type p) → Shp P t parts.flatten

def fsOk (P : Program) (ts : List TypeId) (total : Nat) : List Field → Nat → Bool
  | [], off => off == total
  | f :: l, off => f.offset == off && ts.contains f.type && fsOk P ts total l (off + P.cellsOf f.type)

/-- A set of types, closed. -/
def tyOk (P : Program) (ts : List TypeId) : Bool := ts.all fun t => match P.underlying t with
  | some .bool | some (.int _) | some .string => true
  | some (.slice e) => decide (0 < P.cellsOf e) && ts.contains e
  | some (.struct fs) => fsOk P ts (P.cellsOf t) fs.toList 0
  | _ => false

section
variable {H : Type} {enc : TypeId × Value → H} {P : Program} {w : World} {mu : Nm → Nat → Option Loc} {pr : Bool → Nat → Prop}

theorem VRs.one_mk {c : AV} {v : Value} (h : VR mu pr w.heap c v) : VRs mu pr w.heap [c] [v] := .cons h .nil

theorem fields_av {ts : List TypeId} {cs : List Value} {total : Nat} (hcs : cs.length = total) : ∀ (l : List Field) (off : Nat), fsOk P ts total l off = true → off ≤ total →
    (∀ f ∈ l, f.type ∈ ts → ∃ p, VRs mu pr w.heap p ((cs.drop f.offset).take (P.cellsOf f.type)) ∧ ones p = true ∧ Shp P f.type p) →
    ∃ parts : List (List AV), parts.length = l.length ∧ (∀ (i : Nat) (f : Field) (p : List AV), l[i]? = some f → parts[i]? = some p → Shp P f.type p) ∧ VRs mu pr w.heap parts.flatten (cs.drop off) ∧ ones parts.flatten = true
  | [], off, h, ho, _ => by
    simp only [fsOk, beq_iff_eq] at h
    refine ⟨[], rfl, fun i f p hf => by simp at hf, ?_, rfl⟩
    rw [List.drop_eq_nil_of_le (by omega)]
    exact .nil
  | f :: l, off, h, ho, hf => by
    simp only [fsOk, Bool.and_eq_true, beq_iff_eq, List.contains_iff_mem] at h
    obtain ⟨⟨h1, h2⟩, h3⟩ := h
    obtain ⟨p, hp1, hp2, hp3⟩ := hf f (by simp) h2
    rcases Nat.lt_or_ge total (off + P.cellsOf f.type) with hlt | hge
    case inl =>
      exfalso
      have : ∀ (l : List Field) (o : Nat), total < o → fsOk P ts total l o = false := by
        intro l
        induction l with
        | nil => intro o ho; simp only [fsOk, beq_eq_false_iff_ne]; omega
        | cons g l ih => intro o ho; simp only [fsOk, ih _ (by omega : total < o + P.cellsOf g.type), Bool.and_false]
      rw [this l _ hlt] at h3
      cases h3
    case inr =>
      obtain ⟨parts, g1, g2, g3, g4⟩ := fields_av hcs l _ h3 hge (fun g hg => hf g (by simp [hg]))
      refine ⟨p :: parts, by simp [g1], fun i g q hg hq => ?_, ?_, ?_⟩
      · cases i with
        | zero => simp at hg hq; subst hg hq; exact hp3
        | succ i => simp at hg hq; exact g2 i g q hg hq
      · rw [List.flatten_cons]
        have : cs.drop off = (cs.drop f.offset).take (P.cellsOf f.type) ++ cs.drop (off + P.cellsOf f.type) := by
          rw [h1, ← List.drop_drop, List.take_append_drop]
        rw [this]
        exact hp1.append g3
      · rw [List.flatten_cons]
        simp [ones] at hp2 g4 ⊢
        exact ⟨hp2, g4⟩

theorem shp_of {ts : List TypeId} (hts : tyOk P ts = true) (hpr : ∀ b, b < w.heap.size → pr true b) : ∀ (fuel : Nat) (t : TypeId) (cs : List Value) (x : DataW H × List MemPlace), t ∈ ts → DataW.trod enc P w 0 (fun _ => true) true fuel t cs = some x →
    ∃ cells, VRs mu pr w.heap cells cs ∧ ones cells = true ∧ Shp P t cells := by
  intro fuel
  induction fuel with
  | zero => intro t cs x _ h; simp [DataW.trod] at h
  | succ n ih =>
    intro t cs x ht h
    have hok := List.all_eq_true.1 hts t ht
    split at hok
    case h_1 hu => obtain ⟨b, rfl, rfl⟩ := DataW.trod_bool hu h; exact ⟨_, .one_mk (.bool b), rfl, .bool t b hu⟩
    case h_2 k hu => obtain ⟨m, rfl, rfl, hw⟩ := DataW.trod_int hu h; exact ⟨_, .one_mk (.int k m), rfl, .int t k m hu hw⟩
    case h_3 hu => obtain ⟨s, rfl, rfl, hs⟩ := DataW.trod_string hu h; exact ⟨_, .one_mk (.str s), rfl, .str t s hu hs⟩
    case h_4 e hu =>
      simp only [Bool.and_eq_true, decide_eq_true_eq, List.contains_iff_mem] at hok
      obtain ⟨hpos, he⟩ := hok
      rcases DataW.trod_slice hu h with ⟨rfl, rfl⟩ | ⟨a, len, cap, elems, rest, m, hm, rfl, rfl, hb, hlc, hcm, hlen, hel, _, _⟩
      · exact ⟨_, .one_mk (.tr0 true none 0), rfl, .sl t e [] hu (Nat.zero_le _) (fun i el h => by simp at h)⟩
      · obtain rfl : m = n := by omega
        have each : ∀ i, i < len → ∃ (cells : List AV) (vs : List Value), w.cells? 0 (a.add (i * P.cellsOf e)) (P.cellsOf e) = some vs ∧ VRs mu pr w.heap cells vs ∧ ones cells = true ∧ Shp P e cells ∧ vs.length = P.cellsOf e := by
          intro i hi
          have h1 := hel i hi
          have h2 : elems[i]? = some (elems[i]'(by omega)) := by simp
          rw [h2] at h1
          obtain ⟨vs, h3, h4⟩ := Option.bind_eq_some_iff.1 h1
          obtain ⟨cells, g1, g2, g3⟩ := ih e vs _ he h4
          refine ⟨cells, vs, h3, g1, g2, g3, ?_⟩
          unfold World.cells? at h3
          split at h3
          · simpa using mapM_some_length h3
          · cases h3
        have hch : ∃ f : Nat → List AV × List Value, ∀ i, i < len → w.cells? 0 (a.add (i * P.cellsOf e)) (P.cellsOf e) = some (f i).2 ∧ VRs mu pr w.heap (f i).1 (f i).2 ∧ ones (f i).1 = true ∧ Shp P e (f i).1 ∧ (f i).2.length = P.cellsOf e := by
          refine ⟨fun i => if h : i < len then ((each i h).choose, (each i h).choose_spec.choose) else ([], []), fun i hi => ?_⟩
          simp only [dif_pos hi]
          exact (each i hi).choose_spec.choose_spec
        obtain ⟨f, hf⟩ := hch
        have hget : ∀ (i : Nat) (el : List AV), ((List.range len).map fun i => (f i).1)[i]? = some el → i < len ∧ el = (f i).1 := by
          intro i el h
          rw [List.getElem?_map, Option.map_eq_some_iff] at h
          obtain ⟨j, hj, rfl⟩ := h
          have := List.getElem?_eq_some_iff.1 hj
          obtain ⟨h1, h2⟩ := this
          simp at h1 h2
          subst h2
          exact ⟨h1, rfl⟩
        rcases Nat.eq_zero_or_pos len with h0 | hl0
        · subst h0
          exact ⟨_, .one_mk (.tr0 true (some a) cap), rfl, .sl t e [] hu (Nat.zero_le _) (fun i el h => by simp at h)⟩
        · have cellAt : ∀ i j, i < len → j < P.cellsOf e → ∃ u, (f i).2[j]? = some u ∧ w.cell? ((a.add (i * P.cellsOf e)).add j) = some u := by
            intro i j hi hj
            obtain ⟨q1, _, _, _, q5⟩ := hf i hi
            unfold World.cells? at q1
            split at q1
            case isFalse => cases q1
            case isTrue =>
              have := mapM_some_get q1 j j (by simp [hj])
              refine ⟨_, List.getElem?_eq_getElem (by omega), ?_⟩
              rw [List.getElem?_eq_getElem (by omega : j < (f i).2.length)] at this
              exact this
          obtain ⟨b, off, spot⟩ := a
          have hspot : spot = none := by
            obtain ⟨u, _, hu⟩ := cellAt 0 0 hl0 hpos
            rw [Nat.zero_mul, show ∀ x : Addr, x.add 0 = x from fun x => rfl, show ∀ x : Addr, x.add 0 = x from fun x => rfl] at hu
            unfold World.cell? at hu
            split at hu
            · cases spot with
              | none => rfl
              | some s => simp at hu
            · cases hu
          subst hspot
          have hblk : ∃ arr ty fr, w.heap[b]? = some (.cells arr ty fr) := by
            obtain ⟨u, _, hu⟩ := cellAt 0 0 hl0 hpos
            rw [Go.WideShapes.add_plain, Go.WideShapes.add_plain] at hu
            unfold World.cell? at hu
            split at hu
            · rename_i c t' fr' hc; exact ⟨c, t', fr', hc⟩
            · cases hu
          obtain ⟨arr, ty, fr, hblk⟩ := hblk
          have harr : ∀ i j, i < len → j < P.cellsOf e → (f i).2[j]? = arr[off + i * P.cellsOf e + j]? := by
            intro i j hi hj
            obtain ⟨u, h1, h2⟩ := cellAt i j hi hj
            rw [Go.WideShapes.add_plain, Go.WideShapes.add_plain] at h2
            unfold World.cell? at h2
            simp only [hblk] at h2
            rw [h1, ← h2]
            simp
          have hlt : b < w.heap.size := (Array.getElem?_eq_some_iff.1 hblk).1
          have hsz : ((List.range len).map fun i => (f i).1).length = len := by simp
          refine ⟨[.tr true ((List.range len).map fun i => (f i).1)], .one_mk ?_, rfl, .sl t e _ hu (by omega) (fun i el h => by obtain ⟨h1, rfl⟩ := hget i el h; exact (hf i h1).2.2.2.1)⟩
          have hlen2 : ∀ i, i < len → (f i).1.length = P.cellsOf e := fun i hi => by rw [← (hf i hi).2.1.1]; exact (hf i hi).2.2.2.2
          have key := VR.tr (mu := mu) (pr := pr) (hp := w.heap) true b off cap (P.cellsOf e) arr ty fr ((List.range len).map fun i => (f i).1) (fun i j => (f i).2.getD j undef) (hpr b hlt) hblk (by rw [hsz]; exact hlc)
            (fun i el h => by obtain ⟨h1, rfl⟩ := hget i el h; exact hlen2 i h1)
            (fun i el j c h hc => by
              obtain ⟨h1, rfl⟩ := hget i el h
              have hj : j < P.cellsOf e := by rw [← hlen2 i h1]; exact (List.getElem?_eq_some_iff.1 hc).1
              rw [← harr i j h1 hj]
              have : j < (f i).2.length := by rw [(hf i h1).2.2.2.2]; exact hj
              simp [this])
            (fun i el j c h hc => by obtain ⟨h1, rfl⟩ := hget i el h; exact ones_get (hf i h1).2.2.1 hc)
            (fun i el j c h hc => by
              obtain ⟨h1, rfl⟩ := hget i el h
              obtain ⟨u, hu1, hu2⟩ := (hf i h1).2.1.2 j c hc
              simp only [List.getD, hu1, Option.getD_some]
              exact hu2)
          rw [hsz] at key
          exact key
    case h_5 fs hu =>
      obtain ⟨xs, m, hm, rfl, hcl, hxl, hfld⟩ := DataW.trod_struct hu h
      obtain rfl : m = n := by omega
      obtain ⟨parts, g1, g2, g3, g4⟩ := fields_av (w := w) (mu := mu) (pr := pr) hcl fs.toList 0 hok (Nat.zero_le _) (fun f hf hft => by
        obtain ⟨i, hi, hfi⟩ := List.getElem_of_mem hf
        have h1 : fs[i]? = some f := by rw [← Array.getElem?_toList, List.getElem?_eq_getElem hi, hfi]
        have h2 := hfld i f h1
        have h3 : i < xs.length := by rw [hxl]; exact (Array.getElem?_eq_some_iff.1 h1).1
        rw [List.getElem?_eq_getElem h3] at h2
        exact ih f.type _ _ hft h2)
      refine ⟨parts.flatten, by simpa using g3, g4, .st t fs parts hu (by simpa using g1) (fun i f p hf hp => g2 i f p (by simpa using hf) hp)⟩
    case h_6 => cases hok

/-- A value of its cells. -/
def avOf (P : Program) (t : TypeId) (cells : List AV) : AV := match P.underlying t with
  | some (.struct _) => .agg cells
  | _ => cells.headD .undef

theorem arg_av {ts : List TypeId} (hts : tyOk P ts = true) (hpr : ∀ b, b < w.heap.size → pr true b) {t : TypeId} (ht : t ∈ ts) {v : Value} {base : Nat} (hok : Value.okWide P w .any base t v) {d : DataW H} {ps : List MemPlace}
    (hd : DataW.Trod enc P w 0 (fun _ => true) true t v d ps) : ∃ cells, Shp P t cells ∧ VR mu pr w.heap (avOf P t cells) v := by
  obtain ⟨fuel, hf⟩ := hd
  obtain ⟨cells, h1, h2, h3⟩ := shp_of (mu := mu) hts hpr fuel t _ _ ht hf
  refine ⟨cells, h3, ?_⟩
  have hk := List.all_eq_true.1 hts t ht
  have single : v.cells = #[v] → VR mu pr w.heap (cells.headD .undef) v := by
    intro hc
    rw [hc] at h1
    obtain ⟨l, hl⟩ := h1
    cases cells with
    | nil => simp at l
    | cons c cs =>
      obtain ⟨u, hu1, hu2⟩ := hl 0 c rfl
      simp at hu1
      subst hu1
      exact hu2
  unfold avOf
  split at hk
  case h_1 hu => rw [hu]; obtain ⟨b, rfl⟩ := Go.WideShapes.okWide_bool hu hok; exact single rfl
  case h_2 k hu => rw [hu]; obtain ⟨m, rfl⟩ := Go.WideShapes.okWide_int hu hok; exact single rfl
  case h_3 hu => rw [hu]; obtain ⟨s, rfl⟩ := Go.WideShapes.okWide_string hu hok; exact single rfl
  case h_4 e hu => rw [hu]; obtain ⟨a, len, cap, rfl⟩ := Go.WideShapes.okWide_slice hu hok; exact single rfl
  case h_5 fs hu =>
    rw [hu]
    simp only
    have hok' := hok
    unfold Value.okWide at hok'
    rw [hu] at hok'
    obtain ⟨cs, rfl, _, _⟩ := hok'
    have := VR.agg_mk (mu := mu) (pr := pr) (hp := w.heap) h1 h2
    simpa [Value.cells] using this
  case h_6 => cases hk
end
end Go.Proofs.YtmcmgeedhbgglaaGreatDoor.AM

namespace Go.Proofs.YtmcmgeedhbgglaaGreatDoor.AM
open Go.RowKit Go.ChangeShapes

/-- Arguments by their types. -/
def ShpAll (P : Program) : List TypeId → List AV → Prop
  | [], [] => True
  | t :: ts, a :: as1 => (∃ cells, Shp P t cells ∧ a = avOf P t cells) ∧ ShpAll P ts as1
  | _, _ => False

section
variable {H : Type} {enc : TypeId × Value → H} {P : Program} {w : World} {mu : Nm → Nat → Option Loc} {pr : Bool → Nat → Prop}

theorem args_av {ts : List TypeId} (hts : tyOk P ts = true) (hpr : ∀ b, b < w.heap.size → pr true b) {base : Nat} : ∀ (params : List TypeId) (vs : List Value) (ds : List (DataW H)) (ps : List MemPlace), (∀ t ∈ params, t ∈ ts) →
    (∀ (j : Nat) t v, params[j]? = some t → vs[j]? = some v → Value.okWide P w .any base t v) → DataW.TrodAll enc P w 0 (fun _ => true) true params vs ds ps →
    ∃ as1, ShpAll P params as1 ∧ VRs mu pr w.heap as1 vs
  | [], vs, ds, ps, _, _, h => by
    obtain ⟨rfl, rfl, rfl⟩ := trodAll_nil h
    exact ⟨[], trivial, .nil⟩
  | t :: params, vs, ds, ps, hp, hv, h => by
    obtain ⟨v, vs', d, ds', p, q, rfl, rfl, rfl, h1, h2⟩ := trodAll_cons h
    obtain ⟨cells, g1, g2⟩ := arg_av (mu := mu) hts hpr (hp t (by simp)) (hv 0 t v rfl rfl) h1
    obtain ⟨as1, g3, g4⟩ := args_av hts hpr params vs' ds' q (fun t ht => hp t (by simp [ht])) (fun j t v a b => hv (j + 1) t v (by simpa using a) (by simpa using b)) h2
    exact ⟨avOf P t cells :: as1, ⟨⟨cells, g1, rfl⟩, g3⟩, .cons g2 g4⟩

theorem back_all (hl : laidOutB P = true) {W W' : World} (hb : Below W.heap.size W W') : ∀ (params : List TypeId) (vs : List Value) (ds : List (DataW H)) (ps : List MemPlace), (params.all fun t => P.readableRec t && decide (t < P.types.size)) = true →
    DataW.TrodAll enc P W 0 (fun _ => true) true params vs ds ps → DataW.TrodAll enc P W' 0 (fun b => decide (b < W.heap.size)) true params vs ds ps
  | [], vs, ds, ps, _, h => by
    obtain ⟨rfl, rfl, rfl⟩ := trodAll_nil h
    exact trodAll_mk0
  | t :: params, vs, ds, ps, hp, h => by
    obtain ⟨v, vs', d, ds', p, q, rfl, rfl, rfl, h1, h2⟩ := trodAll_cons h
    simp only [List.all_cons, Bool.and_eq_true, decide_eq_true_eq] at hp
    have hlt : ∀ x ∈ p, x.block < W.heap.size := by
      obtain ⟨m, hm⟩ := h1
      exact DataW.trod_lt m _ _ _ hm
    exact ⟨p, q, Below.trod hl hp.1.1 hp.1.2 h1 hb hlt, back_all hl hb params vs' ds' q (by simpa using hp.2) h2, rfl⟩

/-- The law's call. -/
theorem law_calls {f : FuncId} {params ts : List TypeId} (hS : ∀ as1, ShpAll P params as1 → Sound P f as1 (.mt 0) fun v _ => v = .bool true) (hts : tyOk P ts = true) (hp : ∀ t ∈ params, t ∈ ts) {base : Nat} {args : Array Value} {ds : List (DataW H)} {ps : List MemPlace}
    (hv : ∀ (j : Nat) t v, params[j]? = some t → args[j]? = some v → Value.okWide P w .any base t v) (hd : DataW.TrodAll enc P w 0 (fun _ => true) true params args.toList ds ps) (htab : Tab (prLent (fun _ _ => False) w.heap.size) w.heap := by intro b arr hm; simp [tabs] at hm) :
    Calls P f args w fun e w' => e = .returned (.bool true) ∧ Below w.heap.size w w' := by
  obtain ⟨as1, h1, h2⟩ := args_av (mu := fun _ _ => none) (pr := prLent (fun _ _ => False) w.heap.size) hts (fun b hb => by simpa [prLent] using hb) params args.toList ds ps hp (fun j t v a b => hv j t v a (by simpa using b)) hd
  have h3 := (hS as1 h1).2 (fun _ _ => none) (prLent (fun _ _ => False) w.heap.size) w args.toList (Rel.mt P w 0 _ (fun c b hb => by
    cases c
    · simp [prLent] at hb
    · simpa [prLent] using hb) htab) h2
  refine (show Calls P f args.toList.toArray w _ from h3).mono ?_
  rintro e w1 ⟨z, v, hc, mu1, pr1, rfl, rfl, hvz, A⟩
  have : z = .bool true := by cases hvz; rfl
  subst this
  exact ⟨rfl, A.fr.os, A.fr.tape, A.fr.output, A.fr.size, fun k hk => A.ext.same true k (by simpa [prLent] using hk)⟩
end
end Go.Proofs.YtmcmgeedhbgglaaGreatDoor.AM

namespace Go.Proofs.YtmcmgeedhbgglaaGreatDoor.AM
open Go.RowKit

/-- Cells, and the rows that they own: what they are as trees, and the rows' names. -/
inductive Own (rows : Nm → Option Row) (c : Bool) : List AV → List AV → List Nm → Prop
  | nil : Own rows c [] [] []
  | int {as1 ts : List AV} {ns : List Nm} (k : IntKind) (n : Int) : Own rows c as1 ts ns → Own rows c (.int k n :: as1) (.int k n :: ts) ns
  | bool {as1 ts : List AV} {ns : List Nm} (b : Bool) : Own rows c as1 ts ns → Own rows c (.bool b :: as1) (.bool b :: ts) ns
  | str {as1 ts : List AV} {ns : List Nm} (s : ByteArray) : Own rows c as1 ts ns → Own rows c (.str s :: as1) (.str s :: ts) ns
  | nilsl {as1 ts : List AV} {ns : List Nm} : Own rows c as1 ts ns → Own rows c (.nilsl :: as1) (.tr c [] :: ts) ns
  | sl {as1 ts : List AV} {ns1 ns2 : List Nm} (n : Nm) (ver len s : Nat) (r : Row) (ts' : List (List AV)) : rows n = some r → r.ver = ver → r.esz = s → ClRow r → len ≤ r.elems.length → (∀ e ∈ r.elems, e.length = s) → ts'.length = len → (∀ e ∈ ts', e.length = s) →
      Own rows c (r.elems.take len).flatten ts'.flatten ns1 → Own rows c as1 ts ns2 → Own rows c (.sl n ver 0 len :: as1) (.tr c ts' :: ts) (n :: (ns1 ++ ns2))
  | slo {as1 ts : List AV} {ns : List Nm} (n : Nm) (ver : Nat) (pre sp : List (List AV)) (xs : List Int) : rows n = some ⟨ver, 1, pre ++ ((xs.map fun x => [AV.int .i64 x]) ++ sp)⟩ → ClRow ⟨ver, 1, pre⟩ → ClRow ⟨ver, 1, sp⟩ → (∀ e ∈ pre, e.length = 1) → (∀ e ∈ sp, e.length = 1) → Own rows c as1 ts ns →
      Own rows c (.sl n ver pre.length xs.length :: as1) (.tr c (xs.map fun x => [AV.int .i64 x]) :: ts) (n :: ns)

section
variable {rows rows' : Nm → Option Row} {c : Bool}

theorem Own.length {as1 ts : List AV} {ns : List Nm} (h : Own rows c as1 ts ns) : ts.length = as1.length := by
  induction h <;> simp_all

theorem Own.append {as1 ts as' ts' : List AV} {ns ns' : List Nm} (h : Own rows c as1 ts ns) (k : Own rows c as' ts' ns') : Own rows c (as1 ++ as') (ts ++ ts') (ns ++ ns') := by
  induction h with
  | nil => exact k
  | int q n _ ih => exact .int q n ih
  | bool b _ ih => exact .bool b ih
  | str s _ ih => exact .str s ih
  | nilsl _ ih => exact .nilsl ih
  | @sl as1 ts ns1 ns2 n ver len s r ts' h1 h2 h3 h4 h5 h6 h7 h8 h9 _ _ ih =>
    have := Own.sl (ns1 := ns1) n ver len s r ts' h1 h2 h3 h4 h5 h6 h7 h8 h9 ih
    simpa [List.append_assoc] using this
  | slo n ver pre sp xs h1 h2 h3 h4 h5 _ ih => exact .slo n ver pre sp xs h1 h2 h3 h4 h5 ih

theorem Own.split : ∀ {as1 : List AV} {as2 ts1 ts2 : List AV} {ns : List Nm}, Own rows c (as1 ++ as2) (ts1 ++ ts2) ns → ts1.length = as1.length → ∃ ns1 ns2, ns = ns1 ++ ns2 ∧ Own rows c as1 ts1 ns1 ∧ Own rows c as2 ts2 ns2
  | [], as2, ts1, ts2, ns, h, hl => by
    obtain rfl : ts1 = [] := List.eq_nil_of_length_eq_zero (by simpa using hl)
    exact ⟨[], ns, rfl, .nil, h⟩
  | a :: as1, as2, [], ts2, ns, h, hl => by simp at hl
  | a :: as1, as2, t :: ts1, ts2, ns, h, hl => by
    simp only [List.length_cons, Nat.add_right_cancel_iff] at hl
    cases h with
    | int q n h => obtain ⟨n1, n2, e, h1, h2⟩ := Own.split h hl; exact ⟨n1, n2, e, .int q n h1, h2⟩
    | bool b h => obtain ⟨n1, n2, e, h1, h2⟩ := Own.split h hl; exact ⟨n1, n2, e, .bool b h1, h2⟩
    | str s h => obtain ⟨n1, n2, e, h1, h2⟩ := Own.split h hl; exact ⟨n1, n2, e, .str s h1, h2⟩
    | nilsl h => obtain ⟨n1, n2, e, h1, h2⟩ := Own.split h hl; exact ⟨n1, n2, e, .nilsl h1, h2⟩
    | @sl _ _ ns1 ns2 n ver len s r ts' q1 q2 q3 q4 q5 q6 q7 q8 q9 h =>
      obtain ⟨n1, n2, e, h1, h2⟩ := Own.split h hl
      subst e
      exact ⟨n :: (ns1 ++ n1), n2, by simp [List.append_assoc], .sl n ver len s r ts' q1 q2 q3 q4 q5 q6 q7 q8 q9 h1, h2⟩
    | slo n ver pre sp xs q1 q2 q3 q4 q5 h =>
      obtain ⟨n1, n2, e, h1, h2⟩ := Own.split h hl
      subst e
      exact ⟨n :: n1, n2, rfl, .slo n ver pre sp xs q1 q2 q3 q4 q5 h1, h2⟩

theorem Own.congr {as1 ts : List AV} {ns : List Nm} (h : Own rows c as1 ts ns) (hr : ∀ n ∈ ns, rows' n = rows n) : Own rows' c as1 ts ns := by
  induction h with
  | nil => exact .nil
  | int q n _ ih => exact .int q n (ih hr)
  | bool b _ ih => exact .bool b (ih hr)
  | str s _ ih => exact .str s (ih hr)
  | nilsl _ ih => exact .nilsl (ih hr)
  | sl n ver len s r ts' h1 h2 h3 h4 h5 h6 h7 h8 _ _ ih1 ih2 =>
    exact .sl n ver len s r ts' (by rw [hr n (by simp)]; exact h1) h2 h3 h4 h5 h6 h7 h8 (ih1 fun m hm => hr m (by simp [hm])) (ih2 fun m hm => hr m (by simp [hm]))
  | slo n ver pre sp xs h1 h2 h3 h4 h5 _ ih => exact .slo n ver pre sp xs (by rw [hr n (by simp)]; exact h1) h2 h3 h4 h5 (ih fun m hm => hr m (by simp [hm]))

theorem flatten_at {α : Type} : ∀ (l : List (List α)) (s i j : Nat) (e : List α) (x : α), (∀ e ∈ l, e.length = s) → l[i]? = some e → e[j]? = some x → l.flatten[i * s + j]? = some x
  | [], s, i, j, e, x, _, hi, _ => by simp at hi
  | y :: l, s, 0, j, e, x, h, hi, hj => by
    simp at hi; subst hi
    rw [List.flatten_cons, Nat.zero_mul, Nat.zero_add, List.getElem?_append_left (lt_get hj)]
    exact hj
  | y :: l, s, i + 1, j, e, x, h, hi, hj => by
    have hy := h y (by simp)
    rw [List.flatten_cons, List.getElem?_append_right (by rw [hy, Nat.add_mul]; omega)]
    have := flatten_at l s i j e x (fun e he => h e (by simp [he])) (by simpa using hi) hj
    rw [hy, show (i + 1) * s + j - s = i * s + j by rw [Nat.add_mul]; omega]
    exact this

theorem Own.dr {as1 ts : List AV} {ns : List Nm} (h : Own rows c as1 ts ns) : ∀ (i : Nat) (a t : AV), as1[i]? = some a → ts[i]? = some t → DR c rows a t := by
  induction h with
  | nil => intro i a t h; simp at h
  | int q n _ ih =>
    intro i a t ha ht
    cases i with
    | zero => simp at ha ht; subst ha ht; exact .int q n
    | succ i => exact ih i a t (by simpa using ha) (by simpa using ht)
  | bool b _ ih =>
    intro i a t ha ht
    cases i with
    | zero => simp at ha ht; subst ha ht; exact .bool b
    | succ i => exact ih i a t (by simpa using ha) (by simpa using ht)
  | str s _ ih =>
    intro i a t ha ht
    cases i with
    | zero => simp at ha ht; subst ha ht; exact .str s
    | succ i => exact ih i a t (by simpa using ha) (by simpa using ht)
  | nilsl _ ih =>
    intro i a t ha ht
    cases i with
    | zero => simp at ha ht; subst ha ht; exact .nilsl
    | succ i => exact ih i a t (by simpa using ha) (by simpa using ht)
  | sl n ver len s r ts' h1 h2 h3 h4 h5 h6 h7 h8 _ _ ih1 ih2 =>
    intro i a t ha ht
    cases i with
    | succ i => exact ih2 i a t (by simpa using ha) (by simpa using ht)
    | zero =>
      simp at ha ht; subst ha ht
      refine .sl n ver 0 len r ts' h1 h2 (by omega) h7 (fun i e t he ht => ?_) (fun i e t j x y he ht hx hy => ?_)
      · rw [h8 t (List.mem_of_getElem? ht), h6 e (List.mem_of_getElem? he)]
      · have hi : i < len := by rw [← h7]; exact lt_get ht
        refine ih1 (i * s + j) x y ?_ ?_
        · refine flatten_at _ s i j e x (fun e he => h6 e (List.mem_of_mem_take he)) ?_ hx
          rw [List.getElem?_take, if_pos hi]
          simpa using he
        · exact flatten_at _ s i j t y h8 ht hy
  | slo n ver pre sp xs h1 h2 h3 h4 h5 _ ih =>
    intro i a t ha ht
    cases i with
    | succ i => exact ih i a t (by simpa using ha) (by simpa using ht)
    | zero =>
      simp at ha ht; subst ha ht
      have hel : ∀ (i : Nat) (e t : List AV), (pre ++ ((xs.map fun x => [AV.int .i64 x]) ++ sp))[pre.length + i]? = some e → (xs.map fun x => [AV.int .i64 x])[i]? = some t → e = t := fun i e t he ht => by
        rw [List.getElem?_append_right (by omega), Nat.add_sub_cancel_left, List.getElem?_append_left (lt_get ht), ht] at he
        exact (Option.some.inj he).symm
      refine .sl n ver pre.length xs.length _ _ h1 rfl (by simp) (by simp) (fun i e t he ht => by rw [hel i e t he ht]) (fun i e t j x y he ht hx hy => ?_)
      rw [hel i e t he ht] at hx
      rw [hx] at hy; cases hy
      simp at ht; obtain ⟨a, _, rfl⟩ := ht
      match j, hx with
      | 0, hx => simp at hx; subst hx; exact .int .i64 a

theorem Own.cl {as1 ts : List AV} {ns : List Nm} (h : Own rows c as1 ts ns) : ∀ (i : Nat) (a : AV), as1[i]? = some a → Cl a := by
  induction h with
  | nil => intro i a h; simp at h
  | int q n _ ih =>
    intro i a ha
    cases i with
    | zero => simp at ha; subst ha; exact .int q n
    | succ i => exact ih i a (by simpa using ha)
  | bool b _ ih =>
    intro i a ha
    cases i with
    | zero => simp at ha; subst ha; exact .bool b
    | succ i => exact ih i a (by simpa using ha)
  | str s _ ih =>
    intro i a ha
    cases i with
    | zero => simp at ha; subst ha; exact .str s
    | succ i => exact ih i a (by simpa using ha)
  | nilsl _ ih =>
    intro i a ha
    cases i with
    | zero => simp at ha; subst ha; exact .nilsl
    | succ i => exact ih i a (by simpa using ha)
  | sl n ver len s r ts' h1 h2 h3 h4 h5 h6 h7 h8 _ _ ih1 ih2 =>
    intro i a ha
    cases i with
    | zero => simp at ha; subst ha; exact .sl n ver 0 len
    | succ i => exact ih2 i a (by simpa using ha)
  | slo n ver pre sp xs h1 h2 h3 h4 h5 _ ih =>
    intro i a ha
    cases i with
    | zero => simp at ha; subst ha; exact .sl n ver _ _
    | succ i => exact ih i a (by simpa using ha)

theorem Own.row {as1 ts : List AV} {ns : List Nm} (h : Own rows c as1 ts ns) : ∀ n ∈ ns, ∃ r, rows n = some r ∧ ClRow r := by
  induction h with
  | nil => intro n hn; simp at hn
  | int q n _ ih => exact ih
  | bool b _ ih => exact ih
  | str s _ ih => exact ih
  | nilsl _ ih => exact ih
  | sl n ver len s r ts' h1 h2 h3 h4 h5 h6 h7 h8 _ _ ih1 ih2 =>
    intro m hm
    simp only [List.mem_cons, List.mem_append] at hm
    rcases hm with rfl | hm | hm
    · exact ⟨r, h1, h4⟩
    · exact ih1 m hm
    · exact ih2 m hm
  | slo n ver pre sp xs h1 h2 h3 h4 h5 _ ih =>
    intro m hm
    simp only [List.mem_cons] at hm
    rcases hm with rfl | hm
    · refine ⟨_, h1, fun i e j x he hx => ?_⟩
      simp only at he
      by_cases hi : i < pre.length
      · rw [List.getElem?_append_left hi] at he
        exact h2 i e j x he hx
      · rw [List.getElem?_append_right (by omega)] at he
        by_cases hi2 : i - pre.length < xs.length
        · rw [List.getElem?_append_left (by simpa using hi2)] at he
          simp at he; obtain ⟨a, _, rfl⟩ := he
          match j, hx with
          | 0, hx => simp at hx; subst hx; exact .int .i64 a
        · rw [List.getElem?_append_right (by simpa using hi2)] at he
          exact h3 _ e j x he hx
    · exact ih m hm

/-- Values. -/
inductive OwnV (rows : Nm → Option Row) (c : Bool) : AV → AV → List Nm → Prop
  | one {a t : AV} {ns : List Nm} : Own rows c [a] [t] ns → OwnV rows c a t ns
  | agg {as1 ts : List AV} {ns : List Nm} : Own rows c as1 ts ns → OwnV rows c (.agg as1) (.agg ts) ns
  | tup2 {a t a' t' : AV} {ns ns' : List Nm} : OwnV rows c a t ns → OwnV rows c a' t' ns' → OwnV rows c (.tup [a, a']) (.tup [t, t']) (ns ++ ns')

theorem OwnV.dr {v t : AV} {ns : List Nm} (h : OwnV rows c v t ns) : DR c rows v t := by
  induction h with
  | one h => exact h.dr 0 _ _ rfl rfl
  | agg h => exact .agg _ _ h.length h.dr
  | @tup2 a t a' t' _ _ _ _ ih1 ih2 =>
    refine .tup _ _ rfl fun j x y hx hy => ?_
    match j, hx, hy with
    | 0, hx, hy => simp at hx hy; subst hx hy; exact ih1
    | 1, hx, hy => simp at hx hy; subst hx hy; exact ih2

theorem OwnV.cl {v t : AV} {ns : List Nm} (h : OwnV rows c v t ns) : Cl v := by
  induction h with
  | one h => exact h.cl 0 _ rfl
  | agg h => exact .agg _ h.cl
  | @tup2 a t a' t' _ _ _ _ ih1 ih2 =>
    refine .tup _ fun j x hx => ?_
    match j, hx with
    | 0, hx => simp at hx; subst hx; exact ih1
    | 1, hx => simp at hx; subst hx; exact ih2

theorem OwnV.congr {v t : AV} {ns : List Nm} (h : OwnV rows c v t ns) (hr : ∀ n ∈ ns, rows' n = rows n) : OwnV rows' c v t ns := by
  induction h with
  | one h => exact .one (h.congr hr)
  | agg h => exact .agg (h.congr hr)
  | tup2 _ _ ih1 ih2 => exact .tup2 (ih1 fun n hn => hr n (by simp [hn])) (ih2 fun n hn => hr n (by simp [hn]))

theorem OwnV.row {v t : AV} {ns : List Nm} (h : OwnV rows c v t ns) : ∀ n ∈ ns, ∃ r, rows n = some r ∧ ClRow r := by
  induction h with
  | one h => exact h.row
  | agg h => exact h.row
  | tup2 _ _ ih1 ih2 =>
    intro n hn
    rcases List.mem_append.1 hn with h | h
    · exact ih1 n h
    · exact ih2 n h
end

section
variable {P : Program} {M : FuncId → Mode}

/-- A function of its arguments' values alone: its result as a tree. -/
def Pure (P : Program) (f : FuncId) (args : List AV) (r : AV) : Prop := ∀ T, Sound P f args (.mt T) fun v h' => DR false h'.rows v r

/-- A function whose result is its own: new rows. -/
def Fresh (P : Program) (f : FuncId) (args : List AV) (r : Bool → AV) : Prop := ∀ T, Sound P f args (.mt T) fun v h' => T ≤ h'.tick ∧ ∃ ns, (∀ c, OwnV h'.rows c v (r c) ns) ∧ ns.Nodup ∧ ∀ n ∈ ns, T ≤ n.1 ∧ n.1 < h'.tick

/-- The same, with no word on where the rows lie: that they are new follows. -/
def FreshW (P : Program) (f : FuncId) (args : List AV) (r : Bool → AV) : Prop := ∀ T, Sound P f args (.mt T) fun v h' => ∃ ns, (∀ c, OwnV h'.rows c v (r c) ns) ∧ ns.Nodup ∧ ∀ n ∈ ns, n.1 < h'.tick

theorem Sound.mono {f : FuncId} {args : List AV} {h : Hp} {K K' : AV → Hp → Prop} (hk : ∀ v h', K v h' → K' v h') (hs : Sound P f args h K) : Sound P f args h K' :=
  ⟨hs.1, fun mu pr w vs R hv => (hs.2 mu pr w vs R hv).mono fun e w' ⟨z, v, h', mu', pr', e1, k, r⟩ => ⟨z, v, h', mu', pr', e1, hk _ _ k, r⟩⟩

theorem Fresh.w {f : FuncId} {args : List AV} {r : Bool → AV} (h : Fresh P f args r) : FreshW P f args r := fun T => (h T).mono fun v h' ⟨_, ns, k, d, l⟩ => ⟨ns, k, d, fun n hn => (l n hn).2⟩
theorem FreshW.pure {f : FuncId} {args : List AV} {r : Bool → AV} (h : FreshW P f args r) : Pure P f args (r false) := fun T => (h T).mono fun v h' ⟨ns, k, _⟩ => (k false).dr
theorem Fresh.pure {f : FuncId} {args : List AV} {r : Bool → AV} (h : Fresh P f args r) : Pure P f args (r false) := fun T => (h T).mono fun v h' ⟨_, ns, k, _⟩ => (k false).dr

theorem DRs.nil {c : Bool} {rows : Nm → Option Row} : DRs c rows [] [] := ⟨rfl, fun i a t h => by simp at h⟩
theorem DRs.cons {c : Bool} {rows : Nm → Option Row} {a t : AV} {as1 ts : List AV} (h : DR c rows a t) (hs : DRs c rows as1 ts) : DRs c rows (a :: as1) (t :: ts) :=
  ⟨by simp [hs.1], fun i x y hx hy => by
    cases i with
    | zero => simp at hx hy; subst hx hy; exact h
    | succ i => exact hs.2 i x y (by simpa using hx) (by simpa using hy)⟩

theorem treeW_pure {g : FuncId} {rows : Nm → Option Row} {args targs : List AV} {r : AV} {t : Nat} {K : AV → Prop} (hp : Pure P g targs r) (ha : DRs true rows args targs) (hk : K r) : treeW (Sound P) g rows args t K := ⟨targs, r, ha, hp t, hk⟩

theorem freshW_of {g : FuncId} {args targs : List AV} {r : Bool → AV} {h : Hp} {K : AV → Hp → Prop} (hp : FreshW P g targs r) (ha : DRs true h.rows args targs)
    (hk : ∀ v h' ns, (∀ c, OwnV h'.rows c v (r c) ns) → ns.Nodup → (∀ n ∈ ns, h.tick ≤ n.1 ∧ n.1 < h'.tick) → (∀ n, n.1 < h.tick → h'.rows n = h.rows n) → h.tick ≤ h'.tick → K v h') : freshW (Sound P) g args h K := by
  refine ⟨targs, ha, (hp h.tick).mono ?_⟩
  rintro v h' ⟨ns, h1, h2, h3⟩ low ht
  have h3 : ∀ n ∈ ns, h.tick ≤ n.1 ∧ n.1 < h'.tick := fun n hn => by
    obtain ⟨r, hr, _⟩ := (h1 true).row n hn
    exact ⟨low n r hr, h3 n hn⟩
  refine ⟨fun n => if n ∈ ns then h'.rows n else none, fun n r hn => ?_, (h1 true).cl, hk v _ ns (fun c => (h1 c).congr fun n hn => ?_) h2 h3 (fun n hn => ?_) ht⟩
  · by_cases hm : n ∈ ns
    · obtain ⟨r', q1, q2⟩ := (h1 true).row n hm
      simp only [if_pos hm] at hn
      rw [q1] at hn
      cases hn
      exact ⟨q1, q2⟩
    · simp [if_neg hm] at hn
  · have := (h3 n hn).1
    simp only [Hp.join]
    rw [if_neg (by omega), if_pos hn]
  · simp only [Hp.join, if_pos hn]

/-- A loop, by a measure. -/
theorem wpC_inv {C : CS} (hC : CS.le C C) {D : Array Oper → (Nat → AV) → Hp → ((Nat → AV) → Hp → Prop) → Prop} (hD : Dle D D) {α : Type} (I : α → (Nat → AV) → Hp → Prop) (m : α → Nat) {body : Code} {K : Ex → (Nat → AV) → Hp → Prop}
    (step : ∀ a σ h, I a σ h → wpC P M C D body σ h (fun e σ' h' => match e with | .normal => ∃ a', m a' < m a ∧ I a' σ' h' | e => K e σ' h')) (a : α) {σ : Nat → AV} {h : Hp} (h0 : I a σ h) : wpC P M C D (.loop body) σ h K := by
  intro J hJ
  have key : ∀ (n : Nat) (a : α) (σ : Nat → AV) (h : Hp), m a < n → I a σ h → J σ h := by
    intro n
    induction n with
    | zero => intro a σ h hm; omega
    | succ n ih =>
      intro a σ h hm hi
      refine hJ σ h (wpC_mono hC hD _ _ _ _ _ (fun e σ' h' hr => ?_) (step a σ h hi))
      cases e
      · obtain ⟨a', h1, h2⟩ := hr
        exact ih a' σ' h' (by omega) h2
      · exact hr
      · exact hr
  exact key _ a σ h (Nat.lt_succ_self _) h0

theorem Sound.le : CS.le (Sound P) (Sound P) := fun f args h K K' hk hs => Sound.mono hk hs
theorem drawW_le : Dle (drawW2 P M (Sound P)) (drawW2 P M (Sound P)) := drawW2_le Sound.le
end

/-! ### Whole numbers -/
def ints (c : Bool) (xs : List Int) : AV := .tr c (xs.map fun n => [.int .i64 n])
def intss (c : Bool) (xs : List (List Int)) : AV := .tr c (xs.map fun x => [ints c x])

theorem own_flat {rows : Nm → Option Row} {c : Bool} : ∀ xs : List Int, Own rows c (xs.map fun n => [AV.int .i64 n]).flatten (xs.map fun n => [AV.int .i64 n]).flatten []
  | [] => .nil
  | x :: xs => .int .i64 x (own_flat xs)

theorem clRow_ints {ver : Nat} {l : List (List AV)} (h : ∀ e ∈ l, ∃ n : Int, e = [.int .i64 n]) : ClRow ⟨ver, 1, l⟩ := fun i e j x he hx => by
  obtain ⟨n, rfl⟩ := h e (List.mem_of_getElem? he)
  match j, hx with
  | 0, hx => simp at hx; subst hx; exact .int .i64 n

theorem own_ints {rows : Nm → Option Row} {c : Bool} {n : Nm} {ver len : Nat} {xs ys : List Int} (h : rows n = some ⟨ver, 1, ys.map fun n => [.int .i64 n]⟩) (hl : ys.take len = xs) (hx : xs.length = len) : Own rows c [.sl n ver 0 len] [ints c xs] [n] := by
  have h1 : ((ys.map fun n => [AV.int .i64 n]).take len) = xs.map fun n => [AV.int .i64 n] := by rw [← List.map_take, hl]
  have := Own.sl (as1 := []) (ts := []) (ns1 := []) (ns2 := []) (c := c) n ver len 1 _ (xs.map fun n => [AV.int .i64 n]) h rfl rfl (clRow_ints fun e he => by simp at he; obtain ⟨a, _, rfl⟩ := he; exact ⟨a, rfl⟩)
    (by simp; have := congrArg List.length hl; simp at this; omega) (fun e he => by simp at he; obtain ⟨a, _, rfl⟩ := he; rfl) (by simpa using hx) (fun e he => by simp at he; obtain ⟨a, _, rfl⟩ := he; rfl)
    (by rw [h1]; exact own_flat xs) .nil
  simpa [ints] using this

theorem dr_ints {c b : Bool} {rows : Nm → Option Row} (hb : b = true → c = true) (xs : List Int) : DR c rows (ints b xs) (ints c xs) := by
  refine .tr b _ _ hb (by simp) (fun i e t he ht => ?_) (fun i e t j x y he ht hx hy => ?_)
  · simp at he ht; obtain ⟨a, h1, rfl⟩ := he; obtain ⟨a', h2, rfl⟩ := ht; rfl
  · simp at he ht; obtain ⟨a, h1, rfl⟩ := he; obtain ⟨a', h2, rfl⟩ := ht
    rw [h1] at h2; cases h2
    match j, hx, hy with
    | 0, hx, hy => simp at hx hy; subst hx hy; exact .int .i64 a

theorem dr_intss {c b : Bool} {rows : Nm → Option Row} (hb : b = true → c = true) (xs : List (List Int)) : DR c rows (intss b xs) (intss c xs) := by
  refine .tr b _ _ hb (by simp) (fun i e t he ht => ?_) (fun i e t j x y he ht hx hy => ?_)
  · simp at he ht; obtain ⟨a, h1, rfl⟩ := he; obtain ⟨a', h2, rfl⟩ := ht; rfl
  · simp at he ht; obtain ⟨a, h1, rfl⟩ := he; obtain ⟨a', h2, rfl⟩ := ht
    rw [h1] at h2; cases h2
    match j, hx, hy with
    | 0, hx, hy => simp at hx hy; subst hx hy; exact dr_ints hb a
end Go.Proofs.YtmcmgeedhbgglaaGreatDoor.AM

namespace Go.Proofs.YtmcmgeedhbgglaaGreatDoor.AM
open Go.RowKit

section
variable {P : Program} {M : FuncId → Mode} {C : CS} {D : Array Oper → (Nat → AV) → Hp → ((Nat → AV) → Hp → Prop) → Prop} {σ : Nat → AV} {h h' : Hp} {K : Ex → (Nat → AV) → Hp → Prop} {a b : Code}

/-- What comes behind. -/
def KSeq (P : Program) (M : FuncId → Mode) (C : CS) (D : Array Oper → (Nat → AV) → Hp → ((Nat → AV) → Hp → Prop) → Prop) (b : Code) (K : Ex → (Nat → AV) → Hp → Prop) : Ex → (Nat → AV) → Hp → Prop := fun e σ' h' => match e with | .normal => wpC P M C D b σ' h' K | e => K e σ' h'
def KBlk (id : Nat) (K : Ex → (Nat → AV) → Hp → Prop) : Ex → (Nat → AV) → Hp → Prop := fun e σ' h' => match e with | .exit j => if j = id then K .normal σ' h' else K (.exit j) σ' h' | e => K e σ' h'
def KFn (P : Program) (fn : Func) (K : AV → Hp → Prop) : Ex → (Nat → AV) → Hp → Prop := fun e σ h' => match e with | .exit _ => False | _ => resW P fn h' σ K
def KLp {α : Type} (I : α → (Nat → AV) → Hp → Prop) (m : α → Nat) (a : α) (K : Ex → (Nat → AV) → Hp → Prop) : Ex → (Nat → AV) → Hp → Prop := fun e σ' h' => match e with | .normal => ∃ a', m a' < m a ∧ I a' σ' h' | e => K e σ' h'
theorem k_seq_n (w : wpC P M C D b σ h K) : KSeq P M C D b K .normal σ h := w
theorem k_seq_r (w : K .ret σ h) : KSeq P M C D b K .ret σ h := w
theorem k_seq_e {id : Nat} (w : K (.exit id) σ h) : KSeq P M C D b K (.exit id) σ h := w
theorem k_blk_n {id : Nat} (w : K .normal σ h) : KBlk id K .normal σ h := w
theorem k_blk_r {id : Nat} (w : K .ret σ h) : KBlk id K .ret σ h := w
theorem k_blk_s {id : Nat} (w : K .normal σ h) : KBlk id K (.exit id) σ h := by
  show (if id = id then K .normal σ h else _)
  rw [if_pos rfl]
  exact w
theorem k_blk_o {id j : Nat} (hne : (j == id) = false) (w : K (.exit j) σ h) : KBlk id K (.exit j) σ h := by
  show (if j = id then K .normal σ h else K (.exit j) σ h)
  rw [if_neg (by simpa using hne)]
  exact w
theorem k_fn_r {fn : Func} {K : AV → Hp → Prop} (w : resW P fn h σ K) : KFn P fn K .ret σ h := w
theorem k_fn_n {fn : Func} {K : AV → Hp → Prop} (w : resW P fn h σ K) : KFn P fn K .normal σ h := w
theorem k_lp_r {α : Type} {I : α → (Nat → AV) → Hp → Prop} {m : α → Nat} {a : α} (w : K .ret σ h) : KLp I m a K .ret σ h := w
theorem k_lp_e {α : Type} {I : α → (Nat → AV) → Hp → Prop} {m : α → Nat} {a : α} {id : Nat} (w : K (.exit id) σ h) : KLp I m a K (.exit id) σ h := w
theorem k_lp_n {α : Type} {I : α → (Nat → AV) → Hp → Prop} {m : α → Nat} {a : α} (a' : α) (w1 : m a' < m a) (w2 : I a' σ h) : KLp I m a K .normal σ h := ⟨a', w1, w2⟩

theorem st_seq (w : wpC P M C D a σ h (KSeq P M C D b K)) : wpC P M C D (.seq a b) σ h K := w
theorem st_reg {id : Nat} {ops : List Oper} (w : wpOps P M C ops.toArray h.tick ops 0 σ h.next (fun σ' h' => K .normal σ' h')) : wpC P M C D (.region id ops.toArray false) σ h K := w
theorem st_draw {id : Nat} {ops : List Oper} (f : Nat) (W : Nm → Bool) (hd : drawOk ops.toArray f = true)
    (w : frontW P M C ops.toArray h.tick W h.rows (ops.take f) 0 σ h.next (fun σ' h' => wpOps P M C ops.toArray h.tick (ops.drop f) f σ' h' (fun σ' h' => K .normal σ' h'))) : wpC P M C (drawW2 P M C) (.region id ops.toArray true) σ h K := .inl ⟨f, W, hd, w⟩
theorem st_any {id : Nat} {ops : List Oper} (w : anyW P M C ops.toArray h.tick ops.length [] σ h.next (fun σ' h' => K .normal σ' h')) : wpC P M C (drawW2 P M C) (.region id ops.toArray true) σ h K := .inr (.inl w)
theorem any_id {ops : Array Oper} {T n : Nat} {done : List Nat} {N : (Nat → AV) → Hp → Prop} (w : anyW P M C ops T n done σ h N) : anyW P M C ops T n done σ h N := w
theorem any_end {ops : Array Oper} {T : Nat} {done : List Nat} {N : (Nat → AV) → Hp → Prop} (hl : (readyL ops done).isEmpty = true) (w : N σ h) : anyW P M C ops T 0 done σ h N := ⟨List.isEmpty_iff.1 hl, w⟩
theorem any_step {ops : Array Oper} {T n : Nat} {done : List Nat} {N : (Nat → AV) → Hp → Prop} (hl : (readyL ops done).isEmpty = false) (w : allW (readyL ops done) fun i => ∃ o, ops[i]? = some o ∧ wpOps P M C ops T [o] i σ h (fun σ' h' => anyW P M C ops T n (i :: done) σ' h' N)) : anyW P M C ops T (n + 1) done σ h N :=
  ⟨fun e => (by rw [e] at hl; cases hl), w⟩
theorem all_id {l : List Nat} {k : Nat → Prop} (w : allW l k) : allW l k := w
theorem any_op {ops : Array Oper} {i : Nat} {o : Oper} {k : Oper → Prop} (ho : ops[i]? = some o) (w : k o) : ∃ o, ops[i]? = some o ∧ k o := ⟨o, ho, w⟩
theorem st_skip (w : K .normal σ h) : wpC P M C D .skip σ h K := w
theorem st_ret (w : K .ret σ h) : wpC P M C D .ret σ h K := w
theorem st_exit {id : Nat} (w : K (.exit id) σ h) : wpC P M C D (.exit id) σ h K := w
theorem st_block {id : Nat} (w : wpC P M C D a σ h (KBlk id K)) : wpC P M C D (.block id a) σ h K := w

/-- What comes of an evaluation. -/
def Ev {α : Type} (x : Option α) (k : α → Prop) : Prop := match x with | some v => k v | none => False
def Ev2 (x : Option (AV × Hp)) (k : AV → Hp → Prop) : Prop := match x with | some r => k r.1 r.2 | none => False
theorem ev2_some {v : AV} {h : Hp} {k : AV → Hp → Prop} (w : k v h) : Ev2 (some (v, h)) k := w
def EvN (x : Option (AV × Row)) (k : AV → Row → Prop) : Prop := match x with | some r => k r.1 r.2 | none => False
theorem evn_some {v : AV} {r : Row} {k : AV → Row → Prop} (w : k v r) : EvN (some (v, r)) k := w
def At {α : Type} (x : α) (k : α → Prop) : Prop := k x
/-- A branch. -/
def Br (x : AV) (k1 k2 : Prop) : Prop := match x with | .bool b => (b = true → k1) ∧ (b = false → k2) | _ => False
/-- What an operation yielded. -/
def gdv (all : Array Oper) (σ : Nat → AV) (j : Nat) : AV := match all[j]? with | some o' => (match o'.dst with | some d => σ d | none => .undef) | none => .undef
/-- A guard. -/
def Gd (want : Bool) (x : AV) (k1 k2 : Prop) : Prop := match x with | .bool b => (b = want → k1) ∧ (b ≠ want → k2) | .tup [] => k2 | _ => False
theorem br_t {k1 k2 : Prop} (w : k1) : Br (.bool true) k1 k2 := ⟨fun _ => w, fun e => by cases e⟩
theorem br_f {k1 k2 : Prop} (w : k2) : Br (.bool false) k1 k2 := ⟨fun e => (by cases e), fun _ => w⟩
theorem br_b {b : Bool} {k1 k2 : Prop} (w1 : b = true → k1) (w2 : b = false → k2) : Br (.bool b) k1 k2 := ⟨w1, w2⟩
theorem gd_tt {k1 k2 : Prop} (w : k1) : Gd true (.bool true) k1 k2 := ⟨fun _ => w, fun e => absurd rfl e⟩
theorem gd_ff {k1 k2 : Prop} (w : k1) : Gd false (.bool false) k1 k2 := ⟨fun _ => w, fun e => absurd rfl e⟩
theorem gd_tf {k1 k2 : Prop} (w : k2) : Gd true (.bool false) k1 k2 := ⟨fun e => (by cases e), fun _ => w⟩
theorem gd_ft {k1 k2 : Prop} (w : k2) : Gd false (.bool true) k1 k2 := ⟨fun e => (by cases e), fun _ => w⟩
theorem gd_no {want : Bool} {k1 k2 : Prop} (w : k2) : Gd want (.tup []) k1 k2 := w
theorem ev_some {α : Type} {v : α} {k : α → Prop} (h : k v) : Ev (some v) k := h
theorem at_mk {α : Type} {v : α} {k : α → Prop} (h : k v) : At v k := h

variable {all : Array Oper} {T i : Nat} {o : Oper} {rest : List Oper} {N : (Nat → AV) → Hp → Prop} {v : AV} {dst : Option Tmp} {op : Op} {ty : TypeId} {pos : String} {aft : Array Edge}
theorem st_nil (w : N σ h) : wpOps P M C all T [] i σ h N := w
theorem wanted_none : wantedA all σ ⟨dst, op, ty, pos, aft, none⟩ = some true := rfl
theorem st_move {x : Operand} (w : At (opd σ x) fun v => wpOps P M C all T rest (i + 1) (putA dst v σ) h N) : wpOps P M C all T (⟨dst, .move x, ty, pos, aft, none⟩ :: rest) i σ h N := w
theorem st_asg {x : Operand} (w : At (opd σ x) fun v => wpOps P M C all T rest (i + 1) (putA dst v σ) h N) : wpOps P M C all T (⟨dst, .assign x, ty, pos, aft, none⟩ :: rest) i σ h N := w
theorem st_q (w : Ev (evQ P (opd σ) h.rows op) fun v => wpOps P M C all T rest (i + 1) (putA dst v σ) h N) : wpOps P M C all T (⟨dst, op, ty, pos, aft, none⟩ :: rest) i σ h N := by
  unfold wpOps
  rw [wanted_none]
  cases he : evQ P (opd σ) h.rows op with
  | none => rw [he] at w; exact w.elim
  | some v =>
    rw [he] at w
    simp only [stepW, he]
    exact w
/-- Operations on memory. -/
def isM : Op → Bool
  | .alloc _ | .box .. | .buildSlice .. | .makeSlice .. | .store .. => true
  | .call ⟨.builtin .append, _, _⟩ | .call ⟨.builtin .copy, _, _⟩ | .call ⟨.builtin .clear, _, _⟩ => true
  | _ => false
theorem evQ_isM {ρ : Operand → AV} {rows : Nm → Option Row} (hm : isM op = true) : evQ P ρ rows op = none := by
  cases op <;> try (first | rfl | (simp [isM] at hm; done))
  rename_i c
  obtain ⟨f, args, ts⟩ := c
  cases f <;> try (first | rfl | (simp [isM] at hm; done))
  rename_i b
  cases b <;> first | rfl | (simp [isM] at hm; done)
theorem st_m (hm : isM op = true) (w : Ev2 (memA P (T, i, 0) (opd σ) h op) fun v h' => wpOps P M C all T rest (i + 1) (putA dst v σ) h' N) : wpOps P M C all T (⟨dst, op, ty, pos, aft, none⟩ :: rest) i σ h N := by
  unfold wpOps
  rw [wanted_none]
  simp only [stepW, evQ_isM hm]
  cases he : memA P (T, i, 0) (opd σ) h op with
  | none => rw [he] at w; exact w.elim
  | some r =>
    rw [he] at w
    exact w
theorem st_c {args : Array Operand} {ts : Array TypeId} {g : FuncId} (w : At (args.toList.map (opd σ)) fun as1 => callW M C g as1 h (fun v h' => wpOps P M C all T rest (i + 1) (putA dst v σ) h' N)) :
    wpOps P M C all T (⟨dst, .call ⟨.value (.func g), args, ts⟩, ty, pos, aft, none⟩ :: rest) i σ h N := by
  unfold wpOps
  rw [wanted_none]
  have h1 : evQ P (opd σ) h.rows (.call ⟨.value (.func g), args, ts⟩) = none := rfl
  have h2 : memA P (T, i, 0) (opd σ) h (.call ⟨.value (.func g), args, ts⟩) = none := rfl
  simp only [stepW, h1, h2, opd, List.append_nil]
  exact w
/-- A guarded operation. -/
theorem st_no (hg : wantedA all σ o = some false) (w : wpOps P M C all T rest (i + 1) (putA o.dst (.tup []) σ) h N) : wpOps P M C all T (o :: rest) i σ h N := by
  unfold wpOps
  rw [hg]
  exact w
theorem st_yes (hg : wantedA all σ o = some true) (w : wpOps P M C all T ({ o with guard := none } :: rest) i σ h N) : wpOps P M C all T (o :: rest) i σ h N := by
  unfold wpOps at *
  rw [hg]
  exact w
theorem st_g {j : Nat} {want : Bool} (w : At (gdv all σ j) fun x => Gd want x (wpOps P M C all T (⟨dst, op, ty, pos, aft, none⟩ :: rest) i σ h N) (wpOps P M C all T rest (i + 1) (putA dst (.tup []) σ) h N)) : wpOps P M C all T (⟨dst, op, ty, pos, aft, some (j, want)⟩ :: rest) i σ h N := by
  have hdv : ∀ b, gdv all σ j = .bool b → wantedA all σ ⟨dst, op, ty, pos, aft, some (j, want)⟩ = some (b == want) := by
    intro b hb
    unfold gdv at hb
    unfold wantedA
    simp only
    split at hb
    · rename_i o' ho'
      rw [ho']
      simp only
      split at hb
      · rename_i d hd
        rw [hd]
        simp only [hb]
      · cases hb
    · cases hb
  have hdt : gdv all σ j = .tup [] → wantedA all σ ⟨dst, op, ty, pos, aft, some (j, want)⟩ = some false := by
    intro hb
    unfold gdv at hb
    unfold wantedA
    simp only
    split at hb
    · rename_i o' ho'
      rw [ho']
      simp only
      split at hb
      · rename_i d hd
        rw [hd]
        simp only [hb]
      · cases hb
    · cases hb
  have hw : ∀ b, wantedA all σ ⟨dst, op, ty, pos, aft, some (j, want)⟩ = some b → (b = true → wpOps P M C all T (⟨dst, op, ty, pos, aft, none⟩ :: rest) i σ h N) → (b = false → wpOps P M C all T rest (i + 1) (putA dst (.tup []) σ) h N) → wpOps P M C all T (⟨dst, op, ty, pos, aft, some (j, want)⟩ :: rest) i σ h N := by
    intro b hb k1 k2
    cases b with
    | true => exact st_yes hb (k1 rfl)
    | false => exact st_no hb (k2 rfl)
  unfold At at w
  cases hd : gdv all σ j with
  | bool b =>
    rw [hd] at w
    refine hw (b == want) (hdv _ hd) (fun e => w.1 (by simpa using e)) (fun e => w.2 (by simpa using e))
  | tup l =>
    rw [hd] at w
    cases l with
    | nil => exact hw false (hdt hd) (fun e => by cases e) (fun _ => w)
    | cons _ _ => exact w.elim
  | _ => rw [hd] at w; exact w.elim

theorem st_tree {g : FuncId} {args targs : List AV} {r : AV} {N : AV → Hp → Prop} (hm : M g = .tree) (hp : Pure P g targs r) (ha : DRs true h.rows args targs) (hk : N r h) : callW M (Sound P) g args h N := by
  unfold callW
  rw [hm]
  exact treeW_pure hp ha hk
def Mode.nh : Mode → Bool
  | .heap => false
  | _ => true
/-- A call whose result is taken as a tree, be it its own or not. -/
theorem st_treeB {g : FuncId} {args targs : List AV} {r : AV} {N : AV → Hp → Prop} (hm : (M g).nh = true) (hp : Pure P g targs r) (ha : DRs true h.rows args targs) (hk : N r h) : callW M (Sound P) g args h N := by
  unfold callW
  cases hg : M g with
  | heap => rw [hg] at hm; cases hm
  | fresh => exact .inr (treeW_pure hp ha hk)
  | tree => exact treeW_pure hp ha hk
theorem st_freshw {g : FuncId} {args targs : List AV} {r : Bool → AV} {N : AV → Hp → Prop} (hm : M g = .fresh) (hp : FreshW P g targs r) (ha : DRs true h.rows args targs)
    (hk : ∀ v h' ns, (∀ c, OwnV h'.rows c v (r c) ns) → ns.Nodup → (∀ n ∈ ns, h.tick ≤ n.1 ∧ n.1 < h'.tick) → (∀ n, n.1 < h.tick → h'.rows n = h.rows n) → h.tick ≤ h'.tick → N v h') : callW M (Sound P) g args h N := by
  unfold callW
  rw [hm]
  exact .inl (freshW_of hp ha hk)
theorem st_fresh {g : FuncId} {args targs : List AV} {r : Bool → AV} {N : AV → Hp → Prop} (hm : M g = .fresh) (hp : Fresh P g targs r) (ha : DRs true h.rows args targs)
    (hk : ∀ v h' ns, (∀ c, OwnV h'.rows c v (r c) ns) → ns.Nodup → (∀ n ∈ ns, h.tick ≤ n.1 ∧ n.1 < h'.tick) → (∀ n, n.1 < h.tick → h'.rows n = h.rows n) → h.tick ≤ h'.tick → N v h') : callW M (Sound P) g args h N := by
  unfold callW
  rw [hm]
  exact .inl (freshW_of hp.w ha hk)
theorem st_heap {g : FuncId} {args : List AV} {N : AV → Hp → Prop} (hm : M g = .heap) {N' : AV → Hp → Prop} (hp : Sound P g args h N') (hk : ∀ v h', N' v h' → N v h') : callW M (Sound P) g args h N := by
  unfold callW
  rw [hm]
  exact hp.mono hk

theorem st_if {c : Operand} (w : At (opd σ c) fun x => Br x (wpC P M C D a σ h K) (wpC P M C D b σ h K)) : wpC P M C D (.cond c a b) σ h K := by
  unfold At at w
  simp only [wpC]
  cases hx : opd σ c with
  | bool t =>
    rw [hx] at w
    cases t
    · exact w.2 rfl
    · exact w.1 rfl
  | _ => rw [hx] at w; exact w.elim

/-! Regions that draw -/
variable {W : Nm → Bool} {rows0 : Nm → Option Row}
theorem fr_nil (w : N σ h) : frontW P M C all T W rows0 [] i σ h N := w
theorem fr_q (w : Ev (evQ P (opd σ) (maskR T W rows0) op) fun v => frontW P M C all T W rows0 rest (i + 1) (putA dst v σ) h N) : frontW P M C all T W rows0 (⟨dst, op, ty, pos, aft, none⟩ :: rest) i σ h N := by
  unfold frontW
  rw [wanted_none]
  cases he : evQ P (opd σ) (maskR T W rows0) op with
  | none => rw [he] at w; exact w.elim
  | some v =>
    rw [he] at w
    simp only
    exact w
theorem fr_n (hm : isNew op = true) (w : EvN (newA P (T, i, 0) (opd σ) op) fun v r => frontW P M C all T W rows0 rest (i + 1) (putA dst v σ) (h.put (T, i, 0) r) N) : frontW P M C all T W rows0 (⟨dst, op, ty, pos, aft, none⟩ :: rest) i σ h N := by
  unfold frontW
  rw [wanted_none]
  simp only [evQ_new hm]
  cases he : newA P (T, i, 0) (opd σ) op with
  | none => rw [he] at w; exact w.elim
  | some r =>
    rw [he] at w
    exact w
theorem fr_a {s x : Operand} {t : TypeId} (w : At (opd σ s) fun s' => At (opd σ x) fun x' => appNames (Region.before all) T i W s' x' ∧ Ev2 (appendA P t s' x' h (T, i, 0)) fun v h' => frontW P M C all T W rows0 rest (i + 1) (putA dst v σ) h' N) :
    frontW P M C all T W rows0 (⟨dst, .call ⟨.builtin .append, ⟨[s, x]⟩, ⟨[t, t]⟩⟩, ty, pos, aft, none⟩ :: rest) i σ h N := by
  unfold frontW
  rw [wanted_none]
  obtain ⟨w1, w2⟩ := w
  have h1 : evQ P (opd σ) (maskR T W rows0) (.call ⟨.builtin .append, ⟨[s, x]⟩, ⟨[t, t]⟩⟩) = none := rfl
  have h2 : newA P (T, i, 0) (opd σ) (.call ⟨.builtin .append, ⟨[s, x]⟩, ⟨[t, t]⟩⟩) = none := rfl
  simp only [h1, h2, if_true]
  cases he : appendA P t (opd σ s) (opd σ x) h (T, i, 0) with
  | none => rw [he] at w2; exact w2.elim
  | some r =>
    rw [he] at w2
    exact ⟨w1, w2⟩
theorem fr_c {args : Array Operand} {ts : Array TypeId} {g : FuncId} (w : At (args.toList.map (opd σ)) fun as1 => treeW C g (maskR T W rows0) as1 (T + 1) fun v => frontW P M C all T W rows0 rest (i + 1) (putA dst v σ) h N) :
    frontW P M C all T W rows0 (⟨dst, .call ⟨.value (.func g), args, ts⟩, ty, pos, aft, none⟩ :: rest) i σ h N := by
  unfold frontW
  rw [wanted_none]
  have h1 : evQ P (opd σ) (maskR T W rows0) (.call ⟨.value (.func g), args, ts⟩) = none := rfl
  have h2 : newA P (T, i, 0) (opd σ) (.call ⟨.value (.func g), args, ts⟩) = none := rfl
  simp only [h1, h2, opd, List.append_nil]
  exact w
theorem fr_no (hg : wantedA all σ o = some false) (w : frontW P M C all T W rows0 rest (i + 1) (putA o.dst (.tup []) σ) h N) : frontW P M C all T W rows0 (o :: rest) i σ h N := by
  unfold frontW
  rw [hg]
  exact w
theorem fr_yes (hg : wantedA all σ o = some true) (w : frontW P M C all T W rows0 ({ o with guard := none } :: rest) i σ h N) : frontW P M C all T W rows0 (o :: rest) i σ h N := by
  unfold frontW at *
  rw [hg]
  exact w
theorem fr_g {j : Nat} {want : Bool} (w : At (gdv all σ j) fun x => Gd want x (frontW P M C all T W rows0 (⟨dst, op, ty, pos, aft, none⟩ :: rest) i σ h N) (frontW P M C all T W rows0 rest (i + 1) (putA dst (.tup []) σ) h N)) : frontW P M C all T W rows0 (⟨dst, op, ty, pos, aft, some (j, want)⟩ :: rest) i σ h N := by
  have hdv : ∀ b, gdv all σ j = .bool b → wantedA all σ ⟨dst, op, ty, pos, aft, some (j, want)⟩ = some (b == want) := by
    intro b hb
    unfold gdv at hb
    unfold wantedA
    simp only
    split at hb
    · rename_i o' ho'
      rw [ho']
      simp only
      split at hb
      · rename_i d hd
        rw [hd]
        simp only [hb]
      · cases hb
    · cases hb
  have hdt : gdv all σ j = .tup [] → wantedA all σ ⟨dst, op, ty, pos, aft, some (j, want)⟩ = some false := by
    intro hb
    unfold gdv at hb
    unfold wantedA
    simp only
    split at hb
    · rename_i o' ho'
      rw [ho']
      simp only
      split at hb
      · rename_i d hd
        rw [hd]
        simp only [hb]
      · cases hb
    · cases hb
  have hw : ∀ b, wantedA all σ ⟨dst, op, ty, pos, aft, some (j, want)⟩ = some b → (b = true → frontW P M C all T W rows0 (⟨dst, op, ty, pos, aft, none⟩ :: rest) i σ h N) → (b = false → frontW P M C all T W rows0 rest (i + 1) (putA dst (.tup []) σ) h N) → frontW P M C all T W rows0 (⟨dst, op, ty, pos, aft, some (j, want)⟩ :: rest) i σ h N := by
    intro b hb k1 k2
    cases b with
    | true => exact fr_yes hb (k1 rfl)
    | false => exact fr_no hb (k2 rfl)
  unfold At at w
  cases hd : gdv all σ j with
  | bool b =>
    rw [hd] at w
    refine hw (b == want) (hdv _ hd) (fun e => w.1 (by simpa using e)) (fun e => w.2 (by simpa using e))
  | tup l =>
    rw [hd] at w
    cases l with
    | nil => exact hw false (hdt hd) (fun e => by cases e) (fun _ => w)
    | cons _ _ => exact w.elim
  | _ => rw [hd] at w; exact w.elim

theorem putA_get (d : Nat) (v : AV) (σ : Nat → AV) (t : Nat) : putA (some d) v σ t = if t = d then v else σ t := by
  by_cases h : t = d
  · rw [if_pos h]; exact if_pos h
  · rw [if_neg h]; exact if_neg h
theorem putA_none (v : AV) (σ : Nat → AV) : putA none v σ = σ := funext fun n => (by cases hr : σ n <;> exact hr)
theorem opd_tmp (σ : Nat → AV) (t : Nat) : opd σ (.tmp t) = σ t := rfl
end

def envOf (args : List AV) : Nat → AV := fun i => args.getD i (.tup [])
theorem envOf_0 (a : AV) (l : List AV) : envOf (a :: l) 0 = a := rfl
theorem envOf_1 (a b : AV) (l : List AV) : envOf (a :: b :: l) 1 = b := rfl
theorem envOf_2 (a b c : AV) (l : List AV) : envOf (a :: b :: c :: l) 2 = c := rfl
theorem envOf_3 (a b c d : AV) (l : List AV) : envOf (a :: b :: c :: d :: l) 3 = d := rfl
theorem envOf_4 (a b c d e : AV) (l : List AV) : envOf (a :: b :: c :: d :: e :: l) 4 = e := rfl
theorem envOf_5 (a b c d e f : AV) (l : List AV) : envOf (a :: b :: c :: d :: e :: f :: l) 5 = f := rfl
theorem envOf_6 (a b c d e f g : AV) (l : List AV) : envOf (a :: b :: c :: d :: e :: f :: g :: l) 6 = g := rfl

/-! (Not by 'rfl': simp is to leave proofs, else the kernel has to find them again.) -/
theorem hp_next_rows (h : Hp) : h.next.rows = h.rows := funext fun n => (by cases hr : h.rows n <;> exact hr)
theorem hp_next_tick (h : Hp) : h.next.tick = h.tick + 1 := Nat.le_antisymm (Nat.le_refl _) (Nat.le_refl _)
theorem hp_put_tick (h : Hp) (n : Nm) (r : Row) : (h.put n r).tick = h.tick := Nat.le_antisymm (Nat.le_refl _) (Nat.le_refl _)
theorem hp_mt_rows (t : Nat) (n : Nm) : (Hp.mt t).rows n = none := rfl
theorem hp_mt_tick (t : Nat) : (Hp.mt t).tick = t := Nat.le_antisymm (Nat.le_refl _) (Nat.le_refl _)

@[simp] theorem one_int (k : IntKind) (n : Int) : AV.one (.int k n) = true := rfl
@[simp] theorem stored_int (k : IntKind) (n : Int) : AV.stored (.int k n) = true := rfl
@[simp] theorem cells_int (k : IntKind) (n : Int) : AV.cells (.int k n) = [.int k n] := rfl
@[simp] theorem one_bool (b : Bool) : AV.one (.bool b) = true := rfl
@[simp] theorem stored_bool (b : Bool) : AV.stored (.bool b) = true := rfl
@[simp] theorem cells_bool (b : Bool) : AV.cells (.bool b) = [.bool b] := rfl
@[simp] theorem one_str (s : ByteArray) : AV.one (.str s) = true := rfl
@[simp] theorem stored_str (s : ByteArray) : AV.stored (.str s) = true := rfl
@[simp] theorem cells_str (s : ByteArray) : AV.cells (.str s) = [.str s] := rfl
@[simp] theorem one_nilsl  : AV.one (.nilsl) = true := rfl
@[simp] theorem stored_nilsl  : AV.stored (.nilsl) = true := rfl
@[simp] theorem cells_nilsl  : AV.cells (.nilsl) = [.nilsl] := rfl
@[simp] theorem one_tr (b : Bool) (l : List (List AV)) : AV.one (.tr b l) = true := rfl
@[simp] theorem stored_tr (b : Bool) (l : List (List AV)) : AV.stored (.tr b l) = true := rfl
@[simp] theorem cells_tr (b : Bool) (l : List (List AV)) : AV.cells (.tr b l) = [.tr b l] := rfl
@[simp] theorem one_sl (n : Nm) (v o l : Nat) : AV.one (.sl n v o l) = true := rfl
@[simp] theorem stored_sl (n : Nm) (v o l : Nat) : AV.stored (.sl n v o l) = true := rfl
@[simp] theorem cells_sl (n : Nm) (v o l : Nat) : AV.cells (.sl n v o l) = [.sl n v o l] := rfl
@[simp] theorem one_nilp  : AV.one (.nilp) = true := rfl
@[simp] theorem stored_nilp  : AV.stored (.nilp) = true := rfl
@[simp] theorem cells_nilp  : AV.cells (.nilp) = [.nilp] := rfl
@[simp] theorem one_ptr (n : Nm) (v i o : Nat) : AV.one (.ptr n v i o) = true := rfl
@[simp] theorem stored_ptr (n : Nm) (v i o : Nat) : AV.stored (.ptr n v i o) = true := rfl
@[simp] theorem cells_ptr (n : Nm) (v i o : Nat) : AV.cells (.ptr n v i o) = [.ptr n v i o] := rfl
@[simp] theorem one_tptr (b : Bool) (l : List AV) : AV.one (.tptr b l) = true := rfl
@[simp] theorem stored_tptr (b : Bool) (l : List AV) : AV.stored (.tptr b l) = true := rfl
@[simp] theorem cells_tptr (b : Bool) (l : List AV) : AV.cells (.tptr b l) = [.tptr b l] := rfl
@[simp] theorem one_nilif  : AV.one (.nilif) = true := rfl
@[simp] theorem stored_nilif  : AV.stored (.nilif) = true := rfl
@[simp] theorem cells_nilif  : AV.cells (.nilif) = [.nilif] := rfl
@[simp] theorem one_errv  : AV.one (.errv) = true := rfl
@[simp] theorem stored_errv  : AV.stored (.errv) = true := rfl
@[simp] theorem cells_errv  : AV.cells (.errv) = [.errv] := rfl
@[simp] theorem stored_agg (l : List AV) : AV.stored (.agg l) = ones l := rfl
@[simp] theorem cells_agg (l : List AV) : AV.cells (.agg l) = l := rfl
@[simp] theorem ones_nil : ones [] = true := rfl
@[simp] theorem ones_cons (a : AV) (l : List AV) : ones (a :: l) = (a.one && ones l) := rfl
@[simp] theorem one_ints' (c : Bool) (xs : List Int) : (ints c xs).one = true := rfl
@[simp] theorem one_intss' (c : Bool) (xs : List (List Int)) : (intss c xs).one = true := rfl

theorem int_beq (a b : Int) : (a == b) = decide (a = b) := rfl
theorem int_bne (a b : Int) : (a != b) = !decide (a = b) := rfl

/-- A loop. -/
theorem st_loop {P : Program} {M : FuncId → Mode} {α : Type} (I : α → (Nat → AV) → Hp → Prop) (m : α → Nat) (a : α) {body : Code} {K : Ex → (Nat → AV) → Hp → Prop} {σ : Nat → AV} {h : Hp} (init : I a σ h)
    (step : ∀ a σ h, I a σ h → wpC P M (Sound P) (drawW2 P M (Sound P)) body σ h (KLp I m a K)) : wpC P M (Sound P) (drawW2 P M (Sound P)) (.loop body) σ h K :=
  wpC_inv Sound.le drawW_le I m step a init

/-- Into a function. -/
theorem enter {P : Program} (hm : P.follows .mixedOrders = true) (M : FuncId → Mode) {f : FuncId} {args : List AV} {h : Hp} {K : AV → Hp → Prop} {fn : Func} {c : Code} (h1 : P.funcs[f]? = some fn) (h2 : fn.body = some c) (h3 : (codeOk fn.ntmps c && !(fn.name == "runtime.NumGoroutine")) = true)
    (h4 : decide (args.length ≤ fn.ntmps) = true)
    (hw : wpC P M (Sound P) (drawW2 P M (Sound P)) c (envOf args) h (KFn P fn K)) : Sound P f args h K :=
  wpF_ok (drawW2_ok hm) ⟨fn, c, h1, h2, h3, of_decide_eq_true h4, hw⟩

theorem st_res {P : Program} {fn : Func} {h : Hp} {σ : Nat → AV} {K : AV → Hp → Prop} (w : Ev (resA P h σ fn.results.toList) fun vs => K (resV vs) h) : resW P fn h σ K := by
  unfold resW
  cases hr : resA P h σ fn.results.toList with
  | none => rw [hr] at w; exact w.elim
  | some vs => rw [hr] at w; exact w
end Go.Proofs.YtmcmgeedhbgglaaGreatDoor.AM

namespace Go.Proofs.YtmcmgeedhbgglaaGreatDoor.AM
open Go.RowKit

section
variable {P : Program} {t : TypeId}

theorem telem_und (h : (telem P t).isSome = true) : ∃ e, P.underlying t = some (.slice e) := by
  unfold telem at h
  split at h
  · exact ⟨_, by assumption⟩
  · cases h
theorem lenA_tr (b : Bool) (es : List (List AV)) (h : (telem P t).isSome = true) : lenA P t (.tr b es) = some (.int .i64 es.length) := by
  obtain ⟨e, he⟩ := telem_und h
  simp [lenA, he]
theorem lenA_sl (n : Nm) (v o l : Nat) (h : (telem P t).isSome = true) : lenA P t (.sl n v o l) = some (.int .i64 l) := by
  obtain ⟨e, he⟩ := telem_und h
  simp [lenA, he]
theorem lenA_nilsl (h : (telem P t).isSome = true) : lenA P t .nilsl = some (.int .i64 0) := by
  obtain ⟨e, he⟩ := telem_und h
  simp [lenA, he]
theorem lenA_ints (b : Bool) (xs : List Int) (h : (telem P t).isSome = true) : lenA P t (ints b xs) = some (.int .i64 xs.length) := by
  obtain ⟨e, he⟩ := telem_und h
  simp [lenA, he, ints]
theorem lenA_intss (b : Bool) (xs : List (List Int)) (h : (telem P t).isSome = true) : lenA P t (intss b xs) = some (.int .i64 xs.length) := by
  obtain ⟨e, he⟩ := telem_und h
  simp [lenA, he, intss]
theorem lenA_str (s : ByteArray) (h : P.underlying t = some .string) : lenA P t (.str s) = some (.int .i64 s.size) := by
  simp [lenA, h]

theorem srcElems_tr (rows : Nm → Option Row) (b : Bool) (es : List (List AV)) : srcElems rows (.tr b es) = some es := rfl
theorem srcElems_nilsl (rows : Nm → Option Row) : srcElems rows .nilsl = some [] := rfl
theorem srcElems_ints (rows : Nm → Option Row) (b : Bool) (xs : List Int) : srcElems rows (ints b xs) = some (xs.map fun n => [.int .i64 n]) := rfl
theorem srcElems_intss (rows : Nm → Option Row) (b : Bool) (xs : List (List Int)) : srcElems rows (intss b xs) = some (xs.map fun x => [ints b x]) := rfl

/-- Onto a new row of no elements. -/
theorem appendA_mt {e : TypeId} {s bb : Nat} {z : List AV} {m n : Nm} {v : Nat} {x : AV} {h : Hp} (es : List (List AV)) (he : telem P t = some e) (h1 : tsz P e = some s) (h2 : tby P e = some bb) (h3 : tzero P e = some z) (h4 : 0 < s ∧ bb ≤ 32768 ∧ z.length = s)
    (hr : h.rows m = some ⟨v, s, []⟩) (hx : srcElems h.rows x = some es) (hes : ∀ e ∈ es, e.length = s) (hl : es.length ≤ 4294967296) (hm : m.1 < h.tick) :
    appendA P t (.sl m v 0 0) x h n = some (.sl m (v + if es.length = 0 then 0 else 1) 0 es.length, h.put m ⟨v + if es.length = 0 then 0 else 1, s, es⟩) := by
  have hall : es.all (fun e => e.length == s) = true := by
    rw [List.all_eq_true]
    intro e he
    simpa using hes e he
  unfold appendA
  simp only [he, hx, h1, h2, h3]
  rw [if_pos ⟨h4.1, h4.2.1, h4.2.2, hall⟩]
  simp only [hr]
  rw [if_pos ⟨trivial, trivial, Nat.zero_le _, by simpa using hl, hm⟩]
  cases es with
  | nil =>
    simp only [if_true, List.length_nil, Nat.add_zero]
    congr 2
    obtain ⟨rows, tick⟩ := h
    simp only [Hp.put]
    congr 1
    funext k
    by_cases hk : k = m
    · rw [if_pos hk, hk]; exact hr
    · rw [if_neg hk]
  | cons e es => simp
end

/-- (Not by 'rfl': simp is to leave a proof.) -/
theorem hp_rows_put (h : Hp) (n m : Nm) (r : Row) : (h.put n r).rows m = if m = n then some r else h.rows m := by
  by_cases hm : m = n
  · rw [if_pos hm, Hp.put_rows, if_pos hm]
  · rw [if_neg hm, Hp.put_rows, if_neg hm]
theorem ltS {a b : Nat} (h : a < b) : a < b + 1 := Nat.lt_succ_of_lt h
theorem ltK {a b k : Nat} (h : a < b) : a < b + k := Nat.lt_of_lt_of_le h (Nat.le_add_right b k)
theorem ltB (a : Nat) : a < a + 1 := Nat.lt_succ_self a

/-- Onto a new row of no whole numbers. -/
theorem appendA_mt_ints {P : Program} {t : TypeId} {m n : Nm} {v : Nat} {h : Hp} (b : Bool) (xs : List Int) (h0 : ((telem P t).bind fun e => (tsz P e).bind fun s => (tby P e).bind fun bb => (tzero P e).bind fun z => some (decide (s = 1 ∧ bb ≤ 32768 ∧ z.length = 1))) = some true)
    (hr : h.rows m = some ⟨v, 1, []⟩) (hl : xs.length ≤ 4294967296) (hm : decide (m.1 < h.tick) = true) :
    appendA P t (.sl m v 0 0) (ints b xs) h n = some (.sl m (v + if xs.length = 0 then 0 else 1) 0 xs.length, h.put m ⟨v + if xs.length = 0 then 0 else 1, 1, xs.map fun n => [.int .i64 n]⟩) := by
  simp only [Option.bind_eq_some_iff] at h0
  obtain ⟨e, he, s, hs, bb, hb, z, hz, hd⟩ := h0
  simp only [Option.some.injEq, decide_eq_true_eq] at hd
  obtain ⟨rfl, hd2, hd3⟩ := hd
  have := appendA_mt (n := n) (xs.map fun n => [AV.int .i64 n]) he hs hb hz ⟨Nat.one_pos, hd2, hd3⟩ hr (srcElems_ints h.rows b xs) (fun e he => by simp at he; obtain ⟨a, _, rfl⟩ := he; rfl) (by simpa using hl) (of_decide_eq_true hm)
  simpa using this
end Go.Proofs.YtmcmgeedhbgglaaGreatDoor.AM

namespace Go.Proofs.YtmcmgeedhbgglaaGreatDoor.AM
open Go.RowKit

/-- A number that 64 bits hold. -/
def I64 (n : Int) : Prop := -9223372036854775808 ≤ n ∧ n ≤ 9223372036854775807

/-- The types of a struct's fields. -/
def stTys (P : Program) (t : TypeId) : Option (List TypeId) := match P.underlying t with | some (.struct fs) => some (fs.toList.map (·.type)) | _ => none
def ShpFs (P : Program) : List TypeId → List AV → Prop
  | [], cells => cells = []
  | t :: ts, cells => ∃ p q, cells = p ++ q ∧ Shp P t p ∧ ShpFs P ts q

section
variable {P : Program} {t e : TypeId} {cells : List AV}

theorem shpFs_of : ∀ (l : List Field) (parts : List (List AV)), parts.length = l.length → (∀ (i : Nat) (f : Field) (p : List AV), l[i]? = some f → parts[i]? = some p → Shp P f.type p) → ShpFs P (l.map (·.type)) parts.flatten
  | [], [], _, _ => rfl
  | f :: l, p :: parts, hl, h => ⟨p, parts.flatten, by simp, h 0 f p rfl rfl, shpFs_of l parts (by simpa using hl) fun i g q hg hq => h (i + 1) g q (by simpa using hg) (by simpa using hq)⟩
  | [], _ :: _, hl, _ => by simp at hl
  | _ :: _, [], hl, _ => by simp at hl

theorem Shp.st_inv {ts : List TypeId} (h : Shp P t cells) (hs : stTys P t = some ts) : ShpFs P ts cells := by
  unfold stTys at hs
  cases h with
  | st _ fs parts hu hl hp =>
    rw [hu] at hs
    injection hs with hs
    subst hs
    exact shpFs_of _ _ (by simpa using hl) fun i f p hf hp' => hp i f p (by simpa using hf) hp'
  | bool _ b hu => rw [hu] at hs; cases hs
  | int _ k n hu hw => rw [hu] at hs; cases hs
  | str _ s hu hl => rw [hu] at hs; cases hs
  | sl _ e elems hu hl hp => rw [hu] at hs; cases hs

theorem Shp.int_inv (h : Shp P t cells) (hu : P.underlying t = some (.int .i64)) : ∃ n, cells = [.int .i64 n] ∧ I64 n := by
  cases h with
  | int _ k n hu' hw =>
    rw [hu] at hu'; cases hu'
    refine ⟨n, rfl, ?_⟩
    simp [Lit.wf, IntKind.min, IntKind.max, IntKind.bits, IntKind.signed] at hw
    unfold I64
    omega
  | bool _ b hu' => rw [hu] at hu'; cases hu'
  | st _ fs parts hu' hl hp => rw [hu] at hu'; cases hu'
  | str _ s hu' hl => rw [hu] at hu'; cases hu'
  | sl _ e elems hu' hl hp => rw [hu] at hu'; cases hu'

theorem Shp.bool_inv (h : Shp P t cells) (hu : P.underlying t = some .bool) : ∃ b, cells = [.bool b] := by
  cases h with
  | bool _ b hu' => exact ⟨b, rfl⟩
  | int _ k n hu' hw => rw [hu] at hu'; cases hu'
  | st _ fs parts hu' hl hp => rw [hu] at hu'; cases hu'
  | str _ s hu' hl => rw [hu] at hu'; cases hu'
  | sl _ e elems hu' hl hp => rw [hu] at hu'; cases hu'

theorem Shp.str_inv (h : Shp P t cells) (hu : P.underlying t = some .string) : ∃ s, cells = [.str s] ∧ s.size ≤ maxLen := by
  cases h with
  | str _ s hu' hl => exact ⟨s, rfl, hl⟩
  | int _ k n hu' hw => rw [hu] at hu'; cases hu'
  | st _ fs parts hu' hl hp => rw [hu] at hu'; cases hu'
  | bool _ b hu' => rw [hu] at hu'; cases hu'
  | sl _ e elems hu' hl hp => rw [hu] at hu'; cases hu'

theorem Shp.sl_inv (h : Shp P t cells) (hu : P.underlying t = some (.slice e)) : ∃ elems, cells = [.tr true elems] ∧ elems.length ≤ maxLen ∧ ∀ el ∈ elems, Shp P e el := by
  cases h with
  | sl _ e' elems hu' hl hp =>
    rw [hu] at hu'; cases hu'
    refine ⟨elems, rfl, hl, fun el hel => ?_⟩
    obtain ⟨i, hi, rfl⟩ := List.getElem_of_mem hel
    exact hp i _ (by simp)
  | int _ k n hu' hw => rw [hu] at hu'; cases hu'
  | st _ fs parts hu' hl hp => rw [hu] at hu'; cases hu'
  | bool _ b hu' => rw [hu] at hu'; cases hu'
  | str _ s hu' hl => rw [hu] at hu'; cases hu'
end

theorem unmap {α β : Type} (f : α → β) (Q : α → Prop) : ∀ (l : List β), (∀ y ∈ l, ∃ x, y = f x ∧ Q x) → ∃ xs : List α, l = xs.map f ∧ ∀ x ∈ xs, Q x
  | [], _ => ⟨[], rfl, by simp⟩
  | y :: l, h => by
    obtain ⟨x, rfl, hx⟩ := h y (by simp)
    obtain ⟨xs, rfl, hxs⟩ := unmap f Q l fun z hz => h z (by simp [hz])
    exact ⟨x :: xs, rfl, fun z hz => by simp at hz; rcases hz with rfl | hz; exact hx; exact hxs z hz⟩

section
variable {P : Program} {t e e' : TypeId} {cells : List AV}
theorem Shp.ints_inv (h : Shp P t cells) (hu : P.underlying t = some (.slice e)) (he : P.underlying e = some (.int .i64)) : ∃ xs, cells = [ints true xs] ∧ xs.length ≤ maxLen ∧ ∀ x ∈ xs, I64 x := by
  obtain ⟨elems, rfl, hl, hs⟩ := h.sl_inv hu
  obtain ⟨xs, rfl, hx⟩ := unmap (fun n => [AV.int .i64 n]) I64 elems fun y hy => (hs y hy).int_inv he
  exact ⟨xs, rfl, by simpa using hl, hx⟩
theorem Shp.intss_inv (h : Shp P t cells) (hu : P.underlying t = some (.slice e)) (he : P.underlying e = some (.slice e')) (he' : P.underlying e' = some (.int .i64)) : ∃ xs, cells = [intss true xs] ∧ xs.length ≤ maxLen ∧ ∀ x ∈ xs, x.length ≤ maxLen ∧ ∀ y ∈ x, I64 y := by
  obtain ⟨elems, rfl, hl, hs⟩ := h.sl_inv hu
  obtain ⟨xs, rfl, hx⟩ := unmap (fun x => [ints true x]) (fun x => x.length ≤ maxLen ∧ ∀ y ∈ x, I64 y) elems fun y hy => (hs y hy).ints_inv he he'
  exact ⟨xs, rfl, by simpa using hl, hx⟩
end
theorem agg_of {P : Program} {t : TypeId} (h : (stTys P t).isSome = true) (cells : List AV) : avOf P t cells = .agg cells := by
  unfold stTys at h
  unfold avOf
  cases hu : P.underlying t with
  | none => rw [hu] at h; cases h
  | some d => rw [hu] at h; cases d <;> first | rfl | cases h
theorem shpAll_nil {P : Program} {l : List AV} (h : ShpAll P [] l) : l = [] := by
  cases l with
  | nil => rfl
  | cons _ _ => exact h.elim
theorem shpAll_cons {P : Program} {t : TypeId} {ts : List TypeId} {l : List AV} (h : ShpAll P (t :: ts) l) : ∃ cells l', Shp P t cells ∧ l = avOf P t cells :: l' ∧ ShpAll P ts l' := by
  cases l with
  | nil => exact h.elim
  | cons a l' =>
    obtain ⟨⟨cells, h1, h2⟩, h3⟩ := h
    exact ⟨cells, l', h1, by rw [h2], h3⟩
end Go.Proofs.YtmcmgeedhbgglaaGreatDoor.AM

namespace Go.Proofs.YtmcmgeedhbgglaaGreatDoor.AM
open Go.RowKit

abbrev Bx := List (Nm × Row)
abbrev Ox := List (AV × (Bool → AV) × List Nm)
def nms (bs : Bx) (os : Ox) : List Nm := bs.map (·.1) ++ (os.map (·.2.2)).flatten

structure Cx (h : Hp) (bs : Bx) (os : Ox) : Prop where
  box : ∀ x ∈ bs, h.rows x.1 = some x.2
  own : ∀ x ∈ os, ∀ c, OwnV h.rows c x.1 (x.2.1 c) x.2.2
  nd : (nms bs os).Nodup
  lt : ∀ n ∈ nms bs os, n.1 < h.tick

def Off (T : Nat) (bs : Bx) (os : Ox) : Prop := ∀ n ∈ nms bs os, n.1 ≠ T

section
variable {h h' : Hp} {bs : Bx} {os : Ox} {n : Nm} {r r' : Row} {T : Nat} {v : AV} {t t' : Bool → AV} {ns : List Nm}

theorem Cx.mt {T : Nat} : Cx (.mt T) [] [] := ⟨fun x hx => by simp at hx, fun x hx => by simp at hx, by simp [nms], fun n hn => by simp [nms] at hn⟩
theorem Cx.off (c : Cx h bs os) : Off h.tick bs os := fun n hn e => by have := c.lt n hn; omega
theorem Cx.next (c : Cx h bs os) : Cx h.next bs os :=
  ⟨fun x hx => by rw [hp_next_rows]; exact c.box x hx, fun x hx => by rw [hp_next_rows]; exact c.own x hx, c.nd, fun n hn => by rw [hp_next_tick]; have := c.lt n hn; omega⟩
theorem nms_box (n : Nm) (r : Row) (bs : Bx) (os : Ox) : nms ((n, r) :: bs) os = n :: nms bs os := rfl
theorem mem_own {x : AV × (Bool → AV) × List Nm} {n : Nm} (hx : x ∈ os) (hn : n ∈ x.2.2) : n ∈ nms bs os := by
  simp only [nms, List.mem_append, List.mem_flatten, List.mem_map]
  exact .inr ⟨x.2.2, ⟨x, hx, rfl⟩, hn⟩
theorem mem_box {x : Nm × Row} (hx : x ∈ bs) : x.1 ∈ nms bs os := by
  simp only [nms, List.mem_append, List.mem_map]
  exact .inl ⟨x, hx, rfl⟩
theorem Cx.box_add (c : Cx h bs os) (hn : n ∉ nms bs os) (ht : n.1 < h.tick) : Cx (h.put n r) ((n, r) :: bs) os := by
  refine ⟨fun x hx => ?_, fun x hx b => (c.own x hx b).congr fun m hm => ?_, by rw [nms_box]; exact List.nodup_cons.2 ⟨hn, c.nd⟩, fun m hm => ?_⟩
  · rw [hp_rows_put]
    simp only [List.mem_cons] at hx
    rcases hx with rfl | hx
    · simp
    · rw [if_neg (fun e => hn (by rw [← e]; exact mem_box hx))]; exact c.box x hx
  · rw [hp_rows_put, if_neg (fun e => hn (by rw [← e]; exact mem_own hx hm))]
  · rw [hp_put_tick]
    rw [nms_box] at hm
    simp only [List.mem_cons] at hm
    rcases hm with rfl | hm
    · exact ht
    · exact c.lt m hm
theorem Cx.box_set (c : Cx h ((n, r) :: bs) os) : Cx (h.put n r') ((n, r') :: bs) os := by
  have hn := (List.nodup_cons.1 (by have := c.nd; rwa [nms_box] at this)).1
  refine ⟨fun x hx => ?_, fun x hx b => (c.own x hx b).congr fun m hm => ?_, c.nd, fun m hm => by rw [hp_put_tick]; exact c.lt m hm⟩
  · rw [hp_rows_put]
    simp only [List.mem_cons] at hx
    rcases hx with rfl | hx
    · simp
    · rw [if_neg (fun e => hn (by rw [← e]; exact mem_box hx))]; exact c.box x (by simp [hx])
  · rw [hp_rows_put, if_neg (fun e => hn (by rw [← e]; exact mem_own hx hm))]
/-- A new box, filled behind it. -/
theorem Cx.box_new (c : Cx h bs os) (z : Off T bs os) {i : Nat} (ht : T < h.tick) : Cx ((h.put (T, i, 0) r).put (T, i, 0) r') (((T, i, 0), r') :: bs) os :=
  (c.box_add (n := (T, i, 0)) (r := r) (fun e => z _ e rfl) ht).box_set
theorem Cx.box_one (c : Cx h bs os) (z : Off T bs os) {i : Nat} (ht : T < h.tick) : Cx (h.put (T, i, 0) r) (((T, i, 0), r) :: bs) os := c.box_add (n := (T, i, 0)) (fun e => z _ e rfl) ht

theorem nodup_mid {α : Type} {a b c : List α} (h : (a ++ c).Nodup) (hb : b.Nodup) (hd : ∀ x ∈ b, x ∉ a ∧ x ∉ c) : (a ++ (b ++ c)).Nodup := by
  rw [List.nodup_append] at h ⊢
  refine ⟨h.1, List.nodup_append.2 ⟨hb, h.2.1, fun x hx y hy e => by subst e; exact (hd x hx).2 hy⟩, fun x hx y hy e => ?_⟩
  subst e
  simp only [List.mem_append] at hy
  rcases hy with hy | hy
  · exact (hd x hy).1 hx
  · exact h.2.2 x hx x hy rfl

/-- A call that yields something of its own. -/
theorem Cx.fresh (c : Cx h bs os) (o : ∀ b, OwnV h'.rows b v (t b) ns) (d : ns.Nodup) (f : ∀ n ∈ ns, h.tick ≤ n.1 ∧ n.1 < h'.tick) (p : ∀ n, n.1 < h.tick → h'.rows n = h.rows n) (q : h.tick ≤ h'.tick) : Cx h' bs ((v, t, ns) :: os) := by
  refine ⟨fun x hx => by rw [p _ (c.lt _ (mem_box hx))]; exact c.box x hx, fun x hx b => ?_, ?_, fun m hm => ?_⟩
  · simp only [List.mem_cons] at hx
    rcases hx with rfl | hx
    · exact o b
    · exact (c.own x hx b).congr fun m hm => p m (c.lt _ (mem_own hx hm))
  · simp only [nms, List.map_cons, List.flatten_cons]
    exact nodup_mid c.nd d fun x hx => ⟨fun e => by have := c.lt x (by simp only [nms, List.mem_append]; exact .inl e); have := (f x hx).1; omega, fun e => by have := c.lt x (by simp only [nms, List.mem_append]; exact .inr e); have := (f x hx).1; omega⟩
  · simp only [nms, List.map_cons, List.flatten_cons, List.mem_append] at hm
    rcases hm with hm | hm | hm
    · have := c.lt m (by simp only [nms, List.mem_append]; exact .inl hm); omega
    · exact (f m hm).2
    · have := c.lt m (by simp only [nms, List.mem_append]; exact .inr hm); omega
theorem Off.fresh (z : Off T bs os) (f : ∀ n ∈ ns, h.tick ≤ n.1 ∧ n.1 < h'.tick) (ht : T < h.tick) : Off T bs ((v, t, ns) :: os) := by
  intro m hm
  simp only [nms, List.map_cons, List.flatten_cons, List.mem_append] at hm
  rcases hm with hm | hm | hm
  · exact z m (by simp only [nms, List.mem_append]; exact .inl hm)
  · have := (f m hm).1; omega
  · exact z m (by simp only [nms, List.mem_append]; exact .inr hm)

/-- A call that writes into what is its own. -/
theorem Cx.mark (c : Cx h bs ((v, t, ns) :: os)) (o : ∀ b, OwnV h'.rows b v (t' b) ns) (p : ∀ n, n ∉ ns → n.1 < h.tick → h'.rows n = h.rows n) (q : h.tick ≤ h'.tick) : Cx h' bs ((v, t', ns) :: os) := by
  have nd := c.nd
  simp only [nms, List.map_cons, List.flatten_cons] at nd
  rw [List.nodup_append] at nd
  obtain ⟨n1, n2, n3⟩ := nd
  rw [List.nodup_append] at n2
  refine ⟨fun x hx => ?_, fun x hx b => ?_, c.nd, fun m hm => by have := c.lt m hm; omega⟩
  · rw [p x.1 (fun e => n3 x.1 (List.mem_map_of_mem hx) x.1 (by simp [e]) rfl) (c.lt _ (mem_box hx))]
    exact c.box x hx
  · simp only [List.mem_cons] at hx
    rcases hx with rfl | hx
    · exact o b
    · refine (c.own x (by simp [hx]) b).congr fun m hm => p m (fun e => n2.2.2 m e m ?_ rfl) (c.lt _ (mem_own (x := x) (by simp [hx]) hm))
      simp only [List.mem_flatten, List.mem_map]
      exact ⟨x.2.2, ⟨x, hx, rfl⟩, hm⟩
/-- What was written is forgotten. -/
theorem Cx.drop (c : Cx h bs ((v, t, ns) :: os)) : Cx h bs os := by
  refine ⟨c.box, fun x hx => c.own x (by simp [hx]), ?_, fun m hm => c.lt m ?_⟩
  · have nd := c.nd
    simp only [nms, List.map_cons, List.flatten_cons] at nd ⊢
    rw [List.nodup_append] at nd ⊢
    obtain ⟨n1, n2, n3⟩ := nd
    rw [List.nodup_append] at n2
    exact ⟨n1, n2.2.1, fun x hx y hy => n3 x hx y (by simp [hy])⟩
  · simp only [nms, List.map_cons, List.flatten_cons, List.mem_append] at hm ⊢
    rcases hm with hm | hm
    · exact .inl hm
    · exact .inr (.inr hm)
theorem Cx.forget (c : Cx h bs ((v, t, ns) :: os)) (p : ∀ n, n ∉ ns → n.1 < h.tick → h'.rows n = h.rows n) (q : h.tick ≤ h'.tick) : Cx h' bs os := by
  have nd := c.nd
  simp only [nms, List.map_cons, List.flatten_cons] at nd
  rw [List.nodup_append] at nd
  obtain ⟨n1, n2, n3⟩ := nd
  rw [List.nodup_append] at n2
  have c' := c.drop
  refine ⟨fun x hx => ?_, fun x hx b => ?_, c'.nd, fun m hm => by have := c'.lt m hm; omega⟩
  · rw [p x.1 (fun e => n3 x.1 (List.mem_map_of_mem hx) x.1 (by simp [e]) rfl) (c'.lt _ (mem_box hx))]
    exact c'.box x hx
  · refine (c'.own x hx b).congr fun m hm => p m (fun e => n2.2.2 m e m ?_ rfl) (c'.lt _ (mem_own (x := x) hx hm))
    simp only [List.mem_flatten, List.mem_map]
    exact ⟨x.2.2, ⟨x, hx, rfl⟩, hm⟩
/-- In another order. -/
theorem Cx.perm {os' : Ox} (c : Cx h bs os) (hp : os.Perm os') : Cx h bs os' := by
  have hp2 : (nms bs os).Perm (nms bs os') := List.Perm.append_left _ (hp.map _).flatten
  exact ⟨c.box, fun x hx => c.own x (hp.mem_iff.2 hx), hp2.nodup_iff.1 c.nd, fun m hm => c.lt m (hp2.mem_iff.2 hm)⟩
theorem Cx.lts (c : Cx h bs ((v, t, ns) :: os)) : ∀ n ∈ ns, n.1 < h.tick := fun n hn => c.lt n (mem_own (x := (v, t, ns)) (by simp) hn)
theorem Cx.nodup (c : Cx h bs ((v, t, ns) :: os)) : ns.Nodup := by
  have nd := c.nd
  simp only [nms, List.map_cons, List.flatten_cons] at nd
  rw [List.nodup_append] at nd
  exact (List.nodup_append.1 nd.2.1).1
theorem Cx.own0 (c : Cx h bs ((v, t, ns) :: os)) : ∀ b, OwnV h.rows b v (t b) ns := c.own (v, t, ns) (by simp)

theorem Cx.b0 (c : Cx h ((n, r) :: bs) os) : h.rows n = some r := c.box (n, r) (by simp)
theorem Cx.l0 {i j : Nat} (c : Cx h (((T, i, j), r) :: bs) os) : ¬ T = h.tick := Nat.ne_of_lt (c.lt (T, i, j) (mem_box (x := ((T, i, j), r)) (by simp)))
theorem Cx.b1 {x0 : Nm × Row} (c : Cx h (x0 :: (n, r) :: bs) os) : h.rows n = some r := c.box (n, r) (by simp)
theorem Cx.l1 {x0 : Nm × Row} {i j : Nat} (c : Cx h (x0 :: ((T, i, j), r) :: bs) os) : ¬ T = h.tick := Nat.ne_of_lt (c.lt (T, i, j) (mem_box (x := ((T, i, j), r)) (by simp)))
theorem Cx.b2 {x0 : Nm × Row} {x1 : Nm × Row} (c : Cx h (x0 :: x1 :: (n, r) :: bs) os) : h.rows n = some r := c.box (n, r) (by simp)
theorem Cx.l2 {x0 : Nm × Row} {x1 : Nm × Row} {i j : Nat} (c : Cx h (x0 :: x1 :: ((T, i, j), r) :: bs) os) : ¬ T = h.tick := Nat.ne_of_lt (c.lt (T, i, j) (mem_box (x := ((T, i, j), r)) (by simp)))
theorem Cx.b3 {x0 : Nm × Row} {x1 : Nm × Row} {x2 : Nm × Row} (c : Cx h (x0 :: x1 :: x2 :: (n, r) :: bs) os) : h.rows n = some r := c.box (n, r) (by simp)
theorem Cx.l3 {x0 : Nm × Row} {x1 : Nm × Row} {x2 : Nm × Row} {i j : Nat} (c : Cx h (x0 :: x1 :: x2 :: ((T, i, j), r) :: bs) os) : ¬ T = h.tick := Nat.ne_of_lt (c.lt (T, i, j) (mem_box (x := ((T, i, j), r)) (by simp)))
theorem Cx.b4 {x0 : Nm × Row} {x1 : Nm × Row} {x2 : Nm × Row} {x3 : Nm × Row} (c : Cx h (x0 :: x1 :: x2 :: x3 :: (n, r) :: bs) os) : h.rows n = some r := c.box (n, r) (by simp)
theorem Cx.l4 {x0 : Nm × Row} {x1 : Nm × Row} {x2 : Nm × Row} {x3 : Nm × Row} {i j : Nat} (c : Cx h (x0 :: x1 :: x2 :: x3 :: ((T, i, j), r) :: bs) os) : ¬ T = h.tick := Nat.ne_of_lt (c.lt (T, i, j) (mem_box (x := ((T, i, j), r)) (by simp)))
theorem Cx.b5 {x0 : Nm × Row} {x1 : Nm × Row} {x2 : Nm × Row} {x3 : Nm × Row} {x4 : Nm × Row} (c : Cx h (x0 :: x1 :: x2 :: x3 :: x4 :: (n, r) :: bs) os) : h.rows n = some r := c.box (n, r) (by simp)
theorem Cx.l5 {x0 : Nm × Row} {x1 : Nm × Row} {x2 : Nm × Row} {x3 : Nm × Row} {x4 : Nm × Row} {i j : Nat} (c : Cx h (x0 :: x1 :: x2 :: x3 :: x4 :: ((T, i, j), r) :: bs) os) : ¬ T = h.tick := Nat.ne_of_lt (c.lt (T, i, j) (mem_box (x := ((T, i, j), r)) (by simp)))
theorem Cx.b6 {x0 : Nm × Row} {x1 : Nm × Row} {x2 : Nm × Row} {x3 : Nm × Row} {x4 : Nm × Row} {x5 : Nm × Row} (c : Cx h (x0 :: x1 :: x2 :: x3 :: x4 :: x5 :: (n, r) :: bs) os) : h.rows n = some r := c.box (n, r) (by simp)
theorem Cx.l6 {x0 : Nm × Row} {x1 : Nm × Row} {x2 : Nm × Row} {x3 : Nm × Row} {x4 : Nm × Row} {x5 : Nm × Row} {i j : Nat} (c : Cx h (x0 :: x1 :: x2 :: x3 :: x4 :: x5 :: ((T, i, j), r) :: bs) os) : ¬ T = h.tick := Nat.ne_of_lt (c.lt (T, i, j) (mem_box (x := ((T, i, j), r)) (by simp)))
theorem Cx.b7 {x0 : Nm × Row} {x1 : Nm × Row} {x2 : Nm × Row} {x3 : Nm × Row} {x4 : Nm × Row} {x5 : Nm × Row} {x6 : Nm × Row} (c : Cx h (x0 :: x1 :: x2 :: x3 :: x4 :: x5 :: x6 :: (n, r) :: bs) os) : h.rows n = some r := c.box (n, r) (by simp)
theorem Cx.l7 {x0 : Nm × Row} {x1 : Nm × Row} {x2 : Nm × Row} {x3 : Nm × Row} {x4 : Nm × Row} {x5 : Nm × Row} {x6 : Nm × Row} {i j : Nat} (c : Cx h (x0 :: x1 :: x2 :: x3 :: x4 :: x5 :: x6 :: ((T, i, j), r) :: bs) os) : ¬ T = h.tick := Nat.ne_of_lt (c.lt (T, i, j) (mem_box (x := ((T, i, j), r)) (by simp)))
theorem Cx.b8 {x0 : Nm × Row} {x1 : Nm × Row} {x2 : Nm × Row} {x3 : Nm × Row} {x4 : Nm × Row} {x5 : Nm × Row} {x6 : Nm × Row} {x7 : Nm × Row} (c : Cx h (x0 :: x1 :: x2 :: x3 :: x4 :: x5 :: x6 :: x7 :: (n, r) :: bs) os) : h.rows n = some r := c.box (n, r) (by simp)
theorem Cx.l8 {x0 : Nm × Row} {x1 : Nm × Row} {x2 : Nm × Row} {x3 : Nm × Row} {x4 : Nm × Row} {x5 : Nm × Row} {x6 : Nm × Row} {x7 : Nm × Row} {i j : Nat} (c : Cx h (x0 :: x1 :: x2 :: x3 :: x4 :: x5 :: x6 :: x7 :: ((T, i, j), r) :: bs) os) : ¬ T = h.tick := Nat.ne_of_lt (c.lt (T, i, j) (mem_box (x := ((T, i, j), r)) (by simp)))
theorem Cx.b9 {x0 : Nm × Row} {x1 : Nm × Row} {x2 : Nm × Row} {x3 : Nm × Row} {x4 : Nm × Row} {x5 : Nm × Row} {x6 : Nm × Row} {x7 : Nm × Row} {x8 : Nm × Row} (c : Cx h (x0 :: x1 :: x2 :: x3 :: x4 :: x5 :: x6 :: x7 :: x8 :: (n, r) :: bs) os) : h.rows n = some r := c.box (n, r) (by simp)
theorem Cx.l9 {x0 : Nm × Row} {x1 : Nm × Row} {x2 : Nm × Row} {x3 : Nm × Row} {x4 : Nm × Row} {x5 : Nm × Row} {x6 : Nm × Row} {x7 : Nm × Row} {x8 : Nm × Row} {i j : Nat} (c : Cx h (x0 :: x1 :: x2 :: x3 :: x4 :: x5 :: x6 :: x7 :: x8 :: ((T, i, j), r) :: bs) os) : ¬ T = h.tick := Nat.ne_of_lt (c.lt (T, i, j) (mem_box (x := ((T, i, j), r)) (by simp)))
theorem Cx.b10 {x0 : Nm × Row} {x1 : Nm × Row} {x2 : Nm × Row} {x3 : Nm × Row} {x4 : Nm × Row} {x5 : Nm × Row} {x6 : Nm × Row} {x7 : Nm × Row} {x8 : Nm × Row} {x9 : Nm × Row} (c : Cx h (x0 :: x1 :: x2 :: x3 :: x4 :: x5 :: x6 :: x7 :: x8 :: x9 :: (n, r) :: bs) os) : h.rows n = some r := c.box (n, r) (by simp)
theorem Cx.l10 {x0 : Nm × Row} {x1 : Nm × Row} {x2 : Nm × Row} {x3 : Nm × Row} {x4 : Nm × Row} {x5 : Nm × Row} {x6 : Nm × Row} {x7 : Nm × Row} {x8 : Nm × Row} {x9 : Nm × Row} {i j : Nat} (c : Cx h (x0 :: x1 :: x2 :: x3 :: x4 :: x5 :: x6 :: x7 :: x8 :: x9 :: ((T, i, j), r) :: bs) os) : ¬ T = h.tick := Nat.ne_of_lt (c.lt (T, i, j) (mem_box (x := ((T, i, j), r)) (by simp)))
theorem Cx.b11 {x0 : Nm × Row} {x1 : Nm × Row} {x2 : Nm × Row} {x3 : Nm × Row} {x4 : Nm × Row} {x5 : Nm × Row} {x6 : Nm × Row} {x7 : Nm × Row} {x8 : Nm × Row} {x9 : Nm × Row} {x10 : Nm × Row} (c : Cx h (x0 :: x1 :: x2 :: x3 :: x4 :: x5 :: x6 :: x7 :: x8 :: x9 :: x10 :: (n, r) :: bs) os) : h.rows n = some r := c.box (n, r) (by simp)
theorem Cx.l11 {x0 : Nm × Row} {x1 : Nm × Row} {x2 : Nm × Row} {x3 : Nm × Row} {x4 : Nm × Row} {x5 : Nm × Row} {x6 : Nm × Row} {x7 : Nm × Row} {x8 : Nm × Row} {x9 : Nm × Row} {x10 : Nm × Row} {i j : Nat} (c : Cx h (x0 :: x1 :: x2 :: x3 :: x4 :: x5 :: x6 :: x7 :: x8 :: x9 :: x10 :: ((T, i, j), r) :: bs) os) : ¬ T = h.tick := Nat.ne_of_lt (c.lt (T, i, j) (mem_box (x := ((T, i, j), r)) (by simp)))
theorem Cx.b12 {x0 : Nm × Row} {x1 : Nm × Row} {x2 : Nm × Row} {x3 : Nm × Row} {x4 : Nm × Row} {x5 : Nm × Row} {x6 : Nm × Row} {x7 : Nm × Row} {x8 : Nm × Row} {x9 : Nm × Row} {x10 : Nm × Row} {x11 : Nm × Row} (c : Cx h (x0 :: x1 :: x2 :: x3 :: x4 :: x5 :: x6 :: x7 :: x8 :: x9 :: x10 :: x11 :: (n, r) :: bs) os) : h.rows n = some r := c.box (n, r) (by simp)
theorem Cx.l12 {x0 : Nm × Row} {x1 : Nm × Row} {x2 : Nm × Row} {x3 : Nm × Row} {x4 : Nm × Row} {x5 : Nm × Row} {x6 : Nm × Row} {x7 : Nm × Row} {x8 : Nm × Row} {x9 : Nm × Row} {x10 : Nm × Row} {x11 : Nm × Row} {i j : Nat} (c : Cx h (x0 :: x1 :: x2 :: x3 :: x4 :: x5 :: x6 :: x7 :: x8 :: x9 :: x10 :: x11 :: ((T, i, j), r) :: bs) os) : ¬ T = h.tick := Nat.ne_of_lt (c.lt (T, i, j) (mem_box (x := ((T, i, j), r)) (by simp)))
theorem Cx.b13 {x0 : Nm × Row} {x1 : Nm × Row} {x2 : Nm × Row} {x3 : Nm × Row} {x4 : Nm × Row} {x5 : Nm × Row} {x6 : Nm × Row} {x7 : Nm × Row} {x8 : Nm × Row} {x9 : Nm × Row} {x10 : Nm × Row} {x11 : Nm × Row} {x12 : Nm × Row} (c : Cx h (x0 :: x1 :: x2 :: x3 :: x4 :: x5 :: x6 :: x7 :: x8 :: x9 :: x10 :: x11 :: x12 :: (n, r) :: bs) os) : h.rows n = some r := c.box (n, r) (by simp)
theorem Cx.l13 {x0 : Nm × Row} {x1 : Nm × Row} {x2 : Nm × Row} {x3 : Nm × Row} {x4 : Nm × Row} {x5 : Nm × Row} {x6 : Nm × Row} {x7 : Nm × Row} {x8 : Nm × Row} {x9 : Nm × Row} {x10 : Nm × Row} {x11 : Nm × Row} {x12 : Nm × Row} {i j : Nat} (c : Cx h (x0 :: x1 :: x2 :: x3 :: x4 :: x5 :: x6 :: x7 :: x8 :: x9 :: x10 :: x11 :: x12 :: ((T, i, j), r) :: bs) os) : ¬ T = h.tick := Nat.ne_of_lt (c.lt (T, i, j) (mem_box (x := ((T, i, j), r)) (by simp)))
theorem Cx.b14 {x0 : Nm × Row} {x1 : Nm × Row} {x2 : Nm × Row} {x3 : Nm × Row} {x4 : Nm × Row} {x5 : Nm × Row} {x6 : Nm × Row} {x7 : Nm × Row} {x8 : Nm × Row} {x9 : Nm × Row} {x10 : Nm × Row} {x11 : Nm × Row} {x12 : Nm × Row} {x13 : Nm × Row} (c : Cx h (x0 :: x1 :: x2 :: x3 :: x4 :: x5 :: x6 :: x7 :: x8 :: x9 :: x10 :: x11 :: x12 :: x13 :: (n, r) :: bs) os) : h.rows n = some r := c.box (n, r) (by simp)
theorem Cx.l14 {x0 : Nm × Row} {x1 : Nm × Row} {x2 : Nm × Row} {x3 : Nm × Row} {x4 : Nm × Row} {x5 : Nm × Row} {x6 : Nm × Row} {x7 : Nm × Row} {x8 : Nm × Row} {x9 : Nm × Row} {x10 : Nm × Row} {x11 : Nm × Row} {x12 : Nm × Row} {x13 : Nm × Row} {i j : Nat} (c : Cx h (x0 :: x1 :: x2 :: x3 :: x4 :: x5 :: x6 :: x7 :: x8 :: x9 :: x10 :: x11 :: x12 :: x13 :: ((T, i, j), r) :: bs) os) : ¬ T = h.tick := Nat.ne_of_lt (c.lt (T, i, j) (mem_box (x := ((T, i, j), r)) (by simp)))
theorem Cx.o0 (c : Cx h bs ((v, t, ns) :: os)) : ∀ b, OwnV h.rows b v (t b) ns := c.own (v, t, ns) (by simp)
theorem Cx.m0 (c : Cx h bs ((v, t, ns) :: os)) : ∀ b, OwnV (maskR h.tick (fun _ => false) h.rows) b v (t b) ns := fun b => (c.o0 b).congr fun n hn => (by have := c.lt n (mem_own (x := (v, t, ns)) (by simp) hn); exact if_neg (fun e => by rcases e with e | e; omega; cases e))
theorem Cx.o1 {y0 : AV × (Bool → AV) × List Nm} (c : Cx h bs (y0 :: (v, t, ns) :: os)) : ∀ b, OwnV h.rows b v (t b) ns := c.own (v, t, ns) (by simp)
theorem Cx.m1 {y0 : AV × (Bool → AV) × List Nm} (c : Cx h bs (y0 :: (v, t, ns) :: os)) : ∀ b, OwnV (maskR h.tick (fun _ => false) h.rows) b v (t b) ns := fun b => (c.o1 b).congr fun n hn => (by have := c.lt n (mem_own (x := (v, t, ns)) (by simp) hn); exact if_neg (fun e => by rcases e with e | e; omega; cases e))
theorem Cx.rot1 {y0 : AV × (Bool → AV) × List Nm} (c : Cx h bs (y0 :: (v, t, ns) :: os)) : Cx h bs ((v, t, ns) :: y0 :: os) := c.perm (List.perm_middle (l₁ := [y0]))
theorem Cx.o2 {y0 : AV × (Bool → AV) × List Nm} {y1 : AV × (Bool → AV) × List Nm} (c : Cx h bs (y0 :: y1 :: (v, t, ns) :: os)) : ∀ b, OwnV h.rows b v (t b) ns := c.own (v, t, ns) (by simp)
theorem Cx.m2 {y0 : AV × (Bool → AV) × List Nm} {y1 : AV × (Bool → AV) × List Nm} (c : Cx h bs (y0 :: y1 :: (v, t, ns) :: os)) : ∀ b, OwnV (maskR h.tick (fun _ => false) h.rows) b v (t b) ns := fun b => (c.o2 b).congr fun n hn => (by have := c.lt n (mem_own (x := (v, t, ns)) (by simp) hn); exact if_neg (fun e => by rcases e with e | e; omega; cases e))
theorem Cx.rot2 {y0 : AV × (Bool → AV) × List Nm} {y1 : AV × (Bool → AV) × List Nm} (c : Cx h bs (y0 :: y1 :: (v, t, ns) :: os)) : Cx h bs ((v, t, ns) :: y0 :: y1 :: os) := c.perm (List.perm_middle (l₁ := [y0, y1]))
theorem Cx.o3 {y0 : AV × (Bool → AV) × List Nm} {y1 : AV × (Bool → AV) × List Nm} {y2 : AV × (Bool → AV) × List Nm} (c : Cx h bs (y0 :: y1 :: y2 :: (v, t, ns) :: os)) : ∀ b, OwnV h.rows b v (t b) ns := c.own (v, t, ns) (by simp)
theorem Cx.m3 {y0 : AV × (Bool → AV) × List Nm} {y1 : AV × (Bool → AV) × List Nm} {y2 : AV × (Bool → AV) × List Nm} (c : Cx h bs (y0 :: y1 :: y2 :: (v, t, ns) :: os)) : ∀ b, OwnV (maskR h.tick (fun _ => false) h.rows) b v (t b) ns := fun b => (c.o3 b).congr fun n hn => (by have := c.lt n (mem_own (x := (v, t, ns)) (by simp) hn); exact if_neg (fun e => by rcases e with e | e; omega; cases e))
theorem Cx.rot3 {y0 : AV × (Bool → AV) × List Nm} {y1 : AV × (Bool → AV) × List Nm} {y2 : AV × (Bool → AV) × List Nm} (c : Cx h bs (y0 :: y1 :: y2 :: (v, t, ns) :: os)) : Cx h bs ((v, t, ns) :: y0 :: y1 :: y2 :: os) := c.perm (List.perm_middle (l₁ := [y0, y1, y2]))
theorem Cx.o4 {y0 : AV × (Bool → AV) × List Nm} {y1 : AV × (Bool → AV) × List Nm} {y2 : AV × (Bool → AV) × List Nm} {y3 : AV × (Bool → AV) × List Nm} (c : Cx h bs (y0 :: y1 :: y2 :: y3 :: (v, t, ns) :: os)) : ∀ b, OwnV h.rows b v (t b) ns := c.own (v, t, ns) (by simp)
theorem Cx.m4 {y0 : AV × (Bool → AV) × List Nm} {y1 : AV × (Bool → AV) × List Nm} {y2 : AV × (Bool → AV) × List Nm} {y3 : AV × (Bool → AV) × List Nm} (c : Cx h bs (y0 :: y1 :: y2 :: y3 :: (v, t, ns) :: os)) : ∀ b, OwnV (maskR h.tick (fun _ => false) h.rows) b v (t b) ns := fun b => (c.o4 b).congr fun n hn => (by have := c.lt n (mem_own (x := (v, t, ns)) (by simp) hn); exact if_neg (fun e => by rcases e with e | e; omega; cases e))
theorem Cx.rot4 {y0 : AV × (Bool → AV) × List Nm} {y1 : AV × (Bool → AV) × List Nm} {y2 : AV × (Bool → AV) × List Nm} {y3 : AV × (Bool → AV) × List Nm} (c : Cx h bs (y0 :: y1 :: y2 :: y3 :: (v, t, ns) :: os)) : Cx h bs ((v, t, ns) :: y0 :: y1 :: y2 :: y3 :: os) := c.perm (List.perm_middle (l₁ := [y0, y1, y2, y3]))
theorem Cx.o5 {y0 : AV × (Bool → AV) × List Nm} {y1 : AV × (Bool → AV) × List Nm} {y2 : AV × (Bool → AV) × List Nm} {y3 : AV × (Bool → AV) × List Nm} {y4 : AV × (Bool → AV) × List Nm} (c : Cx h bs (y0 :: y1 :: y2 :: y3 :: y4 :: (v, t, ns) :: os)) : ∀ b, OwnV h.rows b v (t b) ns := c.own (v, t, ns) (by simp)
theorem Cx.m5 {y0 : AV × (Bool → AV) × List Nm} {y1 : AV × (Bool → AV) × List Nm} {y2 : AV × (Bool → AV) × List Nm} {y3 : AV × (Bool → AV) × List Nm} {y4 : AV × (Bool → AV) × List Nm} (c : Cx h bs (y0 :: y1 :: y2 :: y3 :: y4 :: (v, t, ns) :: os)) : ∀ b, OwnV (maskR h.tick (fun _ => false) h.rows) b v (t b) ns := fun b => (c.o5 b).congr fun n hn => (by have := c.lt n (mem_own (x := (v, t, ns)) (by simp) hn); exact if_neg (fun e => by rcases e with e | e; omega; cases e))
theorem Cx.rot5 {y0 : AV × (Bool → AV) × List Nm} {y1 : AV × (Bool → AV) × List Nm} {y2 : AV × (Bool → AV) × List Nm} {y3 : AV × (Bool → AV) × List Nm} {y4 : AV × (Bool → AV) × List Nm} (c : Cx h bs (y0 :: y1 :: y2 :: y3 :: y4 :: (v, t, ns) :: os)) : Cx h bs ((v, t, ns) :: y0 :: y1 :: y2 :: y3 :: y4 :: os) := c.perm (List.perm_middle (l₁ := [y0, y1, y2, y3, y4]))
theorem Cx.o6 {y0 : AV × (Bool → AV) × List Nm} {y1 : AV × (Bool → AV) × List Nm} {y2 : AV × (Bool → AV) × List Nm} {y3 : AV × (Bool → AV) × List Nm} {y4 : AV × (Bool → AV) × List Nm} {y5 : AV × (Bool → AV) × List Nm} (c : Cx h bs (y0 :: y1 :: y2 :: y3 :: y4 :: y5 :: (v, t, ns) :: os)) : ∀ b, OwnV h.rows b v (t b) ns := c.own (v, t, ns) (by simp)
theorem Cx.m6 {y0 : AV × (Bool → AV) × List Nm} {y1 : AV × (Bool → AV) × List Nm} {y2 : AV × (Bool → AV) × List Nm} {y3 : AV × (Bool → AV) × List Nm} {y4 : AV × (Bool → AV) × List Nm} {y5 : AV × (Bool → AV) × List Nm} (c : Cx h bs (y0 :: y1 :: y2 :: y3 :: y4 :: y5 :: (v, t, ns) :: os)) : ∀ b, OwnV (maskR h.tick (fun _ => false) h.rows) b v (t b) ns := fun b => (c.o6 b).congr fun n hn => (by have := c.lt n (mem_own (x := (v, t, ns)) (by simp) hn); exact if_neg (fun e => by rcases e with e | e; omega; cases e))
theorem Cx.rot6 {y0 : AV × (Bool → AV) × List Nm} {y1 : AV × (Bool → AV) × List Nm} {y2 : AV × (Bool → AV) × List Nm} {y3 : AV × (Bool → AV) × List Nm} {y4 : AV × (Bool → AV) × List Nm} {y5 : AV × (Bool → AV) × List Nm} (c : Cx h bs (y0 :: y1 :: y2 :: y3 :: y4 :: y5 :: (v, t, ns) :: os)) : Cx h bs ((v, t, ns) :: y0 :: y1 :: y2 :: y3 :: y4 :: y5 :: os) := c.perm (List.perm_middle (l₁ := [y0, y1, y2, y3, y4, y5]))
theorem Cx.o7 {y0 : AV × (Bool → AV) × List Nm} {y1 : AV × (Bool → AV) × List Nm} {y2 : AV × (Bool → AV) × List Nm} {y3 : AV × (Bool → AV) × List Nm} {y4 : AV × (Bool → AV) × List Nm} {y5 : AV × (Bool → AV) × List Nm} {y6 : AV × (Bool → AV) × List Nm} (c : Cx h bs (y0 :: y1 :: y2 :: y3 :: y4 :: y5 :: y6 :: (v, t, ns) :: os)) : ∀ b, OwnV h.rows b v (t b) ns := c.own (v, t, ns) (by simp)
theorem Cx.m7 {y0 : AV × (Bool → AV) × List Nm} {y1 : AV × (Bool → AV) × List Nm} {y2 : AV × (Bool → AV) × List Nm} {y3 : AV × (Bool → AV) × List Nm} {y4 : AV × (Bool → AV) × List Nm} {y5 : AV × (Bool → AV) × List Nm} {y6 : AV × (Bool → AV) × List Nm} (c : Cx h bs (y0 :: y1 :: y2 :: y3 :: y4 :: y5 :: y6 :: (v, t, ns) :: os)) : ∀ b, OwnV (maskR h.tick (fun _ => false) h.rows) b v (t b) ns := fun b => (c.o7 b).congr fun n hn => (by have := c.lt n (mem_own (x := (v, t, ns)) (by simp) hn); exact if_neg (fun e => by rcases e with e | e; omega; cases e))
theorem Cx.rot7 {y0 : AV × (Bool → AV) × List Nm} {y1 : AV × (Bool → AV) × List Nm} {y2 : AV × (Bool → AV) × List Nm} {y3 : AV × (Bool → AV) × List Nm} {y4 : AV × (Bool → AV) × List Nm} {y5 : AV × (Bool → AV) × List Nm} {y6 : AV × (Bool → AV) × List Nm} (c : Cx h bs (y0 :: y1 :: y2 :: y3 :: y4 :: y5 :: y6 :: (v, t, ns) :: os)) : Cx h bs ((v, t, ns) :: y0 :: y1 :: y2 :: y3 :: y4 :: y5 :: y6 :: os) := c.perm (List.perm_middle (l₁ := [y0, y1, y2, y3, y4, y5, y6]))
theorem Cx.o8 {y0 : AV × (Bool → AV) × List Nm} {y1 : AV × (Bool → AV) × List Nm} {y2 : AV × (Bool → AV) × List Nm} {y3 : AV × (Bool → AV) × List Nm} {y4 : AV × (Bool → AV) × List Nm} {y5 : AV × (Bool → AV) × List Nm} {y6 : AV × (Bool → AV) × List Nm} {y7 : AV × (Bool → AV) × List Nm} (c : Cx h bs (y0 :: y1 :: y2 :: y3 :: y4 :: y5 :: y6 :: y7 :: (v, t, ns) :: os)) : ∀ b, OwnV h.rows b v (t b) ns := c.own (v, t, ns) (by simp)
theorem Cx.m8 {y0 : AV × (Bool → AV) × List Nm} {y1 : AV × (Bool → AV) × List Nm} {y2 : AV × (Bool → AV) × List Nm} {y3 : AV × (Bool → AV) × List Nm} {y4 : AV × (Bool → AV) × List Nm} {y5 : AV × (Bool → AV) × List Nm} {y6 : AV × (Bool → AV) × List Nm} {y7 : AV × (Bool → AV) × List Nm} (c : Cx h bs (y0 :: y1 :: y2 :: y3 :: y4 :: y5 :: y6 :: y7 :: (v, t, ns) :: os)) : ∀ b, OwnV (maskR h.tick (fun _ => false) h.rows) b v (t b) ns := fun b => (c.o8 b).congr fun n hn => (by have := c.lt n (mem_own (x := (v, t, ns)) (by simp) hn); exact if_neg (fun e => by rcases e with e | e; omega; cases e))
theorem Cx.rot8 {y0 : AV × (Bool → AV) × List Nm} {y1 : AV × (Bool → AV) × List Nm} {y2 : AV × (Bool → AV) × List Nm} {y3 : AV × (Bool → AV) × List Nm} {y4 : AV × (Bool → AV) × List Nm} {y5 : AV × (Bool → AV) × List Nm} {y6 : AV × (Bool → AV) × List Nm} {y7 : AV × (Bool → AV) × List Nm} (c : Cx h bs (y0 :: y1 :: y2 :: y3 :: y4 :: y5 :: y6 :: y7 :: (v, t, ns) :: os)) : Cx h bs ((v, t, ns) :: y0 :: y1 :: y2 :: y3 :: y4 :: y5 :: y6 :: y7 :: os) := c.perm (List.perm_middle (l₁ := [y0, y1, y2, y3, y4, y5, y6, y7]))
theorem Cx.o9 {y0 : AV × (Bool → AV) × List Nm} {y1 : AV × (Bool → AV) × List Nm} {y2 : AV × (Bool → AV) × List Nm} {y3 : AV × (Bool → AV) × List Nm} {y4 : AV × (Bool → AV) × List Nm} {y5 : AV × (Bool → AV) × List Nm} {y6 : AV × (Bool → AV) × List Nm} {y7 : AV × (Bool → AV) × List Nm} {y8 : AV × (Bool → AV) × List Nm} (c : Cx h bs (y0 :: y1 :: y2 :: y3 :: y4 :: y5 :: y6 :: y7 :: y8 :: (v, t, ns) :: os)) : ∀ b, OwnV h.rows b v (t b) ns := c.own (v, t, ns) (by simp)
theorem Cx.m9 {y0 : AV × (Bool → AV) × List Nm} {y1 : AV × (Bool → AV) × List Nm} {y2 : AV × (Bool → AV) × List Nm} {y3 : AV × (Bool → AV) × List Nm} {y4 : AV × (Bool → AV) × List Nm} {y5 : AV × (Bool → AV) × List Nm} {y6 : AV × (Bool → AV) × List Nm} {y7 : AV × (Bool → AV) × List Nm} {y8 : AV × (Bool → AV) × List Nm} (c : Cx h bs (y0 :: y1 :: y2 :: y3 :: y4 :: y5 :: y6 :: y7 :: y8 :: (v, t, ns) :: os)) : ∀ b, OwnV (maskR h.tick (fun _ => false) h.rows) b v (t b) ns := fun b => (c.o9 b).congr fun n hn => (by have := c.lt n (mem_own (x := (v, t, ns)) (by simp) hn); exact if_neg (fun e => by rcases e with e | e; omega; cases e))
theorem Cx.rot9 {y0 : AV × (Bool → AV) × List Nm} {y1 : AV × (Bool → AV) × List Nm} {y2 : AV × (Bool → AV) × List Nm} {y3 : AV × (Bool → AV) × List Nm} {y4 : AV × (Bool → AV) × List Nm} {y5 : AV × (Bool → AV) × List Nm} {y6 : AV × (Bool → AV) × List Nm} {y7 : AV × (Bool → AV) × List Nm} {y8 : AV × (Bool → AV) × List Nm} (c : Cx h bs (y0 :: y1 :: y2 :: y3 :: y4 :: y5 :: y6 :: y7 :: y8 :: (v, t, ns) :: os)) : Cx h bs ((v, t, ns) :: y0 :: y1 :: y2 :: y3 :: y4 :: y5 :: y6 :: y7 :: y8 :: os) := c.perm (List.perm_middle (l₁ := [y0, y1, y2, y3, y4, y5, y6, y7, y8]))
theorem Cx.o10 {y0 : AV × (Bool → AV) × List Nm} {y1 : AV × (Bool → AV) × List Nm} {y2 : AV × (Bool → AV) × List Nm} {y3 : AV × (Bool → AV) × List Nm} {y4 : AV × (Bool → AV) × List Nm} {y5 : AV × (Bool → AV) × List Nm} {y6 : AV × (Bool → AV) × List Nm} {y7 : AV × (Bool → AV) × List Nm} {y8 : AV × (Bool → AV) × List Nm} {y9 : AV × (Bool → AV) × List Nm} (c : Cx h bs (y0 :: y1 :: y2 :: y3 :: y4 :: y5 :: y6 :: y7 :: y8 :: y9 :: (v, t, ns) :: os)) : ∀ b, OwnV h.rows b v (t b) ns := c.own (v, t, ns) (by simp)
theorem Cx.m10 {y0 : AV × (Bool → AV) × List Nm} {y1 : AV × (Bool → AV) × List Nm} {y2 : AV × (Bool → AV) × List Nm} {y3 : AV × (Bool → AV) × List Nm} {y4 : AV × (Bool → AV) × List Nm} {y5 : AV × (Bool → AV) × List Nm} {y6 : AV × (Bool → AV) × List Nm} {y7 : AV × (Bool → AV) × List Nm} {y8 : AV × (Bool → AV) × List Nm} {y9 : AV × (Bool → AV) × List Nm} (c : Cx h bs (y0 :: y1 :: y2 :: y3 :: y4 :: y5 :: y6 :: y7 :: y8 :: y9 :: (v, t, ns) :: os)) : ∀ b, OwnV (maskR h.tick (fun _ => false) h.rows) b v (t b) ns := fun b => (c.o10 b).congr fun n hn => (by have := c.lt n (mem_own (x := (v, t, ns)) (by simp) hn); exact if_neg (fun e => by rcases e with e | e; omega; cases e))
theorem Cx.rot10 {y0 : AV × (Bool → AV) × List Nm} {y1 : AV × (Bool → AV) × List Nm} {y2 : AV × (Bool → AV) × List Nm} {y3 : AV × (Bool → AV) × List Nm} {y4 : AV × (Bool → AV) × List Nm} {y5 : AV × (Bool → AV) × List Nm} {y6 : AV × (Bool → AV) × List Nm} {y7 : AV × (Bool → AV) × List Nm} {y8 : AV × (Bool → AV) × List Nm} {y9 : AV × (Bool → AV) × List Nm} (c : Cx h bs (y0 :: y1 :: y2 :: y3 :: y4 :: y5 :: y6 :: y7 :: y8 :: y9 :: (v, t, ns) :: os)) : Cx h bs ((v, t, ns) :: y0 :: y1 :: y2 :: y3 :: y4 :: y5 :: y6 :: y7 :: y8 :: y9 :: os) := c.perm (List.perm_middle (l₁ := [y0, y1, y2, y3, y4, y5, y6, y7, y8, y9]))
theorem Cx.o11 {y0 : AV × (Bool → AV) × List Nm} {y1 : AV × (Bool → AV) × List Nm} {y2 : AV × (Bool → AV) × List Nm} {y3 : AV × (Bool → AV) × List Nm} {y4 : AV × (Bool → AV) × List Nm} {y5 : AV × (Bool → AV) × List Nm} {y6 : AV × (Bool → AV) × List Nm} {y7 : AV × (Bool → AV) × List Nm} {y8 : AV × (Bool → AV) × List Nm} {y9 : AV × (Bool → AV) × List Nm} {y10 : AV × (Bool → AV) × List Nm} (c : Cx h bs (y0 :: y1 :: y2 :: y3 :: y4 :: y5 :: y6 :: y7 :: y8 :: y9 :: y10 :: (v, t, ns) :: os)) : ∀ b, OwnV h.rows b v (t b) ns := c.own (v, t, ns) (by simp)
theorem Cx.m11 {y0 : AV × (Bool → AV) × List Nm} {y1 : AV × (Bool → AV) × List Nm} {y2 : AV × (Bool → AV) × List Nm} {y3 : AV × (Bool → AV) × List Nm} {y4 : AV × (Bool → AV) × List Nm} {y5 : AV × (Bool → AV) × List Nm} {y6 : AV × (Bool → AV) × List Nm} {y7 : AV × (Bool → AV) × List Nm} {y8 : AV × (Bool → AV) × List Nm} {y9 : AV × (Bool → AV) × List Nm} {y10 : AV × (Bool → AV) × List Nm} (c : Cx h bs (y0 :: y1 :: y2 :: y3 :: y4 :: y5 :: y6 :: y7 :: y8 :: y9 :: y10 :: (v, t, ns) :: os)) : ∀ b, OwnV (maskR h.tick (fun _ => false) h.rows) b v (t b) ns := fun b => (c.o11 b).congr fun n hn => (by have := c.lt n (mem_own (x := (v, t, ns)) (by simp) hn); exact if_neg (fun e => by rcases e with e | e; omega; cases e))
theorem Cx.rot11 {y0 : AV × (Bool → AV) × List Nm} {y1 : AV × (Bool → AV) × List Nm} {y2 : AV × (Bool → AV) × List Nm} {y3 : AV × (Bool → AV) × List Nm} {y4 : AV × (Bool → AV) × List Nm} {y5 : AV × (Bool → AV) × List Nm} {y6 : AV × (Bool → AV) × List Nm} {y7 : AV × (Bool → AV) × List Nm} {y8 : AV × (Bool → AV) × List Nm} {y9 : AV × (Bool → AV) × List Nm} {y10 : AV × (Bool → AV) × List Nm} (c : Cx h bs (y0 :: y1 :: y2 :: y3 :: y4 :: y5 :: y6 :: y7 :: y8 :: y9 :: y10 :: (v, t, ns) :: os)) : Cx h bs ((v, t, ns) :: y0 :: y1 :: y2 :: y3 :: y4 :: y5 :: y6 :: y7 :: y8 :: y9 :: y10 :: os) := c.perm (List.perm_middle (l₁ := [y0, y1, y2, y3, y4, y5, y6, y7, y8, y9, y10]))
theorem Cx.o12 {y0 : AV × (Bool → AV) × List Nm} {y1 : AV × (Bool → AV) × List Nm} {y2 : AV × (Bool → AV) × List Nm} {y3 : AV × (Bool → AV) × List Nm} {y4 : AV × (Bool → AV) × List Nm} {y5 : AV × (Bool → AV) × List Nm} {y6 : AV × (Bool → AV) × List Nm} {y7 : AV × (Bool → AV) × List Nm} {y8 : AV × (Bool → AV) × List Nm} {y9 : AV × (Bool → AV) × List Nm} {y10 : AV × (Bool → AV) × List Nm} {y11 : AV × (Bool → AV) × List Nm} (c : Cx h bs (y0 :: y1 :: y2 :: y3 :: y4 :: y5 :: y6 :: y7 :: y8 :: y9 :: y10 :: y11 :: (v, t, ns) :: os)) : ∀ b, OwnV h.rows b v (t b) ns := c.own (v, t, ns) (by simp)
theorem Cx.m12 {y0 : AV × (Bool → AV) × List Nm} {y1 : AV × (Bool → AV) × List Nm} {y2 : AV × (Bool → AV) × List Nm} {y3 : AV × (Bool → AV) × List Nm} {y4 : AV × (Bool → AV) × List Nm} {y5 : AV × (Bool → AV) × List Nm} {y6 : AV × (Bool → AV) × List Nm} {y7 : AV × (Bool → AV) × List Nm} {y8 : AV × (Bool → AV) × List Nm} {y9 : AV × (Bool → AV) × List Nm} {y10 : AV × (Bool → AV) × List Nm} {y11 : AV × (Bool → AV) × List Nm} (c : Cx h bs (y0 :: y1 :: y2 :: y3 :: y4 :: y5 :: y6 :: y7 :: y8 :: y9 :: y10 :: y11 :: (v, t, ns) :: os)) : ∀ b, OwnV (maskR h.tick (fun _ => false) h.rows) b v (t b) ns := fun b => (c.o12 b).congr fun n hn => (by have := c.lt n (mem_own (x := (v, t, ns)) (by simp) hn); exact if_neg (fun e => by rcases e with e | e; omega; cases e))
theorem Cx.rot12 {y0 : AV × (Bool → AV) × List Nm} {y1 : AV × (Bool → AV) × List Nm} {y2 : AV × (Bool → AV) × List Nm} {y3 : AV × (Bool → AV) × List Nm} {y4 : AV × (Bool → AV) × List Nm} {y5 : AV × (Bool → AV) × List Nm} {y6 : AV × (Bool → AV) × List Nm} {y7 : AV × (Bool → AV) × List Nm} {y8 : AV × (Bool → AV) × List Nm} {y9 : AV × (Bool → AV) × List Nm} {y10 : AV × (Bool → AV) × List Nm} {y11 : AV × (Bool → AV) × List Nm} (c : Cx h bs (y0 :: y1 :: y2 :: y3 :: y4 :: y5 :: y6 :: y7 :: y8 :: y9 :: y10 :: y11 :: (v, t, ns) :: os)) : Cx h bs ((v, t, ns) :: y0 :: y1 :: y2 :: y3 :: y4 :: y5 :: y6 :: y7 :: y8 :: y9 :: y10 :: y11 :: os) := c.perm (List.perm_middle (l₁ := [y0, y1, y2, y3, y4, y5, y6, y7, y8, y9, y10, y11]))
theorem Cx.rot0 (c : Cx h bs os) : Cx h bs os := c
theorem Cx.mt_box : Cx ((Hp.mt 0).next.put (0, 0, 0) r) [((0, 0, 0), r)] [] := Cx.mt.next.box_one (T := 0) Cx.mt.off (Nat.zero_lt_one)
theorem Cx.mt_box2 : Cx (((Hp.mt 0).next.put (0, 0, 0) r).put (0, 1, 0) r') [((0, 1, 0), r'), ((0, 0, 0), r)] [] := Cx.mt_box.box_add (by simp [nms]) (by simp [hp_next_tick, hp_put_tick])

variable {P : Program} {M : FuncId → Mode} {C : CS} {D : Array Oper → (Nat → AV) → Hp → ((Nat → AV) → Hp → Prop) → Prop} {σ : Nat → AV} {K : Ex → (Nat → AV) → Hp → Prop} {code : Code} {g : FuncId} {as1 : List AV} {N : AV → Hp → Prop}
theorem cx_wp (c : Cx h bs os) (k : ∀ h', Cx h' bs os → wpC P M C D code σ h' K) : wpC P M C D code σ h K := k h c
theorem cx_k {b : Code} (c : Cx h bs os) (k : ∀ h', Cx h' bs os → wpC P M C D b σ h' K) : KSeq P M C D b K .normal σ h := k h c
theorem cx_call (c : Cx h bs os) (k : ∀ h', Cx h' bs os → h'.tick = h.tick → callW M C g as1 h' N) : callW M C g as1 h N := k h c rfl
end
end Go.Proofs.YtmcmgeedhbgglaaGreatDoor.AM

namespace Go.Proofs.YtmcmgeedhbgglaaGreatDoor.AM
attribute [simp] evQ sliceX memA binA unA lenA_tr lenA_sl lenA_nilsl lenA_ints lenA_intss lenA_str opd avc avc1 putA_get putA_none envOf_0 envOf_1 envOf_2 envOf_3 envOf_4 envOf_5 envOf_6 loadA readCells faddrA iaddrA fieldA indexA storeA makeSliceA buildSliceA allocA boxA buildA fillA setCs hp_rows_put resA appendA_mt_ints hp_next_rows hp_next_tick hp_put_tick hp_mt_rows hp_mt_tick maskR newA isNew gdv int_beq int_bne ltS ltB ltK

section
variable {P : Program} {M : FuncId → Mode} {C : CS} {σ : Nat → AV} {h : Hp} {all : Array Oper} {T i : Nat} {rest : List Oper} {N : (Nat → AV) → Hp → Prop} {dst : Option Tmp} {ty : TypeId} {pos : String} {aft : Array Edge} {W : Nm → Bool} {rows0 : Nm → Option Row}
/-- A function value. -/
def FnW (x : AV) (k : FuncId → List AV → Prop) : Prop := match x with | .fn g cap => k g cap | _ => False
theorem fn_mk {g : FuncId} {cap : List AV} {k : FuncId → List AV → Prop} (w : k g cap) : FnW (.fn g cap) k := w
theorem st_cv {t : Tmp} {args : Array Operand} {ts : Array TypeId} (w : At (opd σ (.tmp t)) fun x => FnW x fun g cap => At (args.toList.map (opd σ) ++ cap) fun vs => callW M C g vs h (fun v h' => wpOps P M C all T rest (i + 1) (putA dst v σ) h' N)) :
    wpOps P M C all T (⟨dst, .call ⟨.value (.tmp t), args, ts⟩, ty, pos, aft, none⟩ :: rest) i σ h N := by
  unfold wpOps
  rw [wanted_none]
  have h1 : evQ P (opd σ) h.rows (.call ⟨.value (.tmp t), args, ts⟩) = none := rfl
  have h2 : memA P (T, i, 0) (opd σ) h (.call ⟨.value (.tmp t), args, ts⟩) = none := rfl
  unfold At at w
  simp only [stepW, h1, h2]
  cases hx : opd σ (.tmp t) with
  | fn g cap => rw [hx] at w; exact w
  | _ => rw [hx] at w; exact w.elim
theorem fr_cv {t : Tmp} {args : Array Operand} {ts : Array TypeId} (w : At (opd σ (.tmp t)) fun x => FnW x fun g cap => At (args.toList.map (opd σ) ++ cap) fun vs => treeW C g (maskR T W rows0) vs (T + 1) fun v => frontW P M C all T W rows0 rest (i + 1) (putA dst v σ) h N) :
    frontW P M C all T W rows0 (⟨dst, .call ⟨.value (.tmp t), args, ts⟩, ty, pos, aft, none⟩ :: rest) i σ h N := by
  unfold frontW
  rw [wanted_none]
  have h1 : evQ P (opd σ) (maskR T W rows0) (.call ⟨.value (.tmp t), args, ts⟩) = none := rfl
  have h2 : newA P (T, i, 0) (opd σ) (.call ⟨.value (.tmp t), args, ts⟩) = none := rfl
  unfold At at w
  simp only [h1, h2]
  cases hx : opd σ (.tmp t) with
  | fn g cap => rw [hx] at w; exact w
  | _ => rw [hx] at w; exact w.elim
theorem gd_b {want b : Bool} {k1 k2 : Prop} (w1 : b = want → k1) (w2 : b = !want → k2) : Gd want (.bool b) k1 k2 := ⟨w1, fun e => w2 (by cases b <;> cases want <;> simp_all)⟩
/-- A call that yields a tree, in a region of either kind. -/
theorem tr_call {g : FuncId} {args targs : List AV} {r : AV} {rows : Nm → Option Row} {t : Nat} {K : AV → Prop} (hp : Pure P g targs r) (ha : DRs true rows args targs) (hk : K r) : treeW (Sound P) g rows args t K := treeW_pure hp ha hk
theorem dr_bool {c : Bool} {rows : Nm → Option Row} {b b' : Bool} (e : b = b') : DR c rows (.bool b) (.bool b') := by subst e; exact .bool _
theorem dr_int {c : Bool} {rows : Nm → Option Row} {k : IntKind} {n n' : Int} (e : n = n') : DR c rows (.int k n) (.int k n') := by subst e; exact .int _ _
theorem dr_fn {c : Bool} {rows : Nm → Option Row} {f : FuncId} {cs ts : List AV} (h : DRs c rows cs ts) : DR c rows (.fn f cs) (.fn f ts) := .fn f _ _ h.1 h.2
theorem dr_tptr' {c b : Bool} {rows : Nm → Option Row} {cs ts : List AV} (hb : b = true → c = true) (h : DRs c rows cs ts) : DR c rows (.tptr b cs) (.tptr c ts) := .tptr b cs ts hb h.1 h.2
end
end Go.Proofs.YtmcmgeedhbgglaaGreatDoor.AM

namespace Go.Proofs.YtmcmgeedhbgglaaGreatDoor.AM
open Go.RowKit

def flatc : AV → Bool
  | .int .. | .bool _ | .str _ => true
  | _ => false

section
variable {rows : Nm → Option Row} {c : Bool}
theorem flatc_cl {x : AV} (h : flatc x = true) : Cl x := by
  cases x <;> first | exact .int _ _ | exact .bool _ | exact .str _ | cases h
theorem own_flatc : ∀ l : List AV, (∀ x ∈ l, flatc x = true) → Own rows c l l []
  | [], _ => .nil
  | x :: l, h => by
    have h1 := h x (by simp)
    have h2 := own_flatc l fun y hy => h y (by simp [hy])
    cases x <;> first | exact .int _ _ h2 | exact .bool _ h2 | exact .str _ h2 | cases h1
theorem own_flatc_inv : ∀ (l bs : List AV) (ns : List Nm), (∀ x ∈ l, flatc x = true) → Own rows c bs l ns → ns = [] ∧ bs = l
  | [], bs, ns, _, h => by cases h; exact ⟨rfl, rfl⟩
  | x :: l, bs, ns, hf, h => by
    have h1 := hf x (by simp)
    cases h with
    | int _ _ h => obtain ⟨e1, e2⟩ := own_flatc_inv l _ _ (fun y hy => hf y (by simp [hy])) h; exact ⟨e1, by rw [e2]⟩
    | bool _ h => obtain ⟨e1, e2⟩ := own_flatc_inv l _ _ (fun y hy => hf y (by simp [hy])) h; exact ⟨e1, by rw [e2]⟩
    | str _ h => obtain ⟨e1, e2⟩ := own_flatc_inv l _ _ (fun y hy => hf y (by simp [hy])) h; exact ⟨e1, by rw [e2]⟩
    | nilsl h => cases h1
    | sl => cases h1
    | slo => cases h1
theorem clRow_flat {ver s : Nat} {l : List (List AV)} (h : ∀ e ∈ l, ∀ x ∈ e, flatc x = true) : ClRow ⟨ver, s, l⟩ := fun i e j x he hx => flatc_cl (h e (List.mem_of_getElem? he) x (List.mem_of_getElem? hx))
theorem flat_flatten {l : List (List AV)} (h : ∀ e ∈ l, ∀ x ∈ e, flatc x = true) : ∀ x ∈ l.flatten, flatc x = true := fun x hx => by
  obtain ⟨e, he, hx⟩ := List.mem_flatten.1 hx
  exact h e he x hx
theorem dr_flatc {x : AV} (h : flatc x = true) : DR c rows x x := by
  cases x <;> first | exact .int _ _ | exact .bool _ | exact .str _ | cases h
theorem drs_flat {l : List AV} (h : ∀ x ∈ l, flatc x = true) : DRs c rows l l := ⟨rfl, fun i a t ha ht => by rw [ha] at ht; cases ht; exact dr_flatc (h a (List.mem_of_getElem? ha))⟩
theorem dr_trflat {b : Bool} (hb : b = true → c = true) {l : List (List AV)} (h : ∀ e ∈ l, ∀ x ∈ e, flatc x = true) : DR c rows (.tr b l) (.tr c l) := by
  refine .tr b _ _ hb rfl (fun i e t he ht => by rw [he] at ht; cases ht; rfl) (fun i e t j x y he ht hx hy => ?_)
  rw [he] at ht; cases ht
  rw [hx] at hy; cases hy
  exact dr_flatc (h e (List.mem_of_getElem? he) x (List.mem_of_getElem? hx))
theorem own_row {n : Nm} {ver s len : Nat} {xs ys : List (List AV)} (h : rows n = some ⟨ver, s, ys⟩) (hl : ys.take len = xs) (hx : xs.length = len) (hs : ∀ e ∈ ys, e.length = s) (hf : ∀ e ∈ xs, ∀ x ∈ e, flatc x = true) (hc : ClRow ⟨ver, s, ys⟩) : Own rows c [.sl n ver 0 len] [.tr c xs] [n] := by
  have := Own.sl (as1 := []) (ts := []) (ns1 := []) (ns2 := []) (c := c) n ver len s _ xs h rfl rfl hc (by simp; have := congrArg List.length hl; simp at this; omega) hs hx (fun e he => by rw [← hl] at he; exact hs e (List.mem_of_mem_take he))
    (by rw [show (Row.mk ver s ys).elems.take len = xs from hl]; exact own_flatc _ (flat_flatten hf)) .nil
  simpa using this
theorem own_row_inv {a : AV} {s : Nat} {xs : List (List AV)} {ns : List Nm} (hf : ∀ e ∈ xs, e.length = s ∧ ∀ x ∈ e, flatc x = true) (hs : 1 < s) (h : Own rows true [a] [.tr true xs] ns) :
    (xs = [] ∧ (∀ c, Own rows c [a] [.tr c []] ns) ∧ ((a = .nilsl ∧ ns = []) ∨ ∃ n ver off, a = .sl n ver off 0 ∧ ns = [n])) ∨
    (∃ n ver sp, a = .sl n ver 0 xs.length ∧ ns = [n] ∧ rows n = some ⟨ver, s, xs ++ sp⟩ ∧ (∀ e ∈ sp, e.length = s) ∧ ClRow ⟨ver, s, sp⟩) := by
  cases h with
  | nilsl h =>
    cases h
    exact .inl ⟨rfl, fun c => .nilsl .nil, .inl ⟨rfl, rfl⟩⟩
  | @sl _ _ ns1 ns2 n ver len s' r _ h1 h2 h3 h4 h5 h6 h7 h8 h9 h10 =>
    cases h10
    obtain ⟨e1, e2⟩ := own_flatc_inv xs.flatten _ _ (flat_flatten fun e he => (hf e he).2) h9
    subst e1
    cases xs with
    | nil =>
      left
      simp at h7
      subst h7
      exact ⟨rfl, fun c => .sl n ver 0 s' r [] h1 h2 h3 h4 h5 h6 rfl (by simp) (by simpa using Own.nil) .nil, .inr ⟨n, ver, 0, rfl, by simp⟩⟩
    | cons x xs =>
      right
      have hss : s' = s := by
        have a1 := h8 x (by simp)
        have a2 := (hf x (by simp)).1
        omega
      subst hss
      have key : ∀ (l m : List (List AV)), (∀ e ∈ l, e.length = s') → (∀ e ∈ m, e.length = s') → l.flatten = m.flatten → l = m := by
        intro l
        induction l with
        | nil =>
          intro m _ hm he
          cases m with
          | nil => rfl
          | cons e m =>
            have := hm e (by simp)
            have h2 := congrArg List.length he
            simp only [List.flatten_nil, List.flatten_cons, List.length_append, List.length_nil] at h2
            omega
        | cons e l ih =>
          intro m hl hm he
          have q1 := hl e (by simp)
          cases m with
          | nil =>
            have h2 := congrArg List.length he
            simp only [List.flatten_nil, List.flatten_cons, List.length_append, List.length_nil] at h2
            omega
          | cons f m =>
            have q2 := hm f (by simp)
            simp only [List.flatten_cons] at he
            obtain ⟨e1, e2⟩ := List.append_inj he (by omega)
            rw [e1, ih m (fun e he => hl e (by simp [he])) (fun e he => hm e (by simp [he])) e2]
      have e3 := key _ (x :: xs) (fun e he => h6 e (List.mem_of_mem_take he)) (fun e he => (hf e he).1) e2
      obtain ⟨ver', esz', elems⟩ := r
      simp only at h2 h3 e3 h6 h4 h5
      subst h2 h3
      refine ⟨n, ver', elems.drop len, by rw [h7], by simp, ?_, fun e he => h6 e (List.mem_of_mem_drop he), fun i e j x he hx => ?_⟩
      · rw [h1, ← e3, List.take_append_drop]
      · refine h4 (len + i) e j x ?_ hx
        simpa [List.getElem?_drop] using he
  | slo n ver pre sp ys h1 h2 h3 h4 h5 h6 =>
    cases h6
    cases ys with
    | nil => exact .inl ⟨rfl, fun c => .slo n ver pre sp [] h1 h2 h3 h4 h5 .nil, .inr ⟨n, ver, _, rfl, rfl⟩⟩
    | cons y ys =>
      have := (hf [.int .i64 y] (by simp)).1
      simp at this
      omega
theorem own_row_mk {n : Nm} {ver s : Nat} {xs sp : List (List AV)} (h : rows n = some ⟨ver, s, xs ++ sp⟩) (hf : ∀ e ∈ xs, e.length = s ∧ ∀ x ∈ e, flatc x = true) (h1 : ∀ e ∈ sp, e.length = s) (h2 : ClRow ⟨ver, s, sp⟩) : Own rows c [.sl n ver 0 xs.length] [.tr c xs] [n] := by
  refine own_row h (by simp) rfl (fun e he => ?_) (fun e he => (hf e he).2) (fun i e j x he hx => ?_)
  · rcases List.mem_append.1 he with he | he
    · exact (hf e he).1
    · exact h1 e he
  · simp only at he
    by_cases hi : i < xs.length
    · rw [List.getElem?_append_left hi] at he
      exact flatc_cl ((hf e (List.mem_of_getElem? he)).2 x (List.mem_of_getElem? hx))
    · rw [List.getElem?_append_right (by omega)] at he
      exact h2 _ e j x he hx
end

section
variable {h h' : Hp} {bs : Bx} {os : Ox} {n : Nm} {r r' : Row} {T : Nat} {v v' : AV} {t t' : Bool → AV} {ns ns' : List Nm}
theorem Cx.bperm {bs' : Bx} (c : Cx h bs os) (hp : bs.Perm bs') : Cx h bs' os := by
  have hp2 : (nms bs os).Perm (nms bs' os) := List.Perm.append_right _ (hp.map _)
  exact ⟨fun x hx => c.box x (hp.mem_iff.2 hx), c.own, hp2.nodup_iff.1 c.nd, fun m hm => c.lt m (hp2.mem_iff.2 hm)⟩
theorem Cx.box_set1 {x : Nm × Row} (c : Cx h (x :: (n, r) :: bs) os) : Cx (h.put n r') (x :: (n, r') :: bs) os := ((c.bperm (List.Perm.swap _ _ _)).box_set (r' := r')).bperm (List.Perm.swap _ _ _)
theorem Cx.box_set2 {x y : Nm × Row} (c : Cx h (x :: y :: (n, r) :: bs) os) : Cx (h.put n r') (x :: y :: (n, r') :: bs) os := ((c.bperm (List.perm_middle (l₁ := [x, y]))).box_set (r' := r')).bperm (List.perm_middle (l₁ := [x, y])).symm
theorem Cx.nodup2 (c : Cx h bs ((v, t, ns) :: (v', t', ns') :: os)) : (ns ++ ns').Nodup := by
  have nd := c.nd
  simp only [nms, List.map_cons, List.flatten_cons] at nd
  rw [List.nodup_append] at nd
  have nd := nd.2.1
  rw [← List.append_assoc] at nd
  exact (List.nodup_append.1 nd).1
end
theorem ownV_pair {rows : Nm → Option Row} {v : AV} {t : Bool → AV} {ok : Bool} {ns : List Nm} (o : ∀ b, OwnV rows b v (.tup [t b, .bool ok]) ns) : ∃ v', v = .tup [v', .bool ok] ∧ ∀ b, OwnV rows b v' (t b) ns := by
  have one : ∀ b, ∃ v', v = .tup [v', .bool ok] ∧ OwnV rows b v' (t b) ns := fun b => by
    have h := o b
    generalize hu : AV.tup [t b, .bool ok] = u at h
    cases h with
    | one h => subst hu; cases h
    | agg h => cases hu
    | @tup2 a t1 a' t2 ns1 ns2 h1 h2 =>
      cases hu
      cases h2 with
      | one h2 => cases h2 with
        | bool _ h2 => cases h2; exact ⟨a, rfl, by simpa using h1⟩
  obtain ⟨v', e, _⟩ := one true
  refine ⟨v', e, fun b => ?_⟩
  obtain ⟨v'', e', h⟩ := one b
  rw [e] at e'
  cases e'
  exact h
theorem own_of {rows : Nm → Option Row} {c : Bool} {v t : AV} {ns : List Nm} (h : OwnV rows c v t ns) (ht : t.one = true) : Own rows c [v] [t] ns := by
  cases h with
  | one h => exact h
  | agg h => cases ht
  | tup2 => cases ht
theorem own_one' {rows : Nm → Option Row} {c b : Bool} {a : AV} {l : List (List AV)} {ns : List Nm} (h : Own rows c [a] [.tr b l] ns) : a.one = true ∧ a.stored = true ∧ a.cells = [a] := by
  cases h <;> exact ⟨rfl, rfl, rfl⟩
end Go.Proofs.YtmcmgeedhbgglaaGreatDoor.AM

namespace Go.Proofs.YtmcmgeedhbgglaaGreatDoor.AM
open Go.RowKit

/-- A guard's test. -/
def gq (b want : Bool) : Bool := b == want
@[simp] theorem stored_ints (b : Bool) (xs : List Int) : (ints b xs).stored = true := rfl
@[simp] theorem cells_ints (b : Bool) (xs : List Int) : (ints b xs).cells = [ints b xs] := rfl
@[simp] theorem stored_intss (b : Bool) (xs : List (List Int)) : (intss b xs).stored = true := rfl
@[simp] theorem cells_intss (b : Bool) (xs : List (List Int)) : (intss b xs).cells = [intss b xs] := rfl
/-- What a guarded operation leaves. -/
def gv (c : Bool) (x : AV) : AV := match c with | true => x | false => .tup []
@[simp] theorem gv_true (x : AV) : gv true x = x := (by cases x <;> first | exact Eq.refl _ | rfl)
@[simp] theorem gv_false (x : AV) : gv false x = .tup [] := (by cases x <;> first | exact Eq.refl _ | rfl)

/-- A guard's value is 'want' if 'c' is true, another or none if it is not. -/
def GdC (x : AV) (want : Bool) (c : Bool) : Prop := (c = true → x = .bool want) ∧ (c = false → x = .bool (!want) ∨ x = .tup [])
def GdM (x : AV) (want : Bool) (k : Bool → Prop) : Prop := ∃ c, GdC x want c ∧ k c
theorem gm_bool {b want : Bool} {k : Bool → Prop} (w : k (gq b want)) : GdM (.bool b) want k := ⟨_, ⟨fun e => by simp [gq] at e; rw [e], fun e => .inl (by cases b <;> cases want <;> simp_all [gq])⟩, w⟩
theorem gm_gv {b c want : Bool} {k : Bool → Prop} (w : k (c && gq b want)) : GdM (gv c (.bool b)) want k :=
  ⟨_, ⟨fun e => by simp [gq] at e; obtain ⟨rfl, rfl⟩ := e; rfl, fun e => by cases c <;> cases b <;> cases want <;> simp_all [gq]⟩, w⟩

section
variable {P : Program} {M : FuncId → Mode} {C : CS} {σ : Nat → AV} {h : Hp} {all : Array Oper} {T i : Nat} {rest : List Oper} {N : (Nat → AV) → Hp → Prop} {dst : Option Tmp} {ty : TypeId} {pos : String} {aft : Array Edge} {W : Nm → Bool} {rows0 : Nm → Option Row} {op : Op} {j : Nat} {want : Bool}

theorem ct_id {g : FuncId} {as' : List AV} {N : AV → Hp → Prop} (w : callW M C g as' h N) : callW M C g as' h N := w
theorem tw_id {g : FuncId} {as' : List AV} {rows : Nm → Option Row} {t : Nat} {N : AV → Prop} (w : treeW C g rows as' t N) : treeW C g rows as' t N := w
theorem wanted_of {c : Bool} (hc : GdC (gdv all σ j) want c) : wantedA all σ ⟨dst, op, ty, pos, aft, some (j, want)⟩ = some c := by
  obtain ⟨h1, h2⟩ := hc
  unfold gdv at h1 h2
  unfold wantedA
  simp only
  cases ha : all[j]? with
  | none => rw [ha] at h1 h2; cases c <;> simp_all
  | some o' =>
    rw [ha] at h1 h2
    simp only at h1 h2 ⊢
    cases hd : o'.dst with
    | none => rw [hd] at h1 h2; cases c <;> simp_all
    | some d =>
      rw [hd] at h1 h2
      simp only at h1 h2 ⊢
      cases c with
      | true => rw [h1 rfl]; simp
      | false => rcases h2 rfl with e | e <;> rw [e] <;> cases want <;> rfl

theorem st_gm (w : At (gdv all σ j) fun x => GdM x want fun c => ∃ v, (c = true → evQ P (opd σ) h.rows op = some v) ∧ wpOps P M C all T rest (i + 1) (putA dst (gv c v) σ) h N) :
    wpOps P M C all T (⟨dst, op, ty, pos, aft, some (j, want)⟩ :: rest) i σ h N := by
  obtain ⟨c, hc, v, w1, w2⟩ := w
  cases c with
  | true => exact st_yes (wanted_of hc) (st_q (by rw [w1 rfl]; exact ev_some (by simpa using w2)))
  | false => exact st_no (wanted_of hc) (by simpa using w2)
theorem fr_gm (w : At (gdv all σ j) fun x => GdM x want fun c => ∃ v, (c = true → evQ P (opd σ) (maskR T W rows0) op = some v) ∧ frontW P M C all T W rows0 rest (i + 1) (putA dst (gv c v) σ) h N) :
    frontW P M C all T W rows0 (⟨dst, op, ty, pos, aft, some (j, want)⟩ :: rest) i σ h N := by
  obtain ⟨c, hc, v, w1, w2⟩ := w
  cases c with
  | true => exact fr_yes (wanted_of hc) (fr_q (by rw [w1 rfl]; exact ev_some (by simpa using w2)))
  | false => exact fr_no (wanted_of hc) (by simpa using w2)

/-- A guarded call that yields a tree. -/
theorem st_gmc {args : Array Operand} {ts : Array TypeId} {g : FuncId} (w : At (gdv all σ j) fun x => GdM x want fun c => ∃ as' targs r, (c = true → args.toList.map (opd σ) = as') ∧ M g = .tree ∧ Pure P g targs r ∧ (c = true → DRs true h.rows as' targs) ∧ wpOps P M (Sound P) all T rest (i + 1) (putA dst (gv c r) σ) h N) :
    wpOps P M (Sound P) all T (⟨dst, .call ⟨.value (.func g), args, ts⟩, ty, pos, aft, some (j, want)⟩ :: rest) i σ h N := by
  obtain ⟨c, hc, as', targs, r, w1, w2, w3, w4, w5⟩ := w
  cases c with
  | true => exact st_yes (wanted_of hc) (st_c (by rw [w1 rfl]; exact st_tree w2 w3 (w4 rfl) (by simpa using w5)))
  | false => exact st_no (wanted_of hc) (by simpa using w5)
theorem fr_gmc {args : Array Operand} {ts : Array TypeId} {g : FuncId} (w : At (gdv all σ j) fun x => GdM x want fun c => ∃ as' targs r, (c = true → args.toList.map (opd σ) = as') ∧ Pure P g targs r ∧ (c = true → DRs true (maskR T W rows0) as' targs) ∧ frontW P M (Sound P) all T W rows0 rest (i + 1) (putA dst (gv c r) σ) h N) :
    frontW P M (Sound P) all T W rows0 (⟨dst, .call ⟨.value (.func g), args, ts⟩, ty, pos, aft, some (j, want)⟩ :: rest) i σ h N := by
  obtain ⟨c, hc, as', targs, r, w1, w3, w4, w5⟩ := w
  cases c with
  | true => exact fr_yes (wanted_of hc) (fr_c (by rw [w1 rfl]; exact treeW_pure w3 (w4 rfl) (by simpa using w5)))
  | false => exact fr_no (wanted_of hc) (by simpa using w5)
/-- A guarded call of a function value. -/
theorem st_gmv {t : Tmp} {args : Array Operand} {ts : Array TypeId} (w : At (gdv all σ j) fun x => GdM x want fun c => ∃ g cap as' targs r, (c = true → opd σ (.tmp t) = .fn g cap) ∧ (c = true → args.toList.map (opd σ) = as') ∧ M g = .tree ∧ Pure P g targs r ∧ (c = true → DRs true h.rows (as' ++ cap) targs) ∧ wpOps P M (Sound P) all T rest (i + 1) (putA dst (gv c r) σ) h N) :
    wpOps P M (Sound P) all T (⟨dst, .call ⟨.value (.tmp t), args, ts⟩, ty, pos, aft, some (j, want)⟩ :: rest) i σ h N := by
  obtain ⟨c, hc, g, cap, as', targs, r, w0, w1, w2, w3, w4, w5⟩ := w
  cases c with
  | true => exact st_yes (wanted_of hc) (st_cv (by unfold At; rw [w0 rfl, w1 rfl]; exact st_tree w2 w3 (w4 rfl) (by simpa using w5)))
  | false => exact st_no (wanted_of hc) (by simpa using w5)
end

@[simp] theorem pickA_true (x y : AV) : pickA true x y = x := by unfold pickA; simp
@[simp] theorem pickA_false (x y : AV) : pickA false x y = y := by unfold pickA; simp
@[simp] theorem pickA_gt {b : Bool} {x y : AV} : pickA b (gv (gq b true) x) y = pickA b x y := by cases b <;> simp [gq]
@[simp] theorem pickA_gf {b : Bool} {x y : AV} : pickA b x (gv (gq b false) y) = pickA b x y := by cases b <;> simp [gq]
@[simp] theorem pickA_and {b p : Bool} : pickA b (.bool p) (.bool false) = .bool (b && p) := by cases b <;> simp
@[simp] theorem pickA_or {b p : Bool} : pickA b (.bool true) (.bool p) = .bool (b || p) := by cases b <;> simp
end Go.Proofs.YtmcmgeedhbgglaaGreatDoor.AM

namespace Go.Proofs.YtmcmgeedhbgglaaGreatDoor.AM
open Go.RowKit

@[simp] theorem ne_add2 (a : Nat) : (a = a + 1 + 1) = False := by simp only [eq_iff_iff, iff_false]; omega
@[simp] theorem ne_dda2 (a : Nat) : (a + 1 + 1 = a) = False := by simp only [eq_iff_iff, iff_false]; omega
@[simp] theorem lt_add2 (a : Nat) : (a < a + 1 + 1) = True := by simp only [eq_iff_iff, iff_true]; omega
@[simp] theorem ne_add3 (a : Nat) : (a = a + 1 + 1 + 1) = False := by simp only [eq_iff_iff, iff_false]; omega
@[simp] theorem ne_dda3 (a : Nat) : (a + 1 + 1 + 1 = a) = False := by simp only [eq_iff_iff, iff_false]; omega
@[simp] theorem lt_add3 (a : Nat) : (a < a + 1 + 1 + 1) = True := by simp only [eq_iff_iff, iff_true]; omega
@[simp] theorem ne_add4 (a : Nat) : (a = a + 1 + 1 + 1 + 1) = False := by simp only [eq_iff_iff, iff_false]; omega
@[simp] theorem ne_dda4 (a : Nat) : (a + 1 + 1 + 1 + 1 = a) = False := by simp only [eq_iff_iff, iff_false]; omega
@[simp] theorem lt_add4 (a : Nat) : (a < a + 1 + 1 + 1 + 1) = True := by simp only [eq_iff_iff, iff_true]; omega
@[simp] theorem ne_add5 (a : Nat) : (a = a + 1 + 1 + 1 + 1 + 1) = False := by simp only [eq_iff_iff, iff_false]; omega
@[simp] theorem ne_dda5 (a : Nat) : (a + 1 + 1 + 1 + 1 + 1 = a) = False := by simp only [eq_iff_iff, iff_false]; omega
@[simp] theorem lt_add5 (a : Nat) : (a < a + 1 + 1 + 1 + 1 + 1) = True := by simp only [eq_iff_iff, iff_true]; omega
@[simp] theorem ne_add6 (a : Nat) : (a = a + 1 + 1 + 1 + 1 + 1 + 1) = False := by simp only [eq_iff_iff, iff_false]; omega
@[simp] theorem ne_dda6 (a : Nat) : (a + 1 + 1 + 1 + 1 + 1 + 1 = a) = False := by simp only [eq_iff_iff, iff_false]; omega
@[simp] theorem lt_add6 (a : Nat) : (a < a + 1 + 1 + 1 + 1 + 1 + 1) = True := by simp only [eq_iff_iff, iff_true]; omega
@[simp] theorem ne_add7 (a : Nat) : (a = a + 1 + 1 + 1 + 1 + 1 + 1 + 1) = False := by simp only [eq_iff_iff, iff_false]; omega
@[simp] theorem ne_dda7 (a : Nat) : (a + 1 + 1 + 1 + 1 + 1 + 1 + 1 = a) = False := by simp only [eq_iff_iff, iff_false]; omega
@[simp] theorem lt_add7 (a : Nat) : (a < a + 1 + 1 + 1 + 1 + 1 + 1 + 1) = True := by simp only [eq_iff_iff, iff_true]; omega
@[simp] theorem ne_add8 (a : Nat) : (a = a + 1 + 1 + 1 + 1 + 1 + 1 + 1 + 1) = False := by simp only [eq_iff_iff, iff_false]; omega
@[simp] theorem ne_dda8 (a : Nat) : (a + 1 + 1 + 1 + 1 + 1 + 1 + 1 + 1 = a) = False := by simp only [eq_iff_iff, iff_false]; omega
@[simp] theorem lt_add8 (a : Nat) : (a < a + 1 + 1 + 1 + 1 + 1 + 1 + 1 + 1) = True := by simp only [eq_iff_iff, iff_true]; omega
@[simp] theorem ne_add9 (a : Nat) : (a = a + 1 + 1 + 1 + 1 + 1 + 1 + 1 + 1 + 1) = False := by simp only [eq_iff_iff, iff_false]; omega
@[simp] theorem ne_dda9 (a : Nat) : (a + 1 + 1 + 1 + 1 + 1 + 1 + 1 + 1 + 1 = a) = False := by simp only [eq_iff_iff, iff_false]; omega
@[simp] theorem lt_add9 (a : Nat) : (a < a + 1 + 1 + 1 + 1 + 1 + 1 + 1 + 1 + 1) = True := by simp only [eq_iff_iff, iff_true]; omega
@[simp] theorem ne_add10 (a : Nat) : (a = a + 1 + 1 + 1 + 1 + 1 + 1 + 1 + 1 + 1 + 1) = False := by simp only [eq_iff_iff, iff_false]; omega
@[simp] theorem ne_dda10 (a : Nat) : (a + 1 + 1 + 1 + 1 + 1 + 1 + 1 + 1 + 1 + 1 = a) = False := by simp only [eq_iff_iff, iff_false]; omega
@[simp] theorem lt_add10 (a : Nat) : (a < a + 1 + 1 + 1 + 1 + 1 + 1 + 1 + 1 + 1 + 1) = True := by simp only [eq_iff_iff, iff_true]; omega
@[simp] theorem ne_add11 (a : Nat) : (a = a + 1 + 1 + 1 + 1 + 1 + 1 + 1 + 1 + 1 + 1 + 1) = False := by simp only [eq_iff_iff, iff_false]; omega
@[simp] theorem ne_dda11 (a : Nat) : (a + 1 + 1 + 1 + 1 + 1 + 1 + 1 + 1 + 1 + 1 + 1 = a) = False := by simp only [eq_iff_iff, iff_false]; omega
@[simp] theorem lt_add11 (a : Nat) : (a < a + 1 + 1 + 1 + 1 + 1 + 1 + 1 + 1 + 1 + 1 + 1) = True := by simp only [eq_iff_iff, iff_true]; omega

theorem appendA_snoc {P : Program} {t : TypeId} {m n k : Nm} {v vk s len : Nat} {h : Hp} {l : List (List AV)} {e : List AV} (h0 : ((telem P t).bind fun e => (tsz P e).bind fun s => (tby P e).bind fun bb => (tzero P e).bind fun z => some (s, decide (0 < s ∧ bb ≤ 32768 ∧ z.length = s))) = some (s, true))
    (hr : h.rows m = some ⟨v, s, l⟩) (hlen : l.length = len) (hk : h.rows k = some ⟨vk, s, [e]⟩) (he : e.length = s) (hl : len + 1 ≤ 4294967296) (hm : decide (m.1 < h.tick) = true) :
    appendA P t (.sl m v 0 len) (.sl k vk 0 1) h n = some (.sl m (v + 1) 0 (len + 1), h.put m ⟨v + 1, s, l ++ [e]⟩) := by
  simp only [Option.bind_eq_some_iff] at h0
  obtain ⟨e', he', s', hs, bb, hb, z, hz, hd⟩ := h0
  simp only [Option.some.injEq, Prod.mk.injEq, decide_eq_true_eq] at hd
  obtain ⟨e1, hd1, hd2, hd3⟩ := hd
  rw [e1] at hs hd1 hd3
  have hnot : ¬ l.length + 1 ≤ l.length := by omega
  subst hlen
  unfold appendA
  have hsrc : srcElems h.rows (.sl k vk 0 1) = some [e] := by simp [srcElems, hk]
  rw [he', hsrc]
  simp only [hs, hb, hz]
  simp [he, hd1, hd2, hd3, hr, hl, of_decide_eq_true hm, hnot]

theorem app_names_ot {B : Array Nat} {T i : Nat} {W : Nm → Bool} {m k : Nm} {v o l v' o' l' : Nat} (h1 : ¬ m.1 = T) (h2 : W m = true) (h3 : k.1 = T) (h4 : befB B i k.2.1 = true) (h5 : k.2.2 = 0) : appNames B T i W (.sl m v o l) (.sl k v' o' l') := by
  unfold appNames
  exact ⟨by simp only; rw [if_neg h1]; exact h2, by simp only; rw [if_pos h3]; exact ⟨h4, h5⟩⟩

section
variable {h h' : Hp} {bs : Bx} {os : Ox} {n : Nm} {r r' : Row} {T : Nat} {v v' : AV} {t t' : Bool → AV} {ns ns' : List Nm}
theorem Cx.add_own (c : Cx h bs os) (o : ∀ b, OwnV h'.rows b v (t b) ns) (d : ns.Nodup) (f : ∀ n ∈ ns, n ∉ nms bs os ∧ n.1 < h'.tick) (p : ∀ n, n ∈ nms bs os → h'.rows n = h.rows n) (q : h.tick ≤ h'.tick) : Cx h' bs ((v, t, ns) :: os) := by
  refine ⟨fun x hx => by rw [p _ (mem_box hx)]; exact c.box x hx, fun x hx b => ?_, ?_, fun m hm => ?_⟩
  · simp only [List.mem_cons] at hx
    rcases hx with rfl | hx
    · exact o b
    · exact (c.own x hx b).congr fun m hm => p m (mem_own hx hm)
  · simp only [nms, List.map_cons, List.flatten_cons]
    exact nodup_mid c.nd d fun x hx => ⟨fun e => (f x hx).1 (by simp only [nms, List.mem_append]; exact .inl e), fun e => (f x hx).1 (by simp only [nms, List.mem_append]; exact .inr e)⟩
  · simp only [nms, List.map_cons, List.flatten_cons, List.mem_append] at hm
    rcases hm with hm | hm | hm
    · have := c.lt m (by simp only [nms, List.mem_append]; exact .inl hm); omega
    · exact (f m hm).2
    · have := c.lt m (by simp only [nms, List.mem_append]; exact .inr hm); omega
/-- A new row of whole numbers, filled behind it. -/
theorem Cx.new_ints (c : Cx h bs os) (z : Off T bs os) {i ver : Nat} {xs : List Int} (ht : T < h.tick) : Cx ((h.put (T, i, 0) r).put (T, i, 0) ⟨ver, 1, xs.map fun n => [.int .i64 n]⟩) bs ((.sl (T, i, 0) ver 0 xs.length, fun b => ints b xs, [(T, i, 0)]) :: os) := by
  have hno : (T, i, 0) ∉ nms bs os := fun e => z _ e rfl
  refine c.add_own (fun b => .one (own_ints (ys := xs) (by simp [hp_rows_put]) List.take_length rfl)) (by simp) (fun n hn => by simp at hn; subst hn; exact ⟨hno, by simpa [hp_put_tick] using ht⟩) (fun n hn => ?_) (by simp [hp_put_tick])
  have hne : n ≠ (T, i, 0) := fun e => hno (e ▸ hn)
  simp [hp_rows_put, hne]
theorem nin_new (h1 : n ∉ nms bs os) (h2 : n ∉ ns) : n ∉ nms bs ((v, t, ns) :: os) := by
  simp only [nms, List.map_cons, List.flatten_cons, List.mem_append, not_or] at *
  exact ⟨h1.1, h2, h1.2⟩
theorem nin_agg {w : AV} {t'' : Bool → AV} (h1 : n ∉ nms bs ((v', t', ns') :: os)) (h2 : n ∉ ns) : n ∉ nms bs ((w, t'', ns' ++ ns) :: os) := by
  simp only [nms, List.map_cons, List.flatten_cons, List.mem_append, not_or] at *
  exact ⟨h1.1, ⟨h1.2.1, h2⟩, h1.2.2⟩
theorem Cx.put_junk (c : Cx h bs os) (hn : n ∉ nms bs os) : Cx (h.put n r) bs os :=
  ⟨fun x hx => by rw [hp_rows_put, if_neg (fun e => hn (by rw [← e]; exact mem_box hx))]; exact c.box x hx,
   fun x hx b => (c.own x hx b).congr fun m hm => by rw [hp_rows_put, if_neg (fun e => hn (by rw [← e]; exact mem_own hx hm))],
   c.nd, fun m hm => by rw [hp_put_tick]; exact c.lt m hm⟩
/-- Values behind one another. -/
theorem Cx.agg_snoc {as' : List AV} {ts : Bool → List AV} (c : Cx h bs ((v, t, ns) :: (.agg as', (fun b => .agg (ts b)), ns') :: os)) (h1 : ∀ b, (t b).one = true) : Cx h bs ((.agg (as' ++ [v]), (fun b => .agg (ts b ++ [t b])), ns' ++ ns) :: os) := by
  refine ⟨c.box, fun x hx b => ?_, ?_, fun m hm => c.lt m ?_⟩
  · simp only [List.mem_cons] at hx
    rcases hx with rfl | hx
    · have o1 := own_of (c.o0 b) (h1 b)
      have o2 := c.o1 b
      generalize hu : AV.agg (ts b) = u at o2
      cases o2 with
      | one h => subst hu; cases h
      | agg o2 =>
        cases hu
        exact .agg (o2.append o1)
    · exact c.own x (by simp [hx]) b
  · have nd := c.nd
    simp only [nms, List.map_cons, List.flatten_cons] at nd ⊢
    rw [← List.append_assoc ns ns' _] at nd
    refine (List.Perm.nodup_iff ?_).1 nd
    exact List.Perm.append_left _ (List.Perm.append_right _ List.perm_append_comm)
  · simp only [nms, List.map_cons, List.flatten_cons, List.mem_append] at hm ⊢
    rcases hm with hm | (hm | hm) | hm
    · exact .inl hm
    · exact .inr (.inr (.inl hm))
    · exact .inr (.inl hm)
    · exact .inr (.inr (.inr hm))
theorem Cx.agg_nil (c : Cx h bs os) : Cx h bs ((.agg [], (fun b => .agg []), []) :: os) := ⟨c.box, fun x hx b => by
    simp only [List.mem_cons] at hx
    rcases hx with rfl | hx
    · exact .agg .nil
    · exact c.own x hx b, by simpa [nms] using c.nd, fun m hm => c.lt m (by simpa [nms] using hm)⟩
end
theorem cx_wpt {P : Program} {M : FuncId → Mode} {C : CS} {D : Array Oper → (Nat → AV) → Hp → ((Nat → AV) → Hp → Prop) → Prop} {σ : Nat → AV} {K : Ex → (Nat → AV) → Hp → Prop} {code : Code} {h : Hp} {bs : Bx} {os : Ox} (c : Cx h bs os) (k : ∀ h', Cx h' bs os → h'.tick = h.tick → wpC P M C D code σ h' K) : wpC P M C D code σ h K := k h c rfl
end Go.Proofs.YtmcmgeedhbgglaaGreatDoor.AM

namespace Go.Proofs.YtmcmgeedhbgglaaGreatDoor.AM
open Go.RowKit

section
variable {P : Program} {M : FuncId → Mode} {C : CS} {D : Array Oper → (Nat → AV) → Hp → ((Nat → AV) → Hp → Prop) → Prop} {σ : Nat → AV} {h h' : Hp} {K : Ex → (Nat → AV) → Hp → Prop}
variable {all : Array Oper} {T i : Nat} {o : Oper} {rest : List Oper} {N : (Nat → AV) → Hp → Prop} {v : AV} {dst : Option Tmp} {op : Op} {ty : TypeId} {pos : String} {aft : Array Edge}

/-! Regions that draw, lazily -/
theorem st_lz {id : Nat} {ops : List Oper} (hd : lazyOk ops.toArray = true) (w : lazyW P M C ops.toArray h.tick (ops.length + 1) [] [] false σ h.next (fun σ' h' => K .normal σ' h')) : wpC P M C (drawW2 P M C) (.region id ops.toArray true) σ h K := .inr (.inr ⟨hd, w⟩)
variable {ops : Array Oper} {n : Nat} {dn : List Nat} {pn pn2 : List (Nat × Row)} {q : Bool} {h1 : Hp}
theorem la_id (w : lazyW P M C ops T n dn pn q σ h N) : lazyW P M C ops T n dn pn q σ h N := w
/-- The pending rows that an operation sees, and the others. -/
def BrkK (B : Array Nat) (T i : Nat) (pn : List (Nat × Row)) (h : Hp) (k : List (Nat × Row) → Hp → Prop) : Prop := k (pn.filter fun p => !befB B i p.1) (plusL T (pn.filter fun p => befB B i p.1) h)
theorem bk_nil {B : Array Nat} {k : List (Nat × Row) → Hp → Prop} (w : k [] h) : BrkK B T i [] h k := w
theorem bk_t {B : Array Nat} {j : Nat} {r : Row} {k : List (Nat × Row) → Hp → Prop} (hb : befB B i j = true) (w : BrkK B T i pn h fun l h1 => k l (h1.put (T, j, 0) r)) : BrkK B T i ((j, r) :: pn) h k := by
  unfold BrkK at *
  rw [List.filter_cons_of_neg (by simp [hb]), List.filter_cons_of_pos (by simpa using hb)]
  exact w
theorem bk_f {B : Array Nat} {j : Nat} {r : Row} {k : List (Nat × Row) → Hp → Prop} (hb : befB B i j = false) (w : BrkK B T i pn h fun l h1 => k ((j, r) :: l) h1) : BrkK B T i ((j, r) :: pn) h k := by
  unfold BrkK at *
  rw [List.filter_cons_of_pos (by simp [hb]), List.filter_cons_of_neg (by simp [hb])]
  exact w
def PlK (T : Nat) (pn : List (Nat × Row)) (h : Hp) (k : Hp → Prop) : Prop := k (plusL T pn h)
theorem pl_nil {k : Hp → Prop} (w : k h) : PlK T [] h k := w
theorem pl_cons {j : Nat} {r : Row} {k : Hp → Prop} (w : PlK T pn h fun h1 => k (h1.put (T, j, 0) r)) : PlK T ((j, r) :: pn) h k := w
theorem la_end (hl : (readyL ops dn).isEmpty = true) (w : PlK T pn h fun h1 => N σ h1) : lazyW P M C ops T (n + 1) dn pn q σ h N := .inl ⟨List.isEmpty_iff.1 hl, w⟩
theorem frm_s (hs : (isStill M op || isApp op) = true) : frmOk M ops pn i op = true := by unfold frmOk; rw [hs]; rfl
theorem frm_a (ha : pn.all (fun p => befB (Region.before ops) i p.1) = true) : frmOk M ops pn i op = true := by unfold frmOk; rw [ha, Bool.or_true]
theorem fa_nil {B : Array Nat} : ([] : List (Nat × Row)).all (fun p => befB B i p.1) = true := rfl
theorem fa_cons {B : Array Nat} {j : Nat} {r : Row} (hb : befB B i j = true) (w : pn.all (fun p => befB B i p.1) = true) : ((j, r) :: pn).all (fun p => befB B i p.1) = true := by simp only [List.all_cons, hb, w, Bool.and_self]
/-- One of these goes first. -/
def pickL (l : List Nat) (P : Program) (M : FuncId → Mode) (C : CS) (ops : Array Oper) (T n : Nat) (D : List Nat) (pn : List (Nat × Row)) (q : Bool) (σ : Nat → AV) (h : Hp) (K : (Nat → AV) → Hp → Prop) : Prop :=
  ∃ i ∈ l, ∃ o, ops[i]? = some o ∧ ((wantedA ops σ o = some false ∧ lazyW P M C ops T n (i :: D) pn q (putA o.dst (.tup []) σ) h K) ∨ (wantedA ops σ o = some true ∧
      ((∃ v, evQ P (opd σ) (fun _ => none) o.op = some v ∧ lazyW P M C ops T n (i :: D) pn q (putA o.dst v σ) h K) ∨
       (∃ v, quietsOk true M ops D i = true ∧ evQ P (opd σ) (maskR T (fun _ => false) h.rows) o.op = some v ∧ lazyW P M C ops T n (i :: D) pn true (putA o.dst v σ) h K) ∨
       (∃ v, quietsOk false M ops D i = true ∧ evQ P (opd σ) (plusL T (pn.filter fun p => befB (Region.before ops) i p.1) h).rows o.op = some v ∧ lazyW P M C ops T n (i :: D) pn q (putA o.dst v σ) h K) ∨
       (∃ v r, newA P (T, i, 0) (opd σ) o.op = some (v, r) ∧ lazyW P M C ops T n (i :: D) ((i, r) :: pn) q (putA o.dst v σ) h K))))
theorem la_pick (w : pickL (readyL ops dn) P M C ops T n dn pn q σ h N) : lazyW P M C ops T (n + 1) dn pn q σ h N := by
  obtain ⟨i, hi, o, ho, w⟩ := w
  exact .inr (.inl ⟨i, o, ho, hi, w⟩)
theorem la_there {l : List Nat} (w : pickL l P M C ops T n dn pn q σ h N) : pickL (i :: l) P M C ops T n dn pn q σ h N := by
  obtain ⟨j, hj, w⟩ := w
  exact ⟨j, by simp [hj], w⟩
theorem la_q0 {l : List Nat} (ho : ops[i]? = some ⟨dst, op, ty, pos, aft, none⟩) (w : Ev (evQ P (opd σ) (fun _ => none) op) fun v => lazyW P M C ops T n (i :: dn) pn q (putA dst v σ) h N) : pickL (i :: l) P M C ops T n dn pn q σ h N := by
  refine ⟨i, by simp, _, ho, .inr ⟨rfl, .inl ?_⟩⟩
  cases he : evQ P (opd σ) (fun _ => none) op with
  | none => rw [he] at w; exact w.elim
  | some v => rw [he] at w; exact ⟨v, rfl, w⟩
theorem la_q1 {l : List Nat} (ho : ops[i]? = some ⟨dst, op, ty, pos, aft, none⟩) (hq : quietsOk true M ops dn i = true) (w : Ev (evQ P (opd σ) (maskR T (fun _ => false) h.rows) op) fun v => lazyW P M C ops T n (i :: dn) pn true (putA dst v σ) h N) : pickL (i :: l) P M C ops T n dn pn q σ h N := by
  refine ⟨i, by simp, _, ho, .inr ⟨rfl, .inr (.inl ?_)⟩⟩
  cases he : evQ P (opd σ) (maskR T (fun _ => false) h.rows) op with
  | none => rw [he] at w; exact w.elim
  | some v => rw [he] at w; exact ⟨v, hq, rfl, w⟩
theorem la_q2 {l : List Nat} (ho : ops[i]? = some ⟨dst, op, ty, pos, aft, none⟩) (hq : quietsOk false M ops dn i = true) (w : BrkK (Region.before ops) T i pn h fun _ h1 => Ev (evQ P (opd σ) h1.rows op) fun v => lazyW P M C ops T n (i :: dn) pn q (putA dst v σ) h N) : pickL (i :: l) P M C ops T n dn pn q σ h N := by
  refine ⟨i, by simp, _, ho, .inr ⟨rfl, .inr (.inr (.inl ?_))⟩⟩
  unfold BrkK at w
  simp only at w
  cases he : evQ P (opd σ) (plusL T (pn.filter fun p => befB (Region.before ops) i p.1) h).rows op with
  | none => rw [he] at w; exact w.elim
  | some v => rw [he] at w; exact ⟨v, hq, rfl, w⟩
theorem la_n {l : List Nat} (ho : ops[i]? = some ⟨dst, op, ty, pos, aft, none⟩) (hm : isNew op = true) (w : EvN (newA P (T, i, 0) (opd σ) op) fun v r => lazyW P M C ops T n (i :: dn) ((i, r) :: pn) q (putA dst v σ) h N) : pickL (i :: l) P M C ops T n dn pn q σ h N := by
  refine ⟨i, by simp, _, ho, .inr ⟨rfl, .inr (.inr (.inr ?_))⟩⟩
  cases he : newA P (T, i, 0) (opd σ) op with
  | none => rw [he] at w; exact w.elim
  | some x => obtain ⟨v, r⟩ := x; rw [he] at w; exact ⟨v, r, rfl, w⟩
theorem la_g0 {l : List Nat} {j : Nat} {want : Bool} (ho : ops[i]? = some ⟨dst, op, ty, pos, aft, some (j, want)⟩) (w : At (gdv ops σ j) fun x => Gd want x (Ev (evQ P (opd σ) (fun _ => none) op) fun v => lazyW P M C ops T n (i :: dn) pn q (putA dst v σ) h N) (lazyW P M C ops T n (i :: dn) pn q (putA dst (.tup []) σ) h N)) : pickL (i :: l) P M C ops T n dn pn q σ h N := by
  have hdv : ∀ b, gdv ops σ j = .bool b → wantedA ops σ ⟨dst, op, ty, pos, aft, some (j, want)⟩ = some (b == want) := by
    intro b hb
    unfold gdv at hb
    unfold wantedA
    simp only
    split at hb
    · rename_i o' ho'
      rw [ho']
      simp only
      split at hb
      · rename_i d hd
        rw [hd]
        simp only [hb]
      · cases hb
    · cases hb
  have hdn : gdv ops σ j = .tup [] → wantedA ops σ ⟨dst, op, ty, pos, aft, some (j, want)⟩ = some false := by
    intro hb
    unfold gdv at hb
    unfold wantedA
    simp only
    split at hb
    · rename_i o' ho'
      rw [ho']
      simp only
      split at hb
      · rename_i d hd
        rw [hd]
        simp only [hb]
      · cases hb
    · cases hb
  refine ⟨i, by simp, _, ho, ?_⟩
  unfold At at w
  generalize hx : gdv ops σ j = x at w
  unfold Gd at w
  split at w
  · rename_i b
    have := hdv b hx
    by_cases hb : b = want
    · subst hb
      simp only [beq_self_eq_true] at this
      refine .inr ⟨this, .inl ?_⟩
      have w1 := w.1 rfl
      cases he : evQ P (opd σ) (fun _ => none) op with
      | none => rw [he] at w1; exact w1.elim
      | some v => rw [he] at w1; exact ⟨v, rfl, w1⟩
    · have hbf : (b == want) = false := by simp [hb]
      rw [hbf] at this
      exact .inl ⟨this, w.2 hb⟩
  · exact .inl ⟨hdn hx, w⟩
  · exact w.elim
theorem la_all (hl : (readyL ops dn).isEmpty = false) (w : allW (readyL ops dn) fun i => ∃ o, ops[i]? = some o ∧ frmOk M ops pn i o.op = true ∧ (q = true → appT T σ o.op) ∧
      wpOps P M C ops T [o] i σ (plusL T (pn.filter fun p => befB (Region.before ops) i p.1) h) (fun σ' h' => lazyW P M C ops T n (i :: dn) (pn.filter fun p => !befB (Region.before ops) i p.1) q σ' h' N)) : lazyW P M C ops T (n + 1) dn pn q σ h N :=
  .inr (.inr ⟨fun e => (by rw [e] at hl; cases hl), w⟩)
theorem la_op {i : Nat} {gd : Option (Nat × Bool)} (ho : ops[i]? = some ⟨dst, op, ty, pos, aft, gd⟩) (hf : frmOk M ops pn i op = true) (ha : q = true → appT T σ op) (w : BrkK (Region.before ops) T i pn h fun pn2 h1 => wpOps P M C ops T [⟨dst, op, ty, pos, aft, gd⟩] i σ h1 (fun σ' h' => lazyW P M C ops T n (i :: dn) pn2 q σ' h' N)) :
    ∃ o, ops[i]? = some o ∧ frmOk M ops pn i o.op = true ∧ (q = true → appT T σ o.op) ∧
      wpOps P M C ops T [o] i σ (plusL T (pn.filter fun p => befB (Region.before ops) i p.1) h) (fun σ' h' => lazyW P M C ops T n (i :: dn) (pn.filter fun p => !befB (Region.before ops) i p.1) q σ' h' N) :=
  ⟨_, ho, hf, ha, w⟩

end
end Go.Proofs.YtmcmgeedhbgglaaGreatDoor.AM

namespace Go.Proofs.YtmcmgeedhbgglaaGreatDoor.AM
open Go.RowKit

/-- Steps that look at no value. -/
class Stp (G : Prop) (G' : outParam Prop) : Prop where
  h : G' → G
theorem stp {G G' : Prop} [s : Stp G G'] (w : G') : G := s.h w
/-- Values looked at. -/
class Evp (G : Prop) (G' : outParam Prop) : Prop where
  h : G' → G
theorem evp {G G' : Prop} [s : Evp G G'] (w : G') : G := s.h w
instance {P : Program} {M : FuncId → Mode} {C : CS} {D : Array Oper → (Nat → AV) → Hp → ((Nat → AV) → Hp → Prop) → Prop} {a : Code} {b : Code} {σ : Nat → AV} {h : Hp} {K : Ex → (Nat → AV) → Hp → Prop} : Stp (wpC P M C D (.seq a b) σ h K) (wpC P M C D a σ h (KSeq P M C D b K)) := ⟨fun w => st_seq w⟩
instance {P : Program} {M : FuncId → Mode} {C : CS} {D : Array Oper → (Nat → AV) → Hp → ((Nat → AV) → Hp → Prop) → Prop} {id : Nat} {ops : List Oper} {σ : Nat → AV} {h : Hp} {K : Ex → (Nat → AV) → Hp → Prop} : Stp (wpC P M C D (.region id ops.toArray false) σ h K) (wpOps P M C ops.toArray h.tick ops 0 σ h.next (fun σ_ h_ => K .normal σ_ h_)) := ⟨fun w => st_reg w⟩
instance {P : Program} {M : FuncId → Mode} {C : CS} {D : Array Oper → (Nat → AV) → Hp → ((Nat → AV) → Hp → Prop) → Prop} {id : Nat} {a : Code} {σ : Nat → AV} {h : Hp} {K : Ex → (Nat → AV) → Hp → Prop} : Stp (wpC P M C D (.block id a) σ h K) (wpC P M C D a σ h (KBlk id K)) := ⟨fun w => st_block w⟩
instance {P : Program} {M : FuncId → Mode} {C : CS} {all : Array Oper} {T : Nat} {i : Nat} {σ : Nat → AV} {h : Hp} {N : (Nat → AV) → Hp → Prop} : Stp (wpOps P M C all T [] i σ h N) (N σ h) := ⟨fun w => st_nil w⟩
instance {P : Program} {M : FuncId → Mode} {C : CS} {D : Array Oper → (Nat → AV) → Hp → ((Nat → AV) → Hp → Prop) → Prop} {σ : Nat → AV} {h : Hp} {K : Ex → (Nat → AV) → Hp → Prop} : Stp (wpC P M C D .skip σ h K) (K .normal σ h) := ⟨fun w => st_skip w⟩
instance {P : Program} {M : FuncId → Mode} {C : CS} {D : Array Oper → (Nat → AV) → Hp → ((Nat → AV) → Hp → Prop) → Prop} {σ : Nat → AV} {h : Hp} {K : Ex → (Nat → AV) → Hp → Prop} : Stp (wpC P M C D .ret σ h K) (K .ret σ h) := ⟨fun w => st_ret w⟩
instance {P : Program} {M : FuncId → Mode} {C : CS} {D : Array Oper → (Nat → AV) → Hp → ((Nat → AV) → Hp → Prop) → Prop} {id : Nat} {σ : Nat → AV} {h : Hp} {K : Ex → (Nat → AV) → Hp → Prop} : Stp (wpC P M C D (.exit id) σ h K) (K (.exit id) σ h) := ⟨fun w => st_exit w⟩
instance {P : Program} {M : FuncId → Mode} {C : CS} {all : Array Oper} {T : Nat} {W : Nm → Bool} {rows0 : Nm → Option Row} {i : Nat} {σ : Nat → AV} {h : Hp} {N : (Nat → AV) → Hp → Prop} : Stp (frontW P M C all T W rows0 [] i σ h N) (N σ h) := ⟨fun w => fr_nil w⟩
instance {P : Program} {M : FuncId → Mode} {C : CS} {D : Array Oper → (Nat → AV) → Hp → ((Nat → AV) → Hp → Prop) → Prop} {b : Code} {K : Ex → (Nat → AV) → Hp → Prop} {σ : Nat → AV} {h : Hp} : Stp (KSeq P M C D b K .ret σ h) (K .ret σ h) := ⟨fun w => k_seq_r w⟩
instance {P : Program} {M : FuncId → Mode} {C : CS} {D : Array Oper → (Nat → AV) → Hp → ((Nat → AV) → Hp → Prop) → Prop} {b : Code} {K : Ex → (Nat → AV) → Hp → Prop} {id : Nat} {σ : Nat → AV} {h : Hp} : Stp (KSeq P M C D b K (.exit id) σ h) (K (.exit id) σ h) := ⟨fun w => k_seq_e w⟩
instance {id : Nat} {K : Ex → (Nat → AV) → Hp → Prop} {σ : Nat → AV} {h : Hp} : Stp (KBlk id K .normal σ h) (K .normal σ h) := ⟨fun w => k_blk_n w⟩
instance {id : Nat} {K : Ex → (Nat → AV) → Hp → Prop} {σ : Nat → AV} {h : Hp} : Stp (KBlk id K .ret σ h) (K .ret σ h) := ⟨fun w => k_blk_r w⟩
instance {id : Nat} {K : Ex → (Nat → AV) → Hp → Prop} {σ : Nat → AV} {h : Hp} : Stp (KBlk id K (.exit id) σ h) (K .normal σ h) := ⟨fun w => k_blk_s w⟩
instance {P : Program} {fn : Func} {KF : AV → Hp → Prop} {σ : Nat → AV} {h : Hp} : Stp (KFn P fn KF .ret σ h) (resW P fn h σ KF) := ⟨fun w => k_fn_r w⟩
instance {P : Program} {fn : Func} {KF : AV → Hp → Prop} {σ : Nat → AV} {h : Hp} : Stp (KFn P fn KF .normal σ h) (resW P fn h σ KF) := ⟨fun w => k_fn_n w⟩
instance {K : Ex → (Nat → AV) → Hp → Prop} {σ : Nat → AV} {h : Hp} {α : Type} {I : α → (Nat → AV) → Hp → Prop} {m : α → Nat} {a0 : α} : Stp (@KLp α I m a0 K .ret σ h) (K .ret σ h) := ⟨fun w => k_lp_r w⟩
instance {K : Ex → (Nat → AV) → Hp → Prop} {id : Nat} {σ : Nat → AV} {h : Hp} {α : Type} {I : α → (Nat → AV) → Hp → Prop} {m : α → Nat} {a0 : α} : Stp (@KLp α I m a0 K (.exit id) σ h) (K (.exit id) σ h) := ⟨fun w => k_lp_e w⟩
instance {P : Program} {M : FuncId → Mode} {C : CS} {D : Array Oper → (Nat → AV) → Hp → ((Nat → AV) → Hp → Prop) → Prop} {x : Operand} {a : Code} {b : Code} {σ : Nat → AV} {h : Hp} {K : Ex → (Nat → AV) → Hp → Prop} : Stp (wpC P M C D (.cond x a b) σ h K) (At (opd σ x) fun v_ => Br v_ (wpC P M C D a σ h K) (wpC P M C D b σ h K)) := ⟨fun w => st_if w⟩
instance {P : Program} {fn : Func} {h : Hp} {σ : Nat → AV} {KF : AV → Hp → Prop} : Stp (resW P fn h σ KF) (Ev (resA P h σ fn.results.toList) fun vs_ => KF (resV vs_) h) := ⟨fun w => st_res w⟩
instance {P : Program} {M : FuncId → Mode} {C : CS} {all : Array Oper} {T : Nat} {dst : Option Tmp} {op : Op} {ty : TypeId} {pos : String} {aft : Array Edge} {j : Nat} {want : Bool} {rest : List Oper} {i : Nat} {σ : Nat → AV} {h : Hp} {N : (Nat → AV) → Hp → Prop} : Stp (wpOps P M C all T (⟨dst, op, ty, pos, aft, some (j, want)⟩ :: rest) i σ h N) (At (gdv all σ j) fun x_ => Gd want x_ (wpOps P M C all T (⟨dst, op, ty, pos, aft, none⟩ :: rest) i σ h N) (wpOps P M C all T rest (i + 1) (putA dst (.tup []) σ) h N)) := ⟨fun w => st_g w⟩
instance {P : Program} {M : FuncId → Mode} {C : CS} {all : Array Oper} {T : Nat} {dst : Option Tmp} {x : Operand} {ty : TypeId} {pos : String} {aft : Array Edge} {rest : List Oper} {i : Nat} {σ : Nat → AV} {h : Hp} {N : (Nat → AV) → Hp → Prop} : Stp (wpOps P M C all T (⟨dst, .move x, ty, pos, aft, none⟩ :: rest) i σ h N) (At (opd σ x) fun v_ => wpOps P M C all T rest (i + 1) (putA dst v_ σ) h N) := ⟨fun w => st_move w⟩
instance {P : Program} {M : FuncId → Mode} {C : CS} {all : Array Oper} {T : Nat} {dst : Option Tmp} {x : Operand} {ty : TypeId} {pos : String} {aft : Array Edge} {rest : List Oper} {i : Nat} {σ : Nat → AV} {h : Hp} {N : (Nat → AV) → Hp → Prop} : Stp (wpOps P M C all T (⟨dst, .assign x, ty, pos, aft, none⟩ :: rest) i σ h N) (At (opd σ x) fun v_ => wpOps P M C all T rest (i + 1) (putA dst v_ σ) h N) := ⟨fun w => st_asg w⟩
instance {P : Program} {M : FuncId → Mode} {C : CS} {all : Array Oper} {T : Nat} {dst : Option Tmp} {g : FuncId} {args : Array Operand} {ts : Array TypeId} {ty : TypeId} {pos : String} {aft : Array Edge} {rest : List Oper} {i : Nat} {σ : Nat → AV} {h : Hp} {N : (Nat → AV) → Hp → Prop} : Stp (wpOps P M C all T (⟨dst, .call ⟨.value (.func g), args, ts⟩, ty, pos, aft, none⟩ :: rest) i σ h N) (At (args.toList.map (opd σ)) fun as_ => callW M C g as_ h (fun v_ h_ => wpOps P M C all T rest (i + 1) (putA dst v_ σ) h_ N)) := ⟨fun w => st_c w⟩
instance {P : Program} {M : FuncId → Mode} {C : CS} {all : Array Oper} {T : Nat} {dst : Option Tmp} {q : Tmp} {args : Array Operand} {ts : Array TypeId} {ty : TypeId} {pos : String} {aft : Array Edge} {rest : List Oper} {i : Nat} {σ : Nat → AV} {h : Hp} {N : (Nat → AV) → Hp → Prop} : Stp (wpOps P M C all T (⟨dst, .call ⟨.value (.tmp q), args, ts⟩, ty, pos, aft, none⟩ :: rest) i σ h N) (At (opd σ (.tmp q)) fun x_ => FnW x_ fun g_ cap_ => At (args.toList.map (opd σ) ++ cap_) fun vs_ => callW M C g_ vs_ h (fun v_ h_ => wpOps P M C all T rest (i + 1) (putA dst v_ σ) h_ N)) := ⟨fun w => st_cv w⟩
instance {P : Program} {M : FuncId → Mode} {C : CS} {all : Array Oper} {T : Nat} {dst : Option Tmp} {t : TypeId} {ty : TypeId} {pos : String} {aft : Array Edge} {rest : List Oper} {i : Nat} {σ : Nat → AV} {h : Hp} {N : (Nat → AV) → Hp → Prop} : Stp (wpOps P M C all T (⟨dst, .alloc t, ty, pos, aft, none⟩ :: rest) i σ h N) (Ev2 (memA P (T, i, 0) (opd σ) h (.alloc t)) fun v_ h_ => wpOps P M C all T rest (i + 1) (putA dst v_ σ) h_ N) := ⟨fun w => st_m rfl w⟩
instance {P : Program} {M : FuncId → Mode} {C : CS} {all : Array Oper} {T : Nat} {dst : Option Tmp} {t : TypeId} {x : Operand} {ty : TypeId} {pos : String} {aft : Array Edge} {rest : List Oper} {i : Nat} {σ : Nat → AV} {h : Hp} {N : (Nat → AV) → Hp → Prop} : Stp (wpOps P M C all T (⟨dst, .box t x, ty, pos, aft, none⟩ :: rest) i σ h N) (Ev2 (memA P (T, i, 0) (opd σ) h (.box t x)) fun v_ h_ => wpOps P M C all T rest (i + 1) (putA dst v_ σ) h_ N) := ⟨fun w => st_m rfl w⟩
instance {P : Program} {M : FuncId → Mode} {C : CS} {all : Array Oper} {T : Nat} {dst : Option Tmp} {t : TypeId} {n1 : Nat} {p1 : Array (Nat × Operand)} {ty : TypeId} {pos : String} {aft : Array Edge} {rest : List Oper} {i : Nat} {σ : Nat → AV} {h : Hp} {N : (Nat → AV) → Hp → Prop} : Stp (wpOps P M C all T (⟨dst, .buildSlice t n1 p1, ty, pos, aft, none⟩ :: rest) i σ h N) (Ev2 (memA P (T, i, 0) (opd σ) h (.buildSlice t n1 p1)) fun v_ h_ => wpOps P M C all T rest (i + 1) (putA dst v_ σ) h_ N) := ⟨fun w => st_m rfl w⟩
instance {P : Program} {M : FuncId → Mode} {C : CS} {all : Array Oper} {T : Nat} {dst : Option Tmp} {t : TypeId} {x : Operand} {y : Operand} {ty : TypeId} {pos : String} {aft : Array Edge} {rest : List Oper} {i : Nat} {σ : Nat → AV} {h : Hp} {N : (Nat → AV) → Hp → Prop} : Stp (wpOps P M C all T (⟨dst, .makeSlice t x y, ty, pos, aft, none⟩ :: rest) i σ h N) (Ev2 (memA P (T, i, 0) (opd σ) h (.makeSlice t x y)) fun v_ h_ => wpOps P M C all T rest (i + 1) (putA dst v_ σ) h_ N) := ⟨fun w => st_m rfl w⟩
instance {P : Program} {M : FuncId → Mode} {C : CS} {all : Array Oper} {T : Nat} {dst : Option Tmp} {t : TypeId} {x : Operand} {y : Operand} {ty : TypeId} {pos : String} {aft : Array Edge} {rest : List Oper} {i : Nat} {σ : Nat → AV} {h : Hp} {N : (Nat → AV) → Hp → Prop} : Stp (wpOps P M C all T (⟨dst, .store t x y, ty, pos, aft, none⟩ :: rest) i σ h N) (Ev2 (memA P (T, i, 0) (opd σ) h (.store t x y)) fun v_ h_ => wpOps P M C all T rest (i + 1) (putA dst v_ σ) h_ N) := ⟨fun w => st_m rfl w⟩
instance {P : Program} {M : FuncId → Mode} {C : CS} {all : Array Oper} {T : Nat} {dst : Option Tmp} {args : Array Operand} {ts : Array TypeId} {ty : TypeId} {pos : String} {aft : Array Edge} {rest : List Oper} {i : Nat} {σ : Nat → AV} {h : Hp} {N : (Nat → AV) → Hp → Prop} : Stp (wpOps P M C all T (⟨dst, .call ⟨.builtin .append, args, ts⟩, ty, pos, aft, none⟩ :: rest) i σ h N) (Ev2 (memA P (T, i, 0) (opd σ) h (.call ⟨.builtin .append, args, ts⟩)) fun v_ h_ => wpOps P M C all T rest (i + 1) (putA dst v_ σ) h_ N) := ⟨fun w => st_m rfl w⟩
instance {P : Program} {M : FuncId → Mode} {C : CS} {all : Array Oper} {T : Nat} {dst : Option Tmp} {args : Array Operand} {ts : Array TypeId} {ty : TypeId} {pos : String} {aft : Array Edge} {rest : List Oper} {i : Nat} {σ : Nat → AV} {h : Hp} {N : (Nat → AV) → Hp → Prop} : Stp (wpOps P M C all T (⟨dst, .call ⟨.builtin .copy, args, ts⟩, ty, pos, aft, none⟩ :: rest) i σ h N) (Ev2 (memA P (T, i, 0) (opd σ) h (.call ⟨.builtin .copy, args, ts⟩)) fun v_ h_ => wpOps P M C all T rest (i + 1) (putA dst v_ σ) h_ N) := ⟨fun w => st_m rfl w⟩
instance {P : Program} {M : FuncId → Mode} {C : CS} {all : Array Oper} {T : Nat} {dst : Option Tmp} {args : Array Operand} {ts : Array TypeId} {ty : TypeId} {pos : String} {aft : Array Edge} {rest : List Oper} {i : Nat} {σ : Nat → AV} {h : Hp} {N : (Nat → AV) → Hp → Prop} : Stp (wpOps P M C all T (⟨dst, .call ⟨.builtin .clear, args, ts⟩, ty, pos, aft, none⟩ :: rest) i σ h N) (Ev2 (memA P (T, i, 0) (opd σ) h (.call ⟨.builtin .clear, args, ts⟩)) fun v_ h_ => wpOps P M C all T rest (i + 1) (putA dst v_ σ) h_ N) := ⟨fun w => st_m rfl w⟩
instance (priority := low) {P : Program} {M : FuncId → Mode} {C : CS} {all : Array Oper} {T : Nat} {dst : Option Tmp} {op : Op} {ty : TypeId} {pos : String} {aft : Array Edge} {rest : List Oper} {i : Nat} {σ : Nat → AV} {h : Hp} {N : (Nat → AV) → Hp → Prop} : Stp (wpOps P M C all T (⟨dst, op, ty, pos, aft, none⟩ :: rest) i σ h N) (Ev (evQ P (opd σ) h.rows op) fun v_ => wpOps P M C all T rest (i + 1) (putA dst v_ σ) h N) := ⟨fun w => st_q w⟩
instance {P : Program} {M : FuncId → Mode} {C : CS} {all : Array Oper} {T : Nat} {W : Nm → Bool} {rows0 : Nm → Option Row} {dst : Option Tmp} {op : Op} {ty : TypeId} {pos : String} {aft : Array Edge} {j : Nat} {want : Bool} {rest : List Oper} {i : Nat} {σ : Nat → AV} {h : Hp} {N : (Nat → AV) → Hp → Prop} : Stp (frontW P M C all T W rows0 (⟨dst, op, ty, pos, aft, some (j, want)⟩ :: rest) i σ h N) (At (gdv all σ j) fun x_ => Gd want x_ (frontW P M C all T W rows0 (⟨dst, op, ty, pos, aft, none⟩ :: rest) i σ h N) (frontW P M C all T W rows0 rest (i + 1) (putA dst (.tup []) σ) h N)) := ⟨fun w => fr_g w⟩
instance {P : Program} {M : FuncId → Mode} {C : CS} {all : Array Oper} {T : Nat} {W : Nm → Bool} {rows0 : Nm → Option Row} {dst : Option Tmp} {g : FuncId} {args : Array Operand} {ts : Array TypeId} {ty : TypeId} {pos : String} {aft : Array Edge} {rest : List Oper} {i : Nat} {σ : Nat → AV} {h : Hp} {N : (Nat → AV) → Hp → Prop} : Stp (frontW P M C all T W rows0 (⟨dst, .call ⟨.value (.func g), args, ts⟩, ty, pos, aft, none⟩ :: rest) i σ h N) (At (args.toList.map (opd σ)) fun as_ => treeW C g (maskR T W rows0) as_ (T + 1) fun v_ => frontW P M C all T W rows0 rest (i + 1) (putA dst v_ σ) h N) := ⟨fun w => fr_c w⟩
instance {P : Program} {M : FuncId → Mode} {C : CS} {all : Array Oper} {T : Nat} {W : Nm → Bool} {rows0 : Nm → Option Row} {dst : Option Tmp} {q : Tmp} {args : Array Operand} {ts : Array TypeId} {ty : TypeId} {pos : String} {aft : Array Edge} {rest : List Oper} {i : Nat} {σ : Nat → AV} {h : Hp} {N : (Nat → AV) → Hp → Prop} : Stp (frontW P M C all T W rows0 (⟨dst, .call ⟨.value (.tmp q), args, ts⟩, ty, pos, aft, none⟩ :: rest) i σ h N) (At (opd σ (.tmp q)) fun x_ => FnW x_ fun g_ cap_ => At (args.toList.map (opd σ) ++ cap_) fun vs_ => treeW C g_ (maskR T W rows0) vs_ (T + 1) fun v_ => frontW P M C all T W rows0 rest (i + 1) (putA dst v_ σ) h N) := ⟨fun w => fr_cv w⟩
instance {P : Program} {M : FuncId → Mode} {C : CS} {all : Array Oper} {T : Nat} {W : Nm → Bool} {rows0 : Nm → Option Row} {dst : Option Tmp} {t : TypeId} {ty : TypeId} {pos : String} {aft : Array Edge} {rest : List Oper} {i : Nat} {σ : Nat → AV} {h : Hp} {N : (Nat → AV) → Hp → Prop} : Stp (frontW P M C all T W rows0 (⟨dst, .alloc t, ty, pos, aft, none⟩ :: rest) i σ h N) (EvN (newA P (T, i, 0) (opd σ) (.alloc t)) fun v_ r_ => frontW P M C all T W rows0 rest (i + 1) (putA dst v_ σ) (h.put (T, i, 0) r_) N) := ⟨fun w => fr_n rfl w⟩
instance {P : Program} {M : FuncId → Mode} {C : CS} {all : Array Oper} {T : Nat} {W : Nm → Bool} {rows0 : Nm → Option Row} {dst : Option Tmp} {t : TypeId} {x : Operand} {ty : TypeId} {pos : String} {aft : Array Edge} {rest : List Oper} {i : Nat} {σ : Nat → AV} {h : Hp} {N : (Nat → AV) → Hp → Prop} : Stp (frontW P M C all T W rows0 (⟨dst, .box t x, ty, pos, aft, none⟩ :: rest) i σ h N) (EvN (newA P (T, i, 0) (opd σ) (.box t x)) fun v_ r_ => frontW P M C all T W rows0 rest (i + 1) (putA dst v_ σ) (h.put (T, i, 0) r_) N) := ⟨fun w => fr_n rfl w⟩
instance {P : Program} {M : FuncId → Mode} {C : CS} {all : Array Oper} {T : Nat} {W : Nm → Bool} {rows0 : Nm → Option Row} {dst : Option Tmp} {t : TypeId} {n1 : Nat} {p1 : Array (Nat × Operand)} {ty : TypeId} {pos : String} {aft : Array Edge} {rest : List Oper} {i : Nat} {σ : Nat → AV} {h : Hp} {N : (Nat → AV) → Hp → Prop} : Stp (frontW P M C all T W rows0 (⟨dst, .buildSlice t n1 p1, ty, pos, aft, none⟩ :: rest) i σ h N) (EvN (newA P (T, i, 0) (opd σ) (.buildSlice t n1 p1)) fun v_ r_ => frontW P M C all T W rows0 rest (i + 1) (putA dst v_ σ) (h.put (T, i, 0) r_) N) := ⟨fun w => fr_n rfl w⟩
instance {P : Program} {M : FuncId → Mode} {C : CS} {all : Array Oper} {T : Nat} {W : Nm → Bool} {rows0 : Nm → Option Row} {dst : Option Tmp} {t : TypeId} {x : Operand} {y : Operand} {ty : TypeId} {pos : String} {aft : Array Edge} {rest : List Oper} {i : Nat} {σ : Nat → AV} {h : Hp} {N : (Nat → AV) → Hp → Prop} : Stp (frontW P M C all T W rows0 (⟨dst, .makeSlice t x y, ty, pos, aft, none⟩ :: rest) i σ h N) (EvN (newA P (T, i, 0) (opd σ) (.makeSlice t x y)) fun v_ r_ => frontW P M C all T W rows0 rest (i + 1) (putA dst v_ σ) (h.put (T, i, 0) r_) N) := ⟨fun w => fr_n rfl w⟩
instance {P : Program} {M : FuncId → Mode} {C : CS} {all : Array Oper} {T : Nat} {W : Nm → Bool} {rows0 : Nm → Option Row} {dst : Option Tmp} {x : Operand} {y : Operand} {t : TypeId} {ty : TypeId} {pos : String} {aft : Array Edge} {rest : List Oper} {i : Nat} {σ : Nat → AV} {h : Hp} {N : (Nat → AV) → Hp → Prop} : Stp (frontW P M C all T W rows0 (⟨dst, .call ⟨.builtin .append, ⟨[x, y]⟩, ⟨[t, t]⟩⟩, ty, pos, aft, none⟩ :: rest) i σ h N) (At (opd σ x) fun s_ => At (opd σ y) fun y_ => appNames (Region.before all) T i W s_ y_ ∧ Ev2 (appendA P t s_ y_ h (T, i, 0)) fun v_ h_ => frontW P M C all T W rows0 rest (i + 1) (putA dst v_ σ) h_ N) := ⟨fun w => fr_a w⟩
instance (priority := low) {P : Program} {M : FuncId → Mode} {C : CS} {all : Array Oper} {T : Nat} {W : Nm → Bool} {rows0 : Nm → Option Row} {dst : Option Tmp} {op : Op} {ty : TypeId} {pos : String} {aft : Array Edge} {rest : List Oper} {i : Nat} {σ : Nat → AV} {h : Hp} {N : (Nat → AV) → Hp → Prop} : Stp (frontW P M C all T W rows0 (⟨dst, op, ty, pos, aft, none⟩ :: rest) i σ h N) (Ev (evQ P (opd σ) (maskR T W rows0) op) fun v_ => frontW P M C all T W rows0 rest (i + 1) (putA dst v_ σ) h N) := ⟨fun w => fr_q w⟩
instance {α : Type} {v : α} {k : α → Prop} : Evp (At v k) (k v) := ⟨fun w => at_mk w⟩
instance {α : Type} {v : α} {k : α → Prop} : Evp (Ev (some v) k) (k v) := ⟨fun w => ev_some w⟩
instance {v : AV} {h : Hp} {kh : AV → Hp → Prop} : Evp (Ev2 (some (v, h)) kh) (kh v h) := ⟨fun w => ev2_some w⟩
instance {v : AV} {r : Row} {kr : AV → Row → Prop} : Evp (EvN (some (v, r)) kr) (kr v r) := ⟨fun w => evn_some w⟩
instance {g : FuncId} {cap : List AV} {kf : FuncId → List AV → Prop} : Evp (FnW (.fn g cap) kf) (kf g cap) := ⟨fun w => fn_mk w⟩
instance {k1 k2 : Prop} : Evp (Br (.bool true) k1 k2) (k1) := ⟨fun w => br_t w⟩
instance {k1 k2 : Prop} : Evp (Br (.bool false) k1 k2) (k2) := ⟨fun w => br_f w⟩
instance {k1 k2 : Prop} : Evp (Gd true (.bool true) k1 k2) (k1) := ⟨fun w => gd_tt w⟩
instance {k1 k2 : Prop} : Evp (Gd false (.bool false) k1 k2) (k1) := ⟨fun w => gd_ff w⟩
instance {k1 k2 : Prop} : Evp (Gd true (.bool false) k1 k2) (k2) := ⟨fun w => gd_tf w⟩
instance {k1 k2 : Prop} : Evp (Gd false (.bool true) k1 k2) (k2) := ⟨fun w => gd_ft w⟩
instance {want : Bool} {k1 k2 : Prop} : Evp (Gd want (.tup []) k1 k2) (k2) := ⟨fun w => gd_no w⟩

/-- A call of a function that yields a tree. -/
class Tcl (G : Prop) (P : outParam Program) (g : outParam FuncId) (rows : outParam (Nm → Option Row)) (args : outParam (List AV)) (K : outParam (AV → Prop)) (side : outParam Prop) : Prop where
  h : ∀ {targs : List AV} {r : AV}, side → Pure P g targs r → DRs true rows args targs → K r → G
instance {P : Program} {M : FuncId → Mode} {g : FuncId} {args : List AV} {h : Hp} {N : AV → Hp → Prop} : Tcl (callW M (Sound P) g args h N) P g h.rows args (fun r => N r h) ((M g).nh = true) := ⟨fun hm p d k => st_treeB hm p d k⟩
instance {P : Program} {g : FuncId} {rows : Nm → Option Row} {args : List AV} {t : Nat} {K : AV → Prop} : Tcl (treeW (Sound P) g rows args t K) P g rows args K (true = true) := ⟨fun _ p d k => treeW_pure p d k⟩
/-- What is asked of such a call. -/
def TG (P : Program) (g : FuncId) (rows : Nm → Option Row) (args : List AV) (K : AV → Prop) (side : Prop) : Prop := ∃ targs r, Pure P g targs r ∧ side ∧ DRs true rows args targs ∧ K r
theorem tcl {G : Prop} {P : Program} {g : FuncId} {rows : Nm → Option Row} {args : List AV} {K : AV → Prop} {side : Prop} [s : Tcl G P g rows args K side] (w : TG P g rows args K side) : G := by
  obtain ⟨targs, r, p, e, d, k⟩ := w
  exact s.h e p d k
theorem tg {P : Program} {g : FuncId} {rows : Nm → Option Row} {args targs : List AV} {K : AV → Prop} {side : Prop} {r : AV} (p : Pure P g targs r) (e : side) (d : DRs true rows args targs) (k : K r) : TG P g rows args K side := ⟨targs, r, p, e, d, k⟩
/-- What is known. -/
inductive Da (p : Prop) : Prop
  | mk : p → Da p
/-- Arguments as trees, by their form. -/
inductive Dq : Prop → Prop
  | nil {rows : Nm → Option Row} : Dq (DRs true rows [] [])
  | cons {rows : Nm → Option Row} {a t : AV} {as1 ts : List AV} : Dq (DR true rows a t) → Dq (DRs true rows as1 ts) → Dq (DRs true rows (a :: as1) (t :: ts))
  | int {rows : Nm → Option Row} {k : IntKind} {n : Int} : Dq (DR true rows (.int k n) (.int k n))
  | bool {rows : Nm → Option Row} {b : Bool} : Dq (DR true rows (.bool b) (.bool b))
  | str {rows : Nm → Option Row} {b : ByteArray} : Dq (DR true rows (.str b) (.str b))
  | nilsl {rows : Nm → Option Row} : Dq (DR true rows .nilsl (.tr true []))
  | nilp {rows : Nm → Option Row} : Dq (DR true rows .nilp .nilp)
  | ints {rows : Nm → Option Row} {b : Bool} {xs : List Int} : Dq (DR true rows (ints b xs) (ints true xs))
  | intss {rows : Nm → Option Row} {b : Bool} {xs : List (List Int)} : Dq (DR true rows (intss b xs) (intss true xs))
  | agg {rows : Nm → Option Row} {as1 ts : List AV} : Dq (DRs true rows as1 ts) → Dq (DR true rows (.agg as1) (.agg ts))
  | fn {rows : Nm → Option Row} {f : FuncId} {as1 ts : List AV} : Dq (DRs true rows as1 ts) → Dq (DR true rows (.fn f as1) (.fn f ts))
  | tptr {rows : Nm → Option Row} {b : Bool} {as1 ts : List AV} : Dq (DRs true rows as1 ts) → Dq (DR true rows (.tptr b as1) (.tptr true ts))
  | asm {p : Prop} : Da p → Dq p
theorem dq {p : Prop} (h : Dq p) : p := by
  induction h with
  | nil => exact .nil
  | cons _ _ h1 h2 => exact .cons h1 h2
  | int => exact .int _ _
  | bool => exact .bool _
  | str => exact .str _
  | nilsl => exact .nilsl
  | nilp => exact .nilp
  | ints => exact dr_ints (by simp) _
  | intss => exact dr_intss (by simp) _
  | agg _ h => exact .agg _ _ h.1 h.2
  | fn _ h => exact .fn _ _ _ h.1 h.2
  | tptr _ h => exact .tptr _ _ _ (by simp) h.1 h.2
  | asm h => cases h with
    | mk h => exact h
theorem apn {B : Array Nat} {T i : Nat} {W : Nm → Bool} {d x : AV} {k : Prop} (w : appNames B T i W d x) (u : k) : appNames B T i W d x ∧ k := ⟨w, u⟩
end Go.Proofs.YtmcmgeedhbgglaaGreatDoor.AM

set_option maxRecDepth 4000
namespace Go.Proofs.YtmcmgeedhbgglaaGreatDoor.AM
open Go.RowKit

section
variable {mu : Nm → Nat → Option Loc} {pr : Bool → Nat → Prop} {h : Hp} {w w' : World}
theorem ext_below (R : Rel mu pr h w) (B : Below w.heap.size w w') : Ext mu pr w.heap mu pr w'.heap :=
  ⟨fun _ _ _ h => h, fun _ _ h => h, fun c b hb => B.block b (R.lt c b hb), fun b arr ty fr hb => ⟨arr, fr, by rw [B.block b (Array.getElem?_eq_some_iff.1 hb).1]; exact hb, rfl⟩⟩
theorem Rel.below (R : Rel mu pr h w) (B : Below w.heap.size w w') : Rel mu pr h w' := by
  have X := ext_below R B
  refine ⟨fun n r hr => ?_, R.inj, R.fresh, R.vers, fun c b hb => Nat.lt_of_lt_of_le (R.lt c b hb) B.size, R.tab.ext X⟩
  obtain ⟨l, arr, ty, g1, g2, g3, g4, g5, g6⟩ := R.row n r hr
  exact ⟨l, arr, ty, g1, g2, by rw [B.block l.b (Array.getElem?_eq_some_iff.1 g3).1]; exact g3, g4, g5, g6.mono X⟩
theorem After.below (R : Rel mu pr h w) (B : Below w.heap.size w w') : After mu pr h w mu pr h w' :=
  ⟨R.below B, ext_below R B, ⟨B.os, B.tape, B.output, B.size⟩, fun b hb => .inl hb, fun b hb => hb, fun n _ hn => hn, Nat.le_refl _⟩
end
/-- A call of the library that leaves all that was there as it was. -/
theorem sound_lib {P : Program} {f : FuncId} {args : List AV} {h : Hp} {fn : Func} {r : AV} (h1 : P.funcs[f]? = some fn) (h2 : fn.body.isNone = false) (h3 : (fn.name == "runtime.NumGoroutine") = false)
    (hc : ∀ (mu : Nm → Nat → Option Loc) (pr : Bool → Nat → Prop) (w : World) (vs : List Value), Rel mu pr h w → VRs mu pr w.heap args vs → Calls P f vs.toArray w fun e w' => ∃ z, e = .returned z ∧ (∀ pr' hp, VR mu pr' hp r z) ∧ Below w.heap.size w w') :
    Sound P f args h fun v h' => v = r ∧ h' = h := by
  refine ⟨⟨fn, h1, h2, h3⟩, fun mu pr w vs R hv => (hc mu pr w vs R hv).mono ?_⟩
  rintro e w' ⟨z, rfl, hz, B⟩
  exact ⟨z, r, h, mu, pr, rfl, ⟨rfl, rfl⟩, hz _ _, After.below R B⟩
end Go.Proofs.YtmcmgeedhbgglaaGreatDoor.AM

namespace Go.Proofs.YtmcmgeedhbgglaaGreatDoor.AM
open Go.RowKit

/-- A number's decimal numeral. -/
def itoaT (n : Int) : ByteArray := ⟨(Go.Lib.itoa n).toArray⟩
/-- The digits of a number, none for 0. -/
def dd (u : Nat) : List UInt8 := if u = 0 then [] else Go.Lib.decDigits u
theorem dd_zero : dd 0 = [] := rfl
theorem dd_pos {u : Nat} (h : u ≠ 0) : dd u = dd (u / 10) ++ [UInt8.ofNat (48 + u % 10)] := by
  unfold dd
  rw [if_neg h]
  by_cases h10 : u < 10
  · rw [Go.Lib.decDigits, dif_pos h10, if_pos (by omega), Nat.mod_eq_of_lt h10]
    rfl
  · rw [Go.Lib.decDigits, dif_neg h10, if_neg (by omega)]
theorem itoa_zero : itoaT 0 = ⟨#[48]⟩ := by
  unfold itoaT Go.Lib.itoa
  rw [if_neg (by decide)]
  rw [Go.Lib.decDigits]
  rfl
theorem itoa_pos {n : Int} (h : 0 < n) : Go.Lib.itoa n = dd n.natAbs := by
  unfold Go.Lib.itoa dd
  rw [if_neg (by omega), if_neg (by omega)]
  congr 1
  omega
theorem itoa_neg {n : Int} (h : n < 0) : Go.Lib.itoa n = 45 :: dd n.natAbs := by
  unfold Go.Lib.itoa dd
  rw [if_pos h, if_neg (by omega)]
theorem dd_len : ∀ (k u : Nat), u < 10 ^ k → (dd u).length ≤ k
  | 0, u, h => by
    have : u = 0 := by simpa using h
    subst this
    exact Nat.le_refl _
  | k + 1, u, h => by
    by_cases h0 : u = 0
    · subst h0; exact Nat.zero_le _
    · rw [dd_pos h0, List.length_append]
      have := dd_len k (u / 10) (by rw [Nat.pow_succ] at h; omega)
      simp only [List.length_cons, List.length_nil]
      omega
theorem itoa_size {n : Int} (h0 : -9223372036854775808 ≤ n) (h1 : n ≤ 9223372036854775807) : (itoaT n).size ≤ 20 := by
  show (Go.Lib.itoa n).toArray.size ≤ 20
  rw [List.size_toArray]
  rcases Int.lt_trichotomy n 0 with h | h | h
  · rw [itoa_neg h]
    have := dd_len 19 n.natAbs (by omega)
    simp only [List.length_cons]
    omega
  · subst h
    have : (Go.Lib.itoa 0).length = 1 := by
      have := congrArg (fun b : ByteArray => b.data.toList.length) itoa_zero
      simpa [itoaT] using this
    omega
  · rw [itoa_pos h]
    have := dd_len 19 n.natAbs (by omega)
    omega
end Go.Proofs.YtmcmgeedhbgglaaGreatDoor.AM
