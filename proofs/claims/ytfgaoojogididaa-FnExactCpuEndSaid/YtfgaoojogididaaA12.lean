/-
  The A-machine, part 12: soundness of code and of calls.
-/
import Derived.Test.YtfgaoojogididaaA11
set_option linter.unusedVariables false
set_option linter.unusedSimpArgs false
namespace Go.Proofs.Ytfgaoojogididaa.AM
open Go.RowKit

section
variable {P : Program} {M : FuncId → Mode} {mu mu' : Nm → Nat → Option Loc} {pr pr' : Bool → Nat → Prop} {hp hp' : Array Obj} {h h' : Hp} {w w' : World}

/-- A call, over rows that stand for memory. -/
theorem callW_ok {g : FuncId} {args : List AV} {K : AV → Hp → Prop} (hw : callW M (Sound P) g args h K) (R : Rel mu pr h w) {vs : List Value} (hv : VRs mu pr w.heap args vs) :
    (∃ fn, P.funcs[g]? = some fn ∧ fn.body.isNone = false ∧ (fn.name == "runtime.NumGoroutine") = false) ∧
    Calls P g vs.toArray w fun e w' => ∃ z v h' mu' pr', e = .returned z ∧ K v h' ∧ VR mu' pr' w'.heap v z ∧ After mu pr h w mu' pr' h' w' := by
  unfold callW at hw
  split at hw
  · exact ⟨hw.1, hw.2 mu pr w vs R hv⟩
  · obtain ⟨targs, h1, h2, h3⟩ := hw
    refine ⟨h2, (h3 _ _ w vs (Rel.mt P w h.tick _ (prLent_lt R)) (h1.ok R hv)).mono ?_⟩
    rintro e w1 ⟨z, v, hc, mu1, pr1, rfl, ⟨hs, q1, q2, q3⟩, hvz, A⟩
    obtain ⟨mu', pr', g1, g2⟩ := fresh_after R A hvz q2 q1
    exact ⟨z, v, _, mu', pr', rfl, q3, g1, g2⟩
  · obtain ⟨targs, r, h1, ⟨h2, h3⟩, h4⟩ := hw
    refine ⟨h2, (h3 _ _ w vs (Rel.mt P w h.tick _ (prLent_lt R)) (h1.ok R hv)).mono ?_⟩
    rintro e w1 ⟨z, v, hc, mu1, pr1, rfl, hd, hvz, A⟩
    obtain ⟨pr', g1, g2⟩ := tree_after R A hvz hd
    exact ⟨z, r, h, mu, pr', rfl, h4, g1, g2⟩

/-- What an operation's run gives for 'Oper.wp'. -/
theorem Oper.wp_gives {o : Oper} {a : Act} {nx : Next} {z : Value} {next : Act → World → Prop} {Q : Exit → Act → World → Prop} (hr : (execOp a.eval o).run P w = .ok nx w') (hg : gives nx z) (hn : next (a.put o.dst z) w') : o.wp P a w next Q := by
  unfold Oper.wp
  rw [hr]
  rcases hg with rfl | ⟨rfl, rfl⟩
  · exact hn
  · exact hn

theorem stepW_ok {N : Nat} {n : Nm} {o : Oper} {σ : Nat → AV} {a : Act} {K : AV → Hp → Prop} {next : Act → World → Prop} {Q : Exit → Act → World → Prop} (hw : stepW P M (Sound P) n o σ h K) (E : EnvR mu pr w.heap σ a N) (R : Rel mu pr h w)
    (hfree : ∀ v, mu n v = none) (htick : n.1 < h.tick)
    (hnext : ∀ v z h' mu' pr' w', K v h' → VR mu' pr' w'.heap v z → AfterB n.1 mu pr h w mu' pr' h' w' → (∀ m, m.1 = n.1 → m ≠ n → (∀ v, mu m v = none) → ∀ v, mu' m v = none) → next (a.put o.dst z) w') : o.wp P a w next Q := by
  unfold stepW at hw
  split at hw
  case h_1 v hv =>
    obtain ⟨z, h1, h2⟩ := evQ_ok R E.opd hv
    exact Oper.wp_gives h1 (.inl rfl) (hnext v z h mu pr w hw h2 (.refl _ R) (fun m _ _ hf => hf))
  case h_2 =>
    split at hw
    case h_1 v h1 hv =>
      obtain ⟨mu', z, w', nx, g1, g2, g3, g4, g5⟩ := memA_ok R E.opd hfree htick hv
      exact Oper.wp_gives g1 g2 (hnext v z h1 mu' pr w' hw g3 ⟨g4.rel, g4.ext, g4.fr, g4.grow, g4.tru, fun m hm hf => g5 m (fun e => by rw [e] at hm; omega) hf, g4.tick⟩ (fun m _ hm hf => g5 m hm hf))
    case h_2 =>
      split at hw
      case h_2 => exact hw.elim
      case h_1 f args ts hop =>
        split at hw
        case h_2 => exact hw.elim
        case h_1 g cap hf =>
          have hv := E.opd f
          rw [hf] at hv
          obtain ⟨arr, hfe, hcap⟩ := hv.fn_inv
          have hargs := (VRs.of_map E.opd args.toList).append hcap
          obtain ⟨⟨fn, c1, c2, c3⟩, hcall⟩ := callW_ok hw R hargs
          have hrun : (execOp a.eval o).run P w = .ok (.enter g (args.toList.map a.eval ++ arr.toList).toArray) w := by
            have hm : args.map a.eval ++ arr = (args.toList.map a.eval ++ arr.toList).toArray := by apply Array.ext'; simp
            simp only [execOp, hop, resolve, hfe, Deferred.ofValue, Sem.run_bind, Sem.run_pure, Result.andThen_ok, invoke, callFunc, run_program, c1, c2, c3]
            simp [hm]
          unfold Oper.wp
          rw [hrun, Oper.upon_enter]
          refine hcall.mono ?_
          rintro e w1 ⟨z, v, h1, mu', pr', rfl, hk, hvz, A⟩
          exact hnext v z h1 mu' pr' w1 hk hvz (AfterB.lower (Nat.le_of_lt htick) A) (fun m hm _ hfm => A.names m (by rw [hm]; exact htick) hfm)

theorem Act.put_defers' (a : Act) (dst : Option Tmp) (v : Value) : (a.put dst v).defers = a.defers := by cases dst <;> rfl

theorem wpOps_ok {N : Nat} {all : Array Oper} (hall : ∀ (j : Nat) (o : Oper), all[j]? = some o → dstOk N o.dst = true) {T : Nat} {Q : Exit → Act → World → Prop} :
    ∀ (l : List Oper) (k : Nat) (σ : Nat → AV) (h : Hp) (K : (Nat → AV) → Hp → Prop) (mu : Nm → Nat → Option Loc) (pr : Bool → Nat → Prop) (w : World) (a : Act),
    (∀ j, l[j]? = all[k + j]?) → wpOps P M (Sound P) all T l k σ h K → EnvR mu pr w.heap σ a N → Rel mu pr h w → T < h.tick → (∀ i j v, k ≤ i → mu (T, i, j) v = none) →
    (∀ σ' h' mu' pr' w' a', K σ' h' → EnvR mu' pr' w'.heap σ' a' N → AfterB T mu pr h w mu' pr' h' w' → a'.defers = a.defers → Q .normal a' w') → Go.wpOps P all Q (List.range' k l.length) a w
  | [], k, σ, h, K, mu, pr, w, a, hl, hw, E, R, hT, hf, hQ => hQ σ h mu pr w a hw E (.refl _ R) rfl
  | o :: l, k, σ, h, K, mu, pr, w, a, hl, hw, E, R, hT, hf, hQ => by
    have ho : all[k]? = some o := by have := hl 0; simpa using this.symm
    have hl' : ∀ j, l[j]? = all[k + 1 + j]? := fun j => by rw [show k + 1 + j = k + (j + 1) by omega, ← hl (j + 1)]; rfl
    rw [List.length_cons, List.range'_succ]
    unfold Go.wpOps
    simp only [ho]
    unfold wpOps at hw
    split at hw
    case h_3 => exact hw.elim
    case h_1 hwt =>
      rw [wantedA_ok E hall hwt, if_pos rfl]
      left
      refine stepW_ok hw E R (fun v => hf k 0 v (Nat.le_refl k)) hT (fun v z h' mu' pr' w' hk hv A hfr => ?_)
      refine wpOps_ok hall l (k + 1) _ h' K mu' pr' w' _ hl' hk ((E.mono A.ext).put (hall k o ho) hv) A.rel (Nat.lt_of_lt_of_le hT A.tick) (fun i j v hi => ?_) (fun σ' h'' mu'' pr'' w'' a' hk' E' A' hd => ?_)
      · exact hfr (T, i, j) rfl (fun e => by cases e; omega) (fun v => hf i j v (by omega)) v
      · exact hQ σ' h'' mu'' pr'' w'' a' hk' E' (A.trans A') (hd.trans (Act.put_defers' _ _ _))
    case h_2 hwt =>
      rw [wantedA_ok E hall hwt, if_neg (by simp)]
      refine wpOps_ok hall l (k + 1) _ h K mu pr w _ hl' hw (E.put (hall k o ho) (VR.tup_mk .nil)) R hT (fun i j v hi => hf i j v (by omega)) (fun σ' h'' mu'' pr'' w'' a' hk' E' A' hd => ?_)
      exact hQ σ' h'' mu'' pr'' w'' a' hk' E' A' (hd.trans (Act.put_defers' _ _ _))

theorem Rel.next (R : Rel mu pr h w) : Rel mu pr h.next w := ⟨R.row, R.inj, fun t i j v ht => R.fresh t i j v (by have : h.tick + 1 ≤ t := ht; omega), R.vers, R.lt⟩

theorem After.trans {mu'' : Nm → Nat → Option Loc} {pr'' : Bool → Nat → Prop} {h'' : Hp} {w'' : World} (x : After mu pr h w mu' pr' h' w') (y : After mu' pr' h' w' mu'' pr'' h'' w'') : After mu pr h w mu'' pr'' h'' w'' :=
  AfterB.trans x (AfterB.lower x.tick y)

/-! ### Loops -/
/-- From the head of a loop's round on. -/
def LoopWp (P : Program) (c : Code) (Q : Exit → Act → World → Prop) (a : Act) (w : World) : Prop :=
  ∀ (b : Frame) (k : List Item) (cs : List Frame), ∃ e a' w', Q e a' w' ∧ Arrives P (lone (b.at a (.code c :: .inLoop c :: k)) cs w) b k cs e a' w'

theorem LoopWp.wp {c : Code} {Q : Exit → Act → World → Prop} {a : Act} (hl : LoopWp P c Q a w) : (Code.loop c).wp P Q a w := by
  intro b k cs
  obtain ⟨e, a', w', hq, harr⟩ := hl b k cs
  exact ⟨e, a', w', hq, .of_steps (.one step_loop) harr⟩

theorem LoopWp.round {c : Code} {Q : Exit → Act → World → Prop} {a : Act} (hl : c.wp P (Exit.then (LoopWp P c Q) Q) a w) : LoopWp P c Q a w := by
  intro b k cs
  obtain ⟨e, a₁, w₁, hq, harr⟩ := hl b (.inLoop c :: k) cs
  cases e with
  | normal =>
    obtain ⟨e₂, a₂, w₂, hq₂, harr₂⟩ := hq b k cs
    exact ⟨e₂, a₂, w₂, hq₂, .of_steps (Steps.trans harr (.one step_inLoop)) harr₂⟩
  | exit id => exact ⟨_, a₁, w₁, hq, .pass (x := .inLoop c) rfl (fun _ _ => .inl (by simp)) harr⟩
  | goto l => exact ⟨_, a₁, w₁, hq, .pass (x := .inLoop c) rfl (fun _ _ => .inl (by simp)) harr⟩
  | ret => exact ⟨_, a₁, w₁, hq, .pass (x := .inLoop c) rfl (fun _ _ => .inl (by simp)) harr⟩
  | panic ch => exact ⟨_, a₁, w₁, hq, .pass (x := .inLoop c) rfl (fun _ _ => .inl (by simp)) harr⟩
  | outgrown => exact ⟨_, a₁, w₁, hq, .pass (x := .inLoop c) rfl (fun _ _ => .inl (by simp)) harr⟩

def exOf : Ex → Exit
  | .normal => .normal
  | .exit id => .exit id
  | .ret => .ret

/-- What a region that draws its order asks is enough. -/
def DrawOk (P : Program) (D : Array Oper → (Nat → AV) → Hp → ((Nat → AV) → Hp → Prop) → Prop) : Prop :=
  ∀ (id : Nat) (ops : Array Oper) (σ : Nat → AV) (h : Hp) (K : (Nat → AV) → Hp → Prop) (N : Nat), D ops σ h K → (∀ (j : Nat) (o : Oper), ops[j]? = some o → dstOk N o.dst = true) →
  ∀ (mu : Nm → Nat → Option Loc) (pr : Bool → Nat → Prop) (w : World) (a : Act) (Q : Exit → Act → World → Prop), EnvR mu pr w.heap σ a N → Rel mu pr h w →
  (∀ σ' h' mu' pr' w' a', K σ' h' → EnvR mu' pr' w'.heap σ' a' N → After mu pr h w mu' pr' h' w' → a'.defers = a.defers → Q .normal a' w') → (Code.region id ops true).wp P Q a w

theorem wpC_ok {D : Array Oper → (Nat → AV) → Hp → ((Nat → AV) → Hp → Prop) → Prop} (hD : DrawOk P D) {N : Nat} : ∀ (c : Code) (σ : Nat → AV) (h : Hp) (K : Ex → (Nat → AV) → Hp → Prop), wpC P M (Sound P) D c σ h K → codeOk N c = true →
    ∀ (mu : Nm → Nat → Option Loc) (pr : Bool → Nat → Prop) (w : World) (a : Act) (Q : Exit → Act → World → Prop), EnvR mu pr w.heap σ a N → Rel mu pr h w →
    (∀ e σ' h' mu' pr' w' a', K e σ' h' → EnvR mu' pr' w'.heap σ' a' N → After mu pr h w mu' pr' h' w' → a'.defers = a.defers → Q (exOf e) a' w') → c.wp P Q a w := by
  intro c
  induction c with
  | skip => intro σ h K hw _ mu pr w a Q E R hQ; exact wp_skip (hQ .normal σ h mu pr w a hw E (.refl _ R) rfl)
  | exit id => intro σ h K hw _ mu pr w a Q E R hQ; exact wp_exit (hQ (.exit id) σ h mu pr w a hw E (.refl _ R) rfl)
  | ret => intro σ h K hw _ mu pr w a Q E R hQ; exact wp_ret (hQ .ret σ h mu pr w a hw E (.refl _ R) rfl)
  | region id ops d =>
    intro σ h K hw hc mu pr w a Q E R hQ
    have hall : ∀ (j : Nat) (o : Oper), ops[j]? = some o → dstOk N o.dst = true := by
      intro j o ho
      have := List.all_eq_true.1 hc o (by rw [← Array.getElem?_toList] at ho; exact List.mem_of_getElem? ho)
      exact this
    cases d
    · refine wp_region ?_
      have h1 := wpOps_ok (Q := Q) hall ops.toList 0 σ h.next _ mu pr w a (fun j => by simp) hw E R.next (Nat.lt_succ_self _) (fun i j v _ => R.fresh h.tick i j v (Nat.le_refl _)) (fun σ' h' mu' pr' w' a' hk E' A hd =>
        hQ .normal σ' h' mu' pr' w' a' hk E' ⟨A.rel, A.ext, A.fr, A.grow, A.tru, A.names, Nat.le_trans (Nat.le_succ _) A.tick⟩ hd)
      rw [List.range_eq_range']
      simpa using h1
    · exact hD id ops σ h _ N hw hall mu pr w a Q E R (fun σ' h' mu' pr' w' a' hk E' A hd => hQ .normal σ' h' mu' pr' w' a' hk E' A hd)
  | seq x y ihx ihy =>
    intro σ h K hw hc mu pr w a Q E R hQ
    simp only [codeOk, Bool.and_eq_true] at hc
    refine wp_seq (ihx σ h _ hw hc.1 mu pr w a _ E R (fun e σ' h' mu' pr' w' a' hk E' A hd => ?_))
    cases e with
    | normal => exact ihy σ' h' K hk hc.2 mu' pr' w' a' Q E' A.rel (fun e σ'' h'' mu'' pr'' w'' a'' hk' E'' A' hd' => hQ e σ'' h'' mu'' pr'' w'' a'' hk' E'' (A.trans A') (hd'.trans hd))
    | exit id => exact hQ (.exit id) σ' h' mu' pr' w' a' hk E' A hd
    | ret => exact hQ .ret σ' h' mu' pr' w' a' hk E' A hd
  | cond c x y ihx ihy =>
    intro σ h K hw hc mu pr w a Q E R hQ
    simp only [codeOk, Bool.and_eq_true] at hc
    simp only [wpC] at hw
    split at hw
    case h_2 => exact hw.elim
    case h_1 t ht =>
      have hv := E.opd c
      rw [ht] at hv
      generalize hz : a.eval c = z at hv
      cases hv
      refine wp_cond hz ?_
      split at hw
      · rename_i htt
        rw [if_pos htt]
        exact ihx σ h K hw hc.1 mu pr w a Q E R hQ
      · rename_i htt
        rw [if_neg htt]
        exact ihy σ h K hw hc.2 mu pr w a Q E R hQ
  | block id x ihx =>
    intro σ h K hw hc mu pr w a Q E R hQ
    refine wp_block (ihx σ h _ hw hc mu pr w a _ E R (fun e σ' h' mu' pr' w' a' hk E' A hd => ?_))
    cases e with
    | normal => exact hQ .normal σ' h' mu' pr' w' a' hk E' A hd
    | exit j =>
      simp only [exOf, Exit.inBlock]
      simp only at hk
      split at hk
      · rename_i hj
        rw [if_pos hj]
        exact hQ .normal σ' h' mu' pr' w' a' hk E' A hd
      · rename_i hj
        rw [if_neg hj]
        exact hQ (.exit j) σ' h' mu' pr' w' a' hk E' A hd
    | ret => exact hQ .ret σ' h' mu' pr' w' a' hk E' A hd
  | loop x ihx =>
    intro σ h K hw hc mu pr w a Q E R hQ
    have key := hw (fun σ h => ∀ (mu : Nm → Nat → Option Loc) (pr : Bool → Nat → Prop) (w : World) (a : Act) (Q : Exit → Act → World → Prop), EnvR mu pr w.heap σ a N → Rel mu pr h w →
      (∀ e σ' h' mu' pr' w' a', K e σ' h' → EnvR mu' pr' w'.heap σ' a' N → After mu pr h w mu' pr' h' w' → a'.defers = a.defers → Q (exOf e) a' w') → LoopWp P x Q a w) (by
      intro σ h hb mu pr w a Q E R hQ
      refine LoopWp.round (ihx σ h _ hb hc mu pr w a _ E R (fun e σ' h' mu' pr' w' a' hk E' A hd => ?_))
      cases e with
      | normal => exact hk mu' pr' w' a' Q E' A.rel (fun e σ'' h'' mu'' pr'' w'' a'' hk' E'' A' hd' => hQ e σ'' h'' mu'' pr'' w'' a'' hk' E'' (A.trans A') (hd'.trans hd))
      | exit id => exact hQ (.exit id) σ' h' mu' pr' w' a' hk E' A hd
      | ret => exact hQ .ret σ' h' mu' pr' w' a' hk E' A hd)
    exact (key mu pr w a Q E R hQ).wp
  | _ => intro σ h K hw; exact hw.elim

/-! ### Functions -/
theorem resA_ok {σ : Nat → AV} {a : Act} {N : Nat} (E : EnvR mu pr w.heap σ a N) (R : Rel mu pr h w) : ∀ (rs : List ResultVar) (vs : List AV), resA P h σ rs = some vs →
    ∃ us, (rs.mapM fun (r : ResultVar) => match r with
      | .tmp t => (pure (a.tmps.getD t undef) : Sem Value)
      | .cell c t => do loadVar t (← asAddr (a.tmps.getD c undef))).run P w = .ok us w ∧ VRs mu pr w.heap vs us
  | [], vs, hr => by
    simp [resA] at hr
    subst hr
    exact ⟨[], by simp, .nil⟩
  | .tmp t :: rs, vs, hr => by
    simp only [resA] at hr
    split at hr
    case h_2 => cases hr
    case h_1 vs' hr' =>
      simp only [Option.some.injEq] at hr
      subst hr
      obtain ⟨us, h1, h2⟩ := resA_ok E R rs vs' hr'
      exact ⟨_ :: us, by simp only [List.mapM_cons, Sem.run_bind, Sem.run_pure, Result.andThen_ok, h1], .cons (E.2 t) h2⟩
  | .cell c t :: rs, vs, hr => by
    simp only [resA] at hr
    split at hr
    case h_2 => cases hr
    case h_1 v vs' hv hr' =>
      simp only [Option.some.injEq] at hr
      subst hr
      obtain ⟨us, h1, h2⟩ := resA_ok E R rs vs' hr'
      obtain ⟨u, h3, h4⟩ := loadA_ok R (E.2 c) hv
      refine ⟨u :: us, ?_, .cons h4 h2⟩
      have h5 : (do loadVar t (← asAddr (a.tmps.getD c undef)) : Sem Value).run P w = .ok u w := by
        have h6 := h3
        simp only [Instr.loadAt, Sem.run_bind] at h6 ⊢
        generalize a.tmps.getD c undef = x at h6 ⊢
        cases x with
        | pointer ad =>
          cases ad with
          | none => simp [Instr.sureAddr] at h6
          | some ad => simpa [Instr.sureAddr, asAddr] using h6
        | _ => simp [Instr.sureAddr] at h6
      simp only [List.mapM_cons, Sem.run_bind] at h5 ⊢
      rw [h5]
      simp only [Result.andThen_ok, Sem.run_bind, h1, Sem.run_pure]

theorem resV_ok {vs : List AV} {us : List Value} (hv : VRs mu pr hp vs us) : VR mu pr hp (resV vs) (if h : us.toArray.size = 1 then us.toArray[0] else .tuple us.toArray) := by
  unfold resV
  split
  · rename_i v
    obtain ⟨u, us', rfl, h1, h2⟩ := hv.cons_inv
    have := h2.nil_inv
    subst this
    simpa using h1
  · rename_i hne
    have hl : us.length ≠ 1 := by
      rw [hv.1]
      intro he
      match vs, he, hne with
      | [v], _, hne => exact hne v rfl
    simp only [List.size_toArray, hl, dif_neg, not_false_eq_true]
    exact VR.tup_mk hv

theorem wpF_ok {D : Array Oper → (Nat → AV) → Hp → ((Nat → AV) → Hp → Prop) → Prop} (hD : DrawOk P D) {f : FuncId} {args : List AV} {K : AV → Hp → Prop} (hw : wpF P M (Sound P) D f args h K) : Sound P f args h K := by
  obtain ⟨fn, c, h1, h2, h3, h4, h5⟩ := hw
  simp only [Bool.and_eq_true, Bool.not_eq_true'] at h3
  refine ⟨⟨fn, h1, by rw [h2]; rfl, h3.2⟩, fun mu pr w vs R hv => ?_⟩
  refine calls_of_wp h1 h2 ?_
  have hl : vs.length ≤ fn.ntmps := by rw [hv.1]; exact h4
  have E : EnvR mu pr w.heap (fun i => args.getD i (.tup [])) { tmps := vs.toArray ++ Array.replicate (fn.ntmps - vs.toArray.size) undef, defers := [] } fn.ntmps := by
    refine ⟨by simp; omega, fun t => ?_⟩
    by_cases ht : t < vs.length
    · obtain ⟨u, hu, hr⟩ := hv.2 t (args[t]'(by rw [← hv.1]; exact ht)) (by simp)
      have e1 : (vs.toArray ++ Array.replicate (fn.ntmps - vs.toArray.size) undef).getD t undef = u := by
        rw [Array.getD_eq_getD_getElem?, Array.getElem?_append_left (by simpa using ht)]
        simp [hu]
      have e2 : args.getD t (.tup []) = args[t]'(by rw [← hv.1]; exact ht) := by simp [List.getD, List.getElem?_eq_getElem (by rw [← hv.1]; exact ht : t < args.length)]
      show VR mu pr w.heap (args.getD t (.tup [])) _
      rw [e1, e2]
      exact hr
    · have e2 : args.getD t (.tup []) = .tup [] := by simp [List.getD, List.getElem?_eq_none (by rw [← hv.1]; omega : args.length ≤ t)]
      have e1 : (vs.toArray ++ Array.replicate (fn.ntmps - vs.toArray.size) undef).getD t undef = undef := by
        rw [Array.getD_eq_getD_getElem?, Array.getElem?_append_right (by simpa using ht), Array.getElem?_replicate]
        split <;> rfl
      show VR mu pr w.heap (args.getD t (.tup [])) _
      rw [e1, e2]
      exact VR.tup_mk .nil
  refine wpC_ok hD c _ h _ h5 h3.1 mu pr w _ _ E R (fun e σ' h' mu' pr' w' a' hk E' A hd => ?_)
  have fin : resW P fn h' σ' K → a'.defers = [] ∧ ∃ v, (results fn a'.tmps).run P w' = .ok v w' ∧ ∃ z v' h'' mu'' pr'', Ending.returned v = .returned z ∧ K v' h'' ∧ VR mu'' pr'' w'.heap v' z ∧ After mu pr h w mu'' pr'' h'' w' := by
    intro hr
    refine ⟨hd, ?_⟩
    unfold resW at hr
    split at hr
    case h_2 => exact hr.elim
    case h_1 vs' hvs =>
      obtain ⟨us, g1, g2⟩ := resA_ok E' A.rel fn.results.toList vs' hvs
      refine ⟨_, ?_, _, _, h', mu', pr', rfl, hr, resV_ok g2, A⟩
      have g3 : (fn.results.mapM fun (r : ResultVar) => match r with
        | .tmp t => (pure (a'.tmps.getD t undef) : Sem Value)
        | .cell c t => do loadVar t (← asAddr (a'.tmps.getD c undef))).run P w' = .ok us.toArray w' := by
        rw [Array.mapM_eq_mapM_toList, Sem.run_map, g1]
        rfl
      unfold results
      rw [Sem.run_bind]
      erw [g3]
      rfl
  cases e with
  | normal => exact fin hk
  | exit id => exact hk.elim
  | ret => exact fin hk

end
end Go.Proofs.Ytfgaoojogididaa.AM
