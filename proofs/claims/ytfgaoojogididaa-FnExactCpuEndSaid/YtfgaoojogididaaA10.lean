/-
  The A-machine, part 10: its semantics: a weakest precondition over the model's own code.
-/
import Derived.Test.YtfgaoojogididaaA9
set_option linter.unusedVariables false
set_option linter.unusedSimpArgs false
namespace Go.Proofs.Ytfgaoojogididaa.AM
open Go.RowKit

/-- How a function is called: over the caller's rows; with its arguments lent and its result's rows handed over; with its arguments lent and its result as a tree. -/
inductive Mode where
  | heap | fresh | tree
  deriving DecidableEq

/-- What calls do: function, arguments, rows, what is asked of the result. -/
abbrev CS := FuncId → List AV → Hp → (AV → Hp → Prop) → Prop

def Hp.mt (t : Nat) : Hp := ⟨fun _ => none, t⟩

def DRs (c : Bool) (rows : Nm → Option Row) (as ts : List AV) : Prop := ts.length = as.length ∧ ∀ (i : Nat) (a t : AV), as[i]? = some a → ts[i]? = some t → DR c rows a t

def treeW (C : CS) (g : FuncId) (rows : Nm → Option Row) (args : List AV) (tick : Nat) (K : AV → Prop) : Prop :=
  ∃ targs r, DRs true rows args targs ∧ C g targs (.mt tick) (fun v h' => DR false h'.rows v r) ∧ K r

def Hp.join (h : Hp) (hs : Nm → Option Row) (tick : Nat) : Hp := ⟨fun n => if n.1 < h.tick then h.rows n else hs n, tick⟩

def freshW (C : CS) (g : FuncId) (args : List AV) (h : Hp) (K : AV → Hp → Prop) : Prop :=
  ∃ targs, DRs true h.rows args targs ∧ C g targs (.mt h.tick) (fun v h' => ∃ hs : Nm → Option Row, (∀ n r, hs n = some r → h'.rows n = some r ∧ ClRow r) ∧ Cl v ∧ K v (h.join hs h'.tick))

def callW (M : FuncId → Mode) (C : CS) (g : FuncId) (args : List AV) (h : Hp) (K : AV → Hp → Prop) : Prop :=
  match M g with
  | .heap => C g args h K
  | .fresh => freshW C g args h K
  | .tree => treeW C g h.rows args h.tick (fun r => K r h)

/-- A variable's value (or constant, or function). -/
def opd (σ : Nat → AV) : Operand → AV
  | .tmp t => σ t
  | .const v => avc v
  | .func f => .fn f []
  | .global _ => .undef

def putA (dst : Option Tmp) (v : AV) (σ : Nat → AV) : Nat → AV :=
  match dst with
  | some d => fun t => if t = d then v else σ t
  | none => σ

/-- Whether a guarded operation is carried out. -/
def wantedA (all : Array Oper) (σ : Nat → AV) (o : Oper) : Option Bool :=
  match o.guard with
  | none => some true
  | some (j, want) => match all[j]? with
    | some o' => match o'.dst with
      | some d => match σ d with
        | .bool b => some (b == want)
        | .tup [] => some false
        | _ => none
      | none => none
    | none => none

/-- Operations on memory that need no call. -/
def memA (P : Program) (n : Nm) (ρ : Operand → AV) (h : Hp) : Op → Option (AV × Hp)
  | .alloc t => allocA P t h n
  | .box _ x => boxA (ρ x) h n
  | .buildSlice t len parts => buildSliceA P t len (parts.toList.map fun p => (p.1, ρ p.2)) h n
  | .makeSlice t l c => makeSliceA P t (ρ l) (ρ c) h n
  | .store t a x => match storeA P t (ρ a) (ρ x) h with
    | some h' => some (.tup [], h')
    | none => none
  | .call ⟨.builtin .append, ⟨[s, x]⟩, ⟨[t, t']⟩⟩ => if t = t' then appendA P t (ρ s) (ρ x) h n else none
  | .call ⟨.builtin .copy, ⟨[d, x]⟩, ⟨[t, _]⟩⟩ => copyA P t (ρ d) (ρ x) h
  | .call ⟨.builtin .clear, ⟨[d]⟩, ⟨[t]⟩⟩ => match clearA P t (ρ d) h with
    | some h' => some (.tup [], h')
    | none => none
  | _ => none

/-- One operation. -/
def stepW (P : Program) (M : FuncId → Mode) (C : CS) (n : Nm) (o : Oper) (σ : Nat → AV) (h : Hp) (K : AV → Hp → Prop) : Prop :=
  match evQ P (opd σ) h.rows o.op with
  | some v => K v h
  | none => match memA P n (opd σ) h o.op with
    | some (v, h') => K v h'
    | none => match o.op with
      | .call ⟨.value f, args, _⟩ => match opd σ f with
        | .fn g cap => callW M C g (args.toList.map (opd σ) ++ cap) h K
        | _ => False
      | _ => False

def wpOps (P : Program) (M : FuncId → Mode) (C : CS) (all : Array Oper) (T : Nat) : List Oper → Nat → (Nat → AV) → Hp → ((Nat → AV) → Hp → Prop) → Prop
  | [], _, σ, h, K => K σ h
  | o :: rest, i, σ, h, K => match wantedA all σ o with
    | some true => stepW P M C (T, i, 0) o σ h (fun v h' => wpOps P M C all T rest (i + 1) (putA o.dst v σ) h' K)
    | some false => wpOps P M C all T rest (i + 1) (putA o.dst (.tup []) σ) h K
    | none => False

inductive Ex where
  | normal
  | exit (id : Nat)
  | ret

def Hp.next (h : Hp) : Hp := { h with tick := h.tick + 1 }

/-- The code's weakest precondition ('D': what a region that draws its order asks). -/
def wpC (P : Program) (M : FuncId → Mode) (C : CS) (D : Array Oper → (Nat → AV) → Hp → ((Nat → AV) → Hp → Prop) → Prop) : Code → (Nat → AV) → Hp → (Ex → (Nat → AV) → Hp → Prop) → Prop
  | .skip, σ, h, K => K .normal σ h
  | .region _ ops false, σ, h, K => wpOps P M C ops h.tick ops.toList 0 σ h.next (fun σ' h' => K .normal σ' h')
  | .region _ ops true, σ, h, K => D ops σ h (fun σ' h' => K .normal σ' h')
  | .seq a b, σ, h, K => wpC P M C D a σ h (fun e σ' h' => match e with
    | .normal => wpC P M C D b σ' h' K
    | e => K e σ' h')
  | .cond c a b, σ, h, K => match opd σ c with
    | .bool t => if t = true then wpC P M C D a σ h K else wpC P M C D b σ h K
    | _ => False
  | .block id a, σ, h, K => wpC P M C D a σ h (fun e σ' h' => match e with
    | .exit j => if j = id then K .normal σ' h' else K (.exit j) σ' h'
    | e => K e σ' h')
  | .loop a, σ, h, K => ∀ I : (Nat → AV) → Hp → Prop, (∀ σ h, wpC P M C D a σ h (fun e σ' h' => match e with
    | .normal => I σ' h'
    | e => K e σ' h') → I σ h) → I σ h
  | .exit id, σ, h, K => K (.exit id) σ h
  | .ret, σ, h, K => K .ret σ h
  | _, _, _, _ => False

/-- A function's result. -/
def resA (P : Program) (h : Hp) (σ : Nat → AV) : List ResultVar → Option (List AV)
  | [] => some []
  | .tmp t :: rs => match resA P h σ rs with
    | some vs => some (σ t :: vs)
    | none => none
  | .cell a t :: rs => match loadA P h.rows t (σ a), resA P h σ rs with
    | some v, some vs => some (v :: vs)
    | _, _ => none

def resV : List AV → AV
  | [v] => v
  | vs => .tup vs

def resW (P : Program) (fn : Func) (h : Hp) (σ : Nat → AV) (K : AV → Hp → Prop) : Prop :=
  match resA P h σ fn.results.toList with
  | some vs => K (resV vs) h
  | none => False

def dstOk (N : Nat) (dst : Option Tmp) : Bool := match dst with | some d => d < N | none => true

/-- Every temporary that is written is there. -/
def codeOk (n : Nat) : Code → Bool
  | .region _ ops _ => ops.toList.all fun o => dstOk n o.dst
  | .seq a b => codeOk n a && codeOk n b
  | .cond _ a b => codeOk n a && codeOk n b
  | .block _ a => codeOk n a
  | .loop a => codeOk n a
  | _ => true

/-- A function's body, from its arguments. -/
def wpF (P : Program) (M : FuncId → Mode) (C : CS) (D : Array Oper → (Nat → AV) → Hp → ((Nat → AV) → Hp → Prop) → Prop) (f : FuncId) (args : List AV) (h : Hp) (K : AV → Hp → Prop) : Prop :=
  ∃ fn c, P.funcs[f]? = some fn ∧ fn.body = some c ∧ (codeOk fn.ntmps c && !(fn.name == "runtime.NumGoroutine")) = true ∧ args.length ≤ fn.ntmps ∧
    wpC P M C D c (fun i => args.getD i (.tup [])) h (fun e σ h' => match e with
      | .exit _ => False
      | _ => resW P fn h' σ K)

/-! ### More is asked of less -/
section
variable {P : Program} {M : FuncId → Mode} {C C' : CS} {D D' : Array Oper → (Nat → AV) → Hp → ((Nat → AV) → Hp → Prop) → Prop}

def CS.le (C C' : CS) : Prop := ∀ f args h (K K' : AV → Hp → Prop), (∀ v h', K v h' → K' v h') → C f args h K → C' f args h K'
def Dle (D D' : Array Oper → (Nat → AV) → Hp → ((Nat → AV) → Hp → Prop) → Prop) : Prop := ∀ ops σ h (K K' : (Nat → AV) → Hp → Prop), (∀ σ' h', K σ' h' → K' σ' h') → D ops σ h K → D' ops σ h K'

theorem treeW_mono (hC : CS.le C C') {g : FuncId} {rows : Nm → Option Row} {args : List AV} {t : Nat} {K K' : AV → Prop} (hK : ∀ v, K v → K' v) (h : treeW C g rows args t K) : treeW C' g rows args t K' := by
  obtain ⟨ta, r, h1, h2, h3⟩ := h
  exact ⟨ta, r, h1, hC _ _ _ _ _ (fun _ _ h => h) h2, hK _ h3⟩

theorem callW_mono (hC : CS.le C C') {g : FuncId} {args : List AV} {h : Hp} {K K' : AV → Hp → Prop} (hK : ∀ v h', K v h' → K' v h') (hw : callW M C g args h K) : callW M C' g args h K' := by
  unfold callW at *
  split at hw
  · exact hC _ _ _ _ _ hK hw
  · obtain ⟨ta, h1, h2⟩ := hw
    exact ⟨ta, h1, hC _ _ _ _ _ (fun v h' ⟨hs, a, b, c⟩ => ⟨hs, a, b, hK _ _ c⟩) h2⟩
  · exact treeW_mono hC (fun r hr => hK _ _ hr) hw

theorem stepW_mono (hC : CS.le C C') {n : Nm} {o : Oper} {σ : Nat → AV} {h : Hp} {K K' : AV → Hp → Prop} (hK : ∀ v h', K v h' → K' v h') (hw : stepW P M C n o σ h K) : stepW P M C' n o σ h K' := by
  unfold stepW at *
  split at hw
  · exact hK _ _ hw
  · split at hw
    · exact hK _ _ hw
    · split at hw
      · split at hw
        · exact callW_mono hC hK hw
        · exact hw
      · exact hw

theorem wpOps_mono (hC : CS.le C C') {all : Array Oper} {T : Nat} : ∀ (l : List Oper) (i : Nat) (σ : Nat → AV) (h : Hp) (K K' : (Nat → AV) → Hp → Prop), (∀ σ' h', K σ' h' → K' σ' h') → wpOps P M C all T l i σ h K → wpOps P M C' all T l i σ h K'
  | [], _, _, _, _, _, hK, h => hK _ _ h
  | o :: l, i, σ, h, K, K', hK, hw => by
    unfold wpOps at *
    split at hw
    · exact stepW_mono hC (fun v h' hr => wpOps_mono hC l _ _ _ _ _ hK hr) hw
    · exact wpOps_mono hC l _ _ _ _ _ hK hw
    · exact hw

theorem wpC_mono (hC : CS.le C C') (hD : Dle D D') : ∀ (c : Code) (σ : Nat → AV) (h : Hp) (K K' : Ex → (Nat → AV) → Hp → Prop), (∀ e σ' h', K e σ' h' → K' e σ' h') → wpC P M C D c σ h K → wpC P M C' D' c σ h K' := by
  intro c
  induction c with
  | skip => intro σ h K K' hK hw; exact hK _ _ _ hw
  | region id ops d =>
    intro σ h K K' hK hw
    cases d
    · exact wpOps_mono hC _ _ _ _ _ _ (fun _ _ hr => hK _ _ _ hr) hw
    · exact hD _ _ _ _ _ (fun _ _ hr => hK _ _ _ hr) hw
  | seq a b iha ihb =>
    intro σ h K K' hK hw
    refine iha _ _ _ _ (fun e σ' h' hr => ?_) hw
    cases e
    · exact ihb _ _ _ _ hK hr
    · exact hK _ _ _ hr
    · exact hK _ _ _ hr
  | cond c a b iha ihb =>
    intro σ h K K' hK hw
    simp only [wpC] at *
    split at hw
    · split at hw
      · rename_i ht; rw [if_pos ht]; exact iha _ _ _ _ hK hw
      · rename_i ht; rw [if_neg ht]; exact ihb _ _ _ _ hK hw
    · exact hw
  | block id a iha =>
    intro σ h K K' hK hw
    refine iha _ _ _ _ (fun e σ' h' hr => ?_) hw
    cases e with
    | normal => exact hK _ _ _ hr
    | exit j =>
      simp only at *
      split at hr
      · rename_i hj; rw [if_pos hj]; exact hK _ _ _ hr
      · rename_i hj; rw [if_neg hj]; exact hK _ _ _ hr
    | ret => exact hK _ _ _ hr
  | loop a iha =>
    intro σ h K K' hK hw I hI
    refine hw I fun σ h hb => hI σ h (iha _ _ _ _ (fun e σ' h' hr => ?_) hb)
    cases e
    · exact hr
    · exact hK _ _ _ hr
    · exact hK _ _ _ hr
  | exit id => intro σ h K K' hK hw; exact hK _ _ _ hw
  | ret => intro σ h K K' hK hw; exact hK _ _ _ hw
  | _ => intro σ h K K' hK hw; exact hw.elim

theorem resW_mono {fn : Func} {h : Hp} {σ : Nat → AV} {K K' : AV → Hp → Prop} (hK : ∀ v h', K v h' → K' v h') (hw : resW P fn h σ K) : resW P fn h σ K' := by
  unfold resW at *
  cases hr : resA P h σ fn.results.toList with
  | none => rw [hr] at hw; exact hw
  | some vs => rw [hr] at hw; exact hK _ _ hw

theorem wpF_mono (hC : CS.le C C') (hD : Dle D D') {f : FuncId} {args : List AV} {h : Hp} {K K' : AV → Hp → Prop} (hK : ∀ v h', K v h' → K' v h') (hw : wpF P M C D f args h K) : wpF P M C' D' f args h K' := by
  obtain ⟨fn, c, h1, h2, h3, h4, h5⟩ := hw
  refine ⟨fn, c, h1, h2, h3, h4, wpC_mono hC hD _ _ _ _ _ (fun e σ' h' hr => ?_) h5⟩
  cases e
  · exact resW_mono hK hr
  · exact hr
  · exact resW_mono hK hr

/-- A loop, unrolled once. -/
theorem wpC_loop (hD : Dle D D) (hC : CS.le C C) {a : Code} {σ : Nat → AV} {h : Hp} {K : Ex → (Nat → AV) → Hp → Prop}
    (hw : wpC P M C D a σ h (fun e σ' h' => match e with | .normal => wpC P M C D (.loop a) σ' h' K | e => K e σ' h')) : wpC P M C D (.loop a) σ h K := by
  intro I hI
  refine hI σ h (wpC_mono hC hD _ _ _ _ _ (fun e σ' h' hr => ?_) hw)
  cases e
  · exact hr I hI
  · exact hr
  · exact hr

end
end Go.Proofs.Ytfgaoojogididaa.AM
