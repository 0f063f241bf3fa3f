/-
  The A-machine, part 13: regions that draw their order: what is asked ('drawW'), and that it is enough.
-/
import Derived.Test.YtfgaoojogididaaA12
set_option linter.unusedVariables false
set_option linter.unusedSimpArgs false
namespace Go.Proofs.Ytfgaoojogididaa.AM
open Go.RowKit

/-- The rows that a quiet operation of such a region may read: those that nothing in the region writes. -/
def maskR (T : Nat) (W : Nm → Bool) (rows : Nm → Option Row) : Nm → Option Row := fun n => if n.1 = T ∨ W n = true then none else rows n

def isNew : Op → Bool
  | .alloc _ | .box .. | .buildSlice .. | .makeSlice .. => true
  | _ => false
def isApp : Op → Bool
  | .call ⟨.builtin .append, _, _⟩ => true
  | _ => false

/-- A new row, whatever else there is. -/
def newA (P : Program) (n : Nm) (ρ : Operand → AV) (op : Op) : Option (AV × Row) :=
  if isNew op then match memA P n ρ (.mt (n.1 + 1)) op with
    | some (v, h') => match h'.rows n with
      | some r => some (v, r)
      | none => none
    | none => none
  else none

def befB (B : Array Nat) (i j : Nat) : Bool := (B.getD i 0).testBit j

/-- The region's static part: 'f' operations in whatever order, then the others, each behind all. -/
def drawOk (ops : Array Oper) (f : Nat) : Bool :=
  decide (f ≤ ops.size) && (List.range ops.size).all fun i => match ops[i]? with
    | none => true
    | some o => decide ((Region.before ops).getD i 0 < 2 ^ i) && (o.after.toList.all fun e => !Region.binds .any e || decide (e.on < i)) && (match o.op with | .select .. => false | _ => true) &&
      ((List.range i).all fun j => match ops[j]? with
        | none => true
        | some o' => (!befB (Region.before ops) i j || o.after.toList.any fun e => Region.binds .any e && (e.on == j || befB (Region.before ops) e.on j)) &&
          (o.apart ops o' || befB (Region.before ops) i j) && (decide (i < f) || befB (Region.before ops) i j) && (!(isApp o.op && isApp o'.op) || befB (Region.before ops) i j))

def appNames (B : Array Nat) (T i : Nat) (W : Nm → Bool) (d x : AV) : Prop :=
  (match d with
    | .sl m _ _ _ => if m.1 = T then befB B i m.2.1 = true ∧ m.2.2 = 0 else W m = true
    | _ => True) ∧
  (match x with
    | .sl m _ _ _ => if m.1 = T then befB B i m.2.1 = true ∧ m.2.2 = 0 else True
    | _ => True)

def frontW (P : Program) (M : FuncId → Mode) (C : CS) (all : Array Oper) (T : Nat) (W : Nm → Bool) (rows0 : Nm → Option Row) : List Oper → Nat → (Nat → AV) → Hp → ((Nat → AV) → Hp → Prop) → Prop
  | [], _, σ, h, K => K σ h
  | o :: rest, i, σ, h, K => match wantedA all σ o with
    | none => False
    | some false => frontW P M C all T W rows0 rest (i + 1) (putA o.dst (.tup []) σ) h K
    | some true => match evQ P (opd σ) (maskR T W rows0) o.op with
      | some v => frontW P M C all T W rows0 rest (i + 1) (putA o.dst v σ) h K
      | none => match newA P (T, i, 0) (opd σ) o.op with
        | some (v, r) => frontW P M C all T W rows0 rest (i + 1) (putA o.dst v σ) (h.put (T, i, 0) r) K
        | none => match o.op with
          | .call ⟨.builtin .append, ⟨[s, x]⟩, ⟨[t, t']⟩⟩ => if t = t' then match appendA P t (opd σ s) (opd σ x) h (T, i, 0) with
              | some (v, h') => appNames (Region.before all) T i W (opd σ s) (opd σ x) ∧ frontW P M C all T W rows0 rest (i + 1) (putA o.dst v σ) h' K
              | none => False
            else False
          | .call ⟨.value f, args, _⟩ => match opd σ f with
            | .fn g cap => treeW C g (maskR T W rows0) (args.toList.map (opd σ) ++ cap) (T + 1) (fun v => frontW P M C all T W rows0 rest (i + 1) (putA o.dst v σ) h K)
            | _ => False
          | _ => False

/-- What is asked of a region that draws its order. -/
def drawW (P : Program) (M : FuncId → Mode) (C : CS) (ops : Array Oper) (σ : Nat → AV) (h : Hp) (K : (Nat → AV) → Hp → Prop) : Prop :=
  ∃ (f : Nat) (W : Nm → Bool), drawOk ops f = true ∧
    frontW P M C ops h.tick W h.rows (ops.toList.take f) 0 σ h.next (fun σ' h' => wpOps P M C ops h.tick (ops.toList.drop f) f σ' h' K)

/-! ### More of the same -/
section
variable {P : Program} {M : FuncId → Mode} {C C' : CS}

theorem frontW_mono (hC : CS.le C C') {all : Array Oper} {T : Nat} {W : Nm → Bool} {rows0 : Nm → Option Row} : ∀ (l : List Oper) (i : Nat) (σ : Nat → AV) (h : Hp) (K K' : (Nat → AV) → Hp → Prop), (∀ σ' h', K σ' h' → K' σ' h') →
    frontW P M C all T W rows0 l i σ h K → frontW P M C' all T W rows0 l i σ h K'
  | [], _, _, _, _, _, hK, h => hK _ _ h
  | o :: l, i, σ, h, K, K', hK, hw => by
    unfold frontW at *
    split at hw
    · exact hw.elim
    · exact frontW_mono hC l _ _ _ _ _ hK hw
    · split at hw
      · exact frontW_mono hC l _ _ _ _ _ hK hw
      · split at hw
        · exact frontW_mono hC l _ _ _ _ _ hK hw
        · split at hw
          · split at hw
            · rename_i ht
              rw [if_pos ht]
              split at hw
              · exact ⟨hw.1, frontW_mono hC l _ _ _ _ _ hK hw.2⟩
              · exact hw.elim
            · exact hw.elim
          · split at hw
            · exact treeW_mono hC (fun v hv => frontW_mono hC l _ _ _ _ _ hK hv) hw
            · exact hw.elim
          · exact hw.elim

theorem drawW_mono (hC : CS.le C C') : Dle (drawW P M C) (drawW P M C') := by
  rintro ops σ h K K' hK ⟨f, W, h1, h2⟩
  exact ⟨f, W, h1, frontW_mono hC _ _ _ _ _ _ (fun σ' h' hr => wpOps_mono hC _ _ _ _ _ _ hK hr) h2⟩
end

/-! ### What operations look at -/
section
variable {P : Program}

theorem pairs_congr {ρ ρ' : Operand → AV} {parts : Array (Nat × Operand)} (h : ∀ x ∈ (parts.toList.map (·.2)), ρ x = ρ' x) : (parts.toList.map fun p => (p.1, ρ p.2)) = parts.toList.map fun p => (p.1, ρ' p.2) :=
  List.map_congr_left fun p hp => by rw [h p.2 (List.mem_map.2 ⟨p, hp, rfl⟩)]

theorem evQ_congr {ρ ρ' : Operand → AV} {rows : Nm → Option Row} (op : Op) (h : ∀ x ∈ op.operands, ρ x = ρ' x) : evQ P ρ rows op = evQ P ρ' rows op := by
  cases op <;> simp only [Op.operands] at h <;> try (simp only [evQ]; done)
  case slice t x lo hi mx =>
    have e1 : lo.map ρ = lo.map ρ' := by cases lo <;> simp_all
    have e2 : hi.map ρ = hi.map ρ' := by cases hi <;> cases lo <;> simp_all
    simp only [evQ, e1, e2, h x (by simp)]
  case build t parts => simp only [evQ, pairs_congr fun x hx => h x (by simpa using hx)]
  case makeFunc fn first captured =>
    have : captured.toList.map ρ = captured.toList.map ρ' := List.map_congr_left fun x hx => h x (by simp; right; simpa using hx)
    unfold evQ
    split <;> simp_all
  case call c =>
    have hargs : ∀ x ∈ c.args.toList, ρ x = ρ' x := fun x hx => h x (by simp [Call.operands]; right; simpa using hx)
    unfold evQ
    split <;> simp_all
  all_goals (simp only [evQ]; simp_all)

theorem wantedA_congr {all : Array Oper} {σ σ' : Nat → AV} {o : Oper} (h : ∀ t ∈ o.looksAt all, σ t = σ' t) : wantedA all σ o = wantedA all σ' o := by
  unfold wantedA
  cases hg : o.guard with
  | none => rfl
  | some jw =>
    obtain ⟨j, want⟩ := jw
    simp only
    cases hj : all[j]? with
    | none => rfl
    | some o' =>
      simp only
      cases hd : o'.dst with
      | none => rfl
      | some d =>
        have := h d (by simp [Oper.looksAt, hg, hj, hd])
        simp only [this]

theorem opd_congr {all : Array Oper} {σ σ' : Nat → AV} {o : Oper} (h : ∀ t ∈ o.looksAt all, σ t = σ' t) : ∀ x ∈ o.op.operands, opd σ x = opd σ' x := by
  intro x hx
  cases x with
  | tmp t => exact h t (by simp only [Oper.looksAt, List.mem_append, List.mem_filterMap]; exact .inl ⟨_, by simpa using hx, rfl⟩)
  | _ => rfl

theorem memA_new {n : Nm} {ρ : Operand → AV} {op : Op} {v : AV} {r : Row} (he : newA P n ρ op = some (v, r)) (h : Hp) : memA P n ρ h op = some (v, h.put n r) := by
  unfold newA at he
  split at he
  case isFalse => cases he
  case isTrue hn =>
    split at he
    case h_2 => cases he
    case h_1 v' h' hm =>
      split at he
      case h_2 => cases he
      case h_1 r' hr =>
        simp only [Option.some.injEq, Prod.mk.injEq] at he
        obtain ⟨rfl, rfl⟩ := he
        have key : ∀ {X : Row} {y : AV} {hx : Hp}, hx = (Hp.mt (n.1 + 1)).put n X → hx.rows n = some r' → X = r' := by
          intro X y hx e1 e2
          rw [e1, Hp.put_rows, if_pos rfl] at e2
          exact Option.some.inj e2
        cases op <;> simp [isNew] at hn
        case alloc t =>
          simp only [memA, allocA] at hm ⊢
          (repeat' split at hm) <;> first | (cases hm; done) | skip
          rename_i ho
          simp only [Option.some.injEq, Prod.mk.injEq] at hm
          obtain ⟨rfl, rfl⟩ := hm
          rw [if_pos ho, key (y := .undef) rfl hr]
        case box t x =>
          simp only [memA, boxA] at hm ⊢
          (repeat' split at hm) <;> first | (cases hm; done) | skip
          rename_i ho
          simp only [Option.some.injEq, Prod.mk.injEq] at hm
          obtain ⟨rfl, rfl⟩ := hm
          rw [if_pos ho, key (y := .undef) rfl hr]
        case buildSlice t len parts =>
          simp only [memA, buildSliceA] at hm ⊢
          (repeat' split at hm) <;> first | (cases hm; done) | skip
          rename_i ho
          simp only [Option.some.injEq, Prod.mk.injEq] at hm
          obtain ⟨rfl, rfl⟩ := hm
          rw [if_pos ho, key (y := .undef) rfl hr]
        case makeSlice t l c =>
          simp only [memA, makeSliceA] at hm ⊢
          (repeat' split at hm) <;> first | (cases hm; done) | skip
          rename_i ho
          simp only [Option.some.injEq, Prod.mk.injEq] at hm
          obtain ⟨rfl, rfl⟩ := hm
          rw [if_pos ho, key (y := .undef) rfl hr]

/-! ### Reading a greater heap -/
theorem readCells_mono {rows rows' : Nm → Option Row} (hr : ∀ n r, rows n = some r → rows' n = some r) {p : AV} {n : Nat} {cs : List AV} (h : readCells rows p n = some cs) : readCells rows' p n = some cs := by
  cases p <;> simp only [readCells] at h ⊢ <;> try exact h
  split at h
  case h_2 => cases h
  case h_1 r hrow => rw [hr _ _ hrow]; exact h

theorem evQ_mono {ρ : Operand → AV} {rows rows' : Nm → Option Row} (hr : ∀ n r, rows n = some r → rows' n = some r) {op : Op} {v : AV} (h : evQ P ρ rows op = some v) : evQ P ρ rows' op = some v := by
  cases op <;> try (simp only [evQ] at h ⊢; exact h)
  case load t a =>
    simp only [evQ, loadA] at h ⊢
    split at h
    case h_3 => cases h
    case h_1 n hn =>
      simp only [Option.map_eq_some_iff] at h ⊢
      obtain ⟨cs, h1, h2⟩ := h
      exact ⟨cs, readCells_mono hr h1, h2⟩
    case h_2 n hn =>
      split at h
      case h_2 => cases h
      case h_1 c hc => rw [readCells_mono hr hc]; exact h
  case indexAddr t x i =>
    simp only [evQ, iaddrA] at h ⊢
    split at h
    case h_2 => cases h
    case h_1 e he =>
      split at h
      case h_2 => cases h
      case h_1 s hs =>
        split at h
        case h_3 => cases h
        case h_1 => exact h
        case h_2 n v' off len kk k =>
          split at h
          case isFalse => cases h
          case isTrue hk =>
            rw [if_pos hk]
            split at h
            case h_2 => cases h
            case h_1 r hrow => rw [hr _ _ hrow]; exact h
  case slice t x lo hi mx =>
    simp only [evQ, sliceA] at h ⊢
    split at h
    case isTrue => cases h
    case isFalse hm =>
      rw [if_neg hm]
      split at h
      case h_5 => cases h
      case h_1 => exact h
      case h_2 => exact h
      case h_3 => exact h
      case h_4 =>
        split at h
        case h_2 => cases h
        case h_1 s l hh r hs hl hhi hrow =>
          simp only [hs, hl, hhi, hr _ _ hrow]
          exact h
  case makeFunc fn first captured =>
    unfold evQ at h ⊢
    split at h <;> simp_all
  case call c =>
    unfold evQ at h ⊢
    split at h <;> simp_all

end
end Go.Proofs.Ytfgaoojogididaa.AM
