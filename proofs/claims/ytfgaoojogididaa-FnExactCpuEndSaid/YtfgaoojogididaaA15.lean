/-
  The A-machine, part 15: one operation of a region that draws its order.
-/
import Derived.Test.YtfgaoojogididaaA14
set_option linter.unusedVariables false
set_option linter.unusedSimpArgs false
namespace Go.Proofs.Ytfgaoojogididaa.AM
open Go.RowKit

section
variable {P : Program}

theorem srcElems_congr {rows rows' : Nm → Option Row} {x : AV} (h : ∀ m ver off len, x = .sl m ver off len → rows' m = rows m) : srcElems rows' x = srcElems rows x := by
  cases x <;> try rfl
  case sl m ver off len => simp only [srcElems, h m ver off len rfl]

theorem appendA_any {t : TypeId} {d x : AV} {h h1 : Hp} {n : Nm} {v : AV} (he : appendA P t d x h n = some (v, h1)) :
    ∃ act : Option (Nm × Option Row), h1 = ⟨upd act h.rows, h.tick⟩ ∧ (∀ m r, act = some (m, r) → m = n ∨ ∃ ver off len, d = .sl m ver off len) ∧
      ∀ h' : Hp, h'.tick = h.tick → (∀ m ver off len, d = .sl m ver off len → h'.rows m = h.rows m) → (∀ m ver off len, x = .sl m ver off len → h'.rows m = h.rows m) →
        appendA P t d x h' n = some (v, ⟨upd act h'.rows, h'.tick⟩) := by
  unfold appendA at he
  split at he
  case h_2 => cases he
  case h_1 e es h1e h2e =>
    split at he
    case h_2 => cases he
    case h_1 s b z q1 q2 q3 =>
      split at he
      case isFalse => cases he
      case isTrue hc =>
        split at he
        case h_3 => cases he
        case h_1 =>
          split at he
          case isTrue hes =>
            cases he
            refine ⟨none, rfl, (fun m r hm => by cases hm), fun h' _ _ hx => ?_⟩
            unfold appendA
            rw [srcElems_congr hx, h1e, h2e]
            simp only [q1, q2, q3]
            rw [if_pos hc, if_pos hes]
            rfl
          case isFalse hes =>
            split at he
            case isFalse => cases he
            case isTrue hle =>
              cases he
              refine ⟨some (n, some ⟨0, s, es⟩), rfl, fun m r hm => by cases hm; exact .inl rfl, fun h' _ _ hx => ?_⟩
              unfold appendA
              rw [srcElems_congr hx, h1e, h2e]
              simp only [q1, q2, q3]
              rw [if_pos hc, if_neg hes, if_pos hle]
              rfl
        case h_2 m ver off len =>
          split at he
          case h_2 => cases he
          case h_1 r hr =>
            split at he
            case isFalse => cases he
            case isTrue hk =>
              split at he
              case isTrue hes =>
                cases he
                refine ⟨none, rfl, (fun m r hm => by cases hm), fun h' ht hd hx => ?_⟩
                unfold appendA
                rw [srcElems_congr hx, h1e, h2e]
                simp only [q1, q2, q3]
                rw [if_pos hc, hd _ _ _ _ rfl, hr]
                simp only
                rw [ht, if_pos hk, if_pos hes]
                cases h'; cases ht; rfl
              case isFalse hes =>
                split at he
                case isTrue hroom =>
                  cases he
                  refine ⟨some (m, some ⟨ver, s, r.elems.take (off + len) ++ es ++ r.elems.drop (off + (len + es.length))⟩), rfl, fun m r hm => by cases hm; exact .inr ⟨_, _, _, rfl⟩, fun h' ht hd hx => ?_⟩
                  unfold appendA
                  rw [srcElems_congr hx, h1e, h2e]
                  simp only [q1, q2, q3]
                  rw [if_pos hc, hd _ _ _ _ rfl, hr]
                  simp only
                  rw [ht, if_pos hk, if_neg hes, if_pos hroom]
                  cases h'; cases ht; rfl
                case isFalse hroom =>
                  cases he
                  refine ⟨some (m, some ⟨ver + 1, s, (r.elems.drop off).take len ++ es⟩), rfl, fun m r hm => by cases hm; exact .inr ⟨_, _, _, rfl⟩, fun h' ht hd hx => ?_⟩
                  unfold appendA
                  rw [srcElems_congr hx, h1e, h2e]
                  simp only [q1, q2, q3]
                  rw [if_pos hc, hd _ _ _ _ rfl, hr]
                  simp only
                  rw [ht, if_pos hk, if_neg hes, if_neg hroom]
                  cases h'; cases ht; rfl

theorem evQ_new {ρ : Operand → AV} {rows : Nm → Option Row} {op : Op} (h : isNew op = true) : evQ P ρ rows op = none := by
  cases op <;> simp [isNew] at h <;> rfl

theorem newA_isNew {n : Nm} {ρ : Operand → AV} {op : Op} {v : AV} {r : Row} (he : newA P n ρ op = some (v, r)) : isNew op = true := by
  unfold newA at he
  split at he
  case isTrue hn => exact hn
  case isFalse => cases he

theorem newA_congr {n : Nm} {ρ ρ' : Operand → AV} {op : Op} (h : ∀ x ∈ op.operands, ρ x = ρ' x) : newA P n ρ op = newA P n ρ' op := by
  unfold newA
  split
  case isFalse => rfl
  case isTrue hn =>
    have : memA P n ρ (.mt (n.1 + 1)) op = memA P n ρ' (.mt (n.1 + 1)) op := by
      cases op <;> simp [isNew] at hn <;> simp only [Op.operands] at h
      case alloc t => rfl
      case box t x => simp only [memA, h x (by simp)]
      case buildSlice t len parts => simp only [memA, pairs_congr fun x hx => h x (by simpa using hx)]
      case makeSlice t l c => simp only [memA, h l (by simp), h c (by simp)]
    rw [this]
end

/-- What one operation of such a region does, from the text's order: its value, and what it writes. -/
inductive OpSpec (P : Program) (C : CS) (all : Array Oper) (T : Nat) (W : Nm → Bool) (rows0 : Nm → Option Row) (o : Oper) (i : Nat) (σ : Nat → AV) (h : Hp) : AV → Option (Nm × Option Row) → Prop
  | skip (hw : wantedA all σ o = some false) : OpSpec P C all T W rows0 o i σ h (.tup []) none
  | quiet (hw : wantedA all σ o = some true) (v : AV) (he : evQ P (opd σ) (maskR T W rows0) o.op = some v) : OpSpec P C all T W rows0 o i σ h v none
  | new (hw : wantedA all σ o = some true) (v : AV) (r : Row) (he : newA P (T, i, 0) (opd σ) o.op = some (v, r)) : OpSpec P C all T W rows0 o i σ h v (some ((T, i, 0), some r))
  | app (hw : wantedA all σ o = some true) (s x : Operand) (t : TypeId) (v : AV) (act : Option (Nm × Option Row)) (hop : o.op = .call ⟨.builtin .append, ⟨[s, x]⟩, ⟨[t, t]⟩⟩)
      (hn : appNames (Region.before all) T i W (opd σ s) (opd σ x))
      (ha : ∀ m r, act = some (m, r) → m = (T, i, 0) ∨ ∃ ver off len, opd σ s = .sl m ver off len)
      (hr : ∀ h' : Hp, h'.tick = h.tick → (∀ m ver off len, opd σ s = .sl m ver off len → h'.rows m = h.rows m) → (∀ m ver off len, opd σ x = .sl m ver off len → h'.rows m = h.rows m) →
        appendA P t (opd σ s) (opd σ x) h' (T, i, 0) = some (v, ⟨upd act h'.rows, h'.tick⟩)) : OpSpec P C all T W rows0 o i σ h v act
  | call (hw : wantedA all σ o = some true) (f : Operand) (args : Array Operand) (ts : Array TypeId) (g : FuncId) (cap : List AV) (v : AV) (hop : o.op = .call ⟨.value f, args, ts⟩) (hf : opd σ f = .fn g cap)
      (hc : treeW C g (maskR T W rows0) (args.toList.map (opd σ) ++ cap) (T + 1) (fun r => r = v)) : OpSpec P C all T W rows0 o i σ h v none

section
variable {P : Program} {M : FuncId → Mode} {C : CS} {all : Array Oper} {T : Nat} {W : Nm → Bool} {rows0 : Nm → Option Row} {o : Oper} {i : Nat} {σ : Nat → AV} {h : Hp}

/-- The text's order gives one. -/
theorem front_step {rest : List Oper} {K : (Nat → AV) → Hp → Prop} (hw : frontW P M C all T W rows0 (o :: rest) i σ h K) :
    ∃ v act, OpSpec P C all T W rows0 o i σ h v act ∧ frontW P M C all T W rows0 rest (i + 1) (upd (o.dst.map fun d => (d, v)) σ) ⟨upd act h.rows, h.tick⟩ K := by
  have hput : ∀ v : AV, putA o.dst v σ = upd (o.dst.map fun d => (d, v)) σ := fun v => by cases o.dst <;> rfl
  unfold frontW at hw
  split at hw
  case h_1 => exact hw.elim
  case h_2 hwt => exact ⟨_, _, .skip hwt, by rw [← hput]; exact hw⟩
  case h_3 hwt =>
    split at hw
    case h_1 v hv => exact ⟨v, none, .quiet hwt v hv, by rw [← hput]; exact hw⟩
    case h_2 =>
      split at hw
      case h_1 v r hv => exact ⟨v, some ((T, i, 0), some r), .new hwt v r hv, by rw [← hput]; exact hw⟩
      case h_2 =>
        split at hw
        case h_3 => exact hw.elim
        case h_1 s x t t' hop =>
          split at hw
          case isFalse => exact hw.elim
          case isTrue ht =>
            subst ht
            split at hw
            case h_2 => exact hw.elim
            case h_1 v h' ha =>
              obtain ⟨act, e1, e2, e3⟩ := appendA_any ha
              exact ⟨v, act, .app hwt s x t v act hop hw.1 e2 e3, by rw [← hput, ← e1]; exact hw.2⟩
        case h_2 f args ts hop =>
          split at hw
          case h_2 => exact hw.elim
          case h_1 g cap hf =>
            obtain ⟨targs, r, h1, h2, h3⟩ := hw
            exact ⟨r, none, .call hwt f args ts g cap r hop hf ⟨targs, r, h1, h2, rfl⟩, by rw [← hput]; exact h3⟩

/-- What it writes. -/
theorem OpSpec.act {v : AV} {act : Option (Nm × Option Row)} (s : OpSpec P C all T W rows0 o i σ h v act) {m : Nm} (hm : hits act m) :
    m = (T, i, 0) ∨ (isApp o.op = true ∧ (m.1 = T → befB (Region.before all) i m.2.1 = true ∧ m.2.2 = 0) ∧ (m.1 ≠ T → W m = true)) := by
  obtain ⟨x, hx⟩ := hm
  cases s with
  | skip => cases hx
  | quiet => cases hx
  | new => cases hx; exact .inl rfl
  | app hw s x t v act hop hn ha hr =>
    rcases ha m _ hx with h1 | ⟨ver, off, len, h1⟩
    · exact .inl h1
    · right
      refine ⟨by rw [hop]; rfl, fun hT => ?_, fun hT => ?_⟩
      · have := hn.1
        rw [h1] at this
        simp only [if_pos hT] at this
        exact this
      · have := hn.1
        rw [h1] at this
        simp only [if_neg hT] at this
        exact this
  | call => cases hx

/-- And so it does in whatever order: where it looks at the same. -/
theorem OpSpec.any {v : AV} {act : Option (Nm × Option Row)} (s : OpSpec P C all T W rows0 o i σ h v act) (ht : h.tick = T + 1) {σ' : Nat → AV} {h' : Hp} (ht' : h'.tick = T + 1) (hσ : ∀ t ∈ o.looksAt all, σ' t = σ t)
    (hmask : ∀ n r, maskR T W rows0 n = some r → h'.rows n = some r) (happ : isApp o.op = true → ∀ m : Nm, (m.1 = T → befB (Region.before all) i m.2.1 = true ∧ m.2.2 = 0) → h'.rows m = h.rows m) :
    (wantedA all σ' o = some false ∧ v = .tup [] ∧ act = none) ∨ (wantedA all σ' o = some true ∧ stepW P (fun _ => .tree) C (T, i, 0) o σ' h' (fun v' h'' => v' = v ∧ h'' = ⟨upd act h'.rows, h'.tick⟩)) := by
  have hwant := wantedA_congr (all := all) hσ
  have hop := opd_congr (all := all) hσ
  cases s with
  | skip hw => exact .inl ⟨hwant.trans hw, rfl, rfl⟩
  | quiet hw v he =>
    refine .inr ⟨hwant.trans hw, ?_⟩
    have h1 := evQ_mono hmask (show evQ P (opd σ') (maskR T W rows0) o.op = some v by rw [evQ_congr o.op hop]; exact he)
    unfold stepW
    rw [h1]
    exact ⟨rfl, rfl⟩
  | new hw v r he =>
    refine .inr ⟨hwant.trans hw, ?_⟩
    have h1 : newA P (T, i, 0) (opd σ') o.op = some (v, r) := by rw [newA_congr hop]; exact he
    unfold stepW
    rw [evQ_new (newA_isNew h1), memA_new h1]
    exact ⟨rfl, rfl⟩
  | app hw s x t v act hop' hn ha hr =>
    refine .inr ⟨hwant.trans hw, ?_⟩
    have e1 : opd σ' s = opd σ s := hop s (by rw [hop']; simp [Op.operands, Call.operands])
    have e2 : opd σ' x = opd σ x := hop x (by rw [hop']; simp [Op.operands, Call.operands])
    have happ' := happ (by rw [hop']; rfl)
    have h1 := hr h' (by rw [ht, ht']) (fun m ver off len hs => happ' m fun hT => by
        have := hn.1
        rw [hs] at this
        simp only [if_pos hT] at this
        exact this) (fun m ver off len hx => happ' m fun hT => by
        have := hn.2
        rw [hx] at this
        simp only [if_pos hT] at this
        exact this)
    unfold stepW
    rw [hop']
    have : evQ P (opd σ') h'.rows (.call ⟨.builtin .append, ⟨[s, x]⟩, ⟨[t, t]⟩⟩) = none := rfl
    rw [this]
    simp only [memA, if_true, e1, e2, h1]
    exact ⟨trivial, trivial⟩
  | call hw f args ts g cap v hop' hf hc =>
    refine .inr ⟨hwant.trans hw, ?_⟩
    have e1 : opd σ' f = .fn g cap := by rw [← hf]; exact hop f (by rw [hop']; simp [Op.operands, Call.operands])
    have e2 : args.toList.map (opd σ') = args.toList.map (opd σ) := List.map_congr_left fun x hx => hop x (by rw [hop']; simp [Op.operands, Call.operands]; right; simpa using hx)
    unfold stepW
    rw [hop']
    have : evQ P (opd σ') h'.rows (.call ⟨.value f, args, ts⟩) = none := by cases f <;> rfl
    rw [this]
    have : memA P (T, i, 0) (opd σ') h' (.call ⟨.value f, args, ts⟩) = none := by cases f <;> rfl
    rw [this]
    simp only [e1, e2, callW]
    obtain ⟨targs, r, h1, h2, rfl⟩ := hc
    exact ⟨targs, r, ⟨h1.1, fun j a t ha htt => (h1.2 j a t ha htt).mono hmask⟩, by rw [ht']; exact h2, rfl, rfl⟩
end
end Go.Proofs.Ytfgaoojogididaa.AM
