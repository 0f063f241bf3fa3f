/-
  The A-machine, part 2: arithmetic, comparisons, addresses, slices, strings: what only reckons.
-/
import Derived.Test.YtfgaoojogididaaA1
import Derived.Laws.StructEq
set_option linter.unusedVariables false
set_option linter.unusedSimpArgs false
namespace Go.Proofs.Ytfgaoojogididaa.AM
open Go.RowKit

inductive PK where
  | i | b | s
  deriving DecidableEq

def kindsOf (P : Program) : Nat → List Field → Option (List PK)
  | _, [] => some []
  | n, f :: fs => if f.name = "_" ∨ f.offset ≠ n then none else match P.underlying f.type with
    | some (.int _) => (kindsOf P (n + 1) fs).map (.i :: ·)
    | some .bool => (kindsOf P (n + 1) fs).map (.b :: ·)
    | some .string => (kindsOf P (n + 1) fs).map (.s :: ·)
    | _ => none
/-- The kinds of the cells of a struct that is compared cell by cell. -/
def tkinds (P : Program) (t : TypeId) : Option (List PK) :=
  match P.underlying t with
  | some (.struct fs) => if P.stoodInHeld t = false ∧ P.eqGuardType P.depth t = false then kindsOf P 0 fs.toList else none
  | _ => none

def eqCells : List PK → List AV → List AV → Option Bool
  | [], _, _ => some true
  | .i :: ks, .int k a :: xs, .int k' b :: ys => if k = k' then (if a == b then eqCells ks xs ys else some false) else none
  | .b :: ks, .bool a :: xs, .bool b :: ys => if a == b then eqCells ks xs ys else some false
  | .s :: ks, .str a :: xs, .str b :: ys => if a.toList == b.toList then eqCells ks xs ys else some false
  | _, _, _ => none

def isCst : Operand → Bool
  | .const _ => true
  | _ => false

def binA (P : Program) (op : BinOp) (t : TypeId) (cst : Bool) : AV → AV → Option AV
  | .int k a, .int k' b => if k = k' then match op with
      | .add => some (.int k (k.wrap (a + b)))
      | .sub => some (.int k (k.wrap (a - b)))
      | .mul => some (.int k (k.wrap (a * b)))
      | .quo => if b = 0 then none else some (.int k (k.wrap (a.tdiv b)))
      | .rem => if b = 0 then none else some (.int k (a.tmod b))
      | .and => some (.int k (k.wrap (BitVec.ofInt k.bits a &&& BitVec.ofInt k.bits b).toNat))
      | .eql => some (.bool (a == b))
      | .neq => some (.bool (a != b))
      | .lss => some (.bool (a < b))
      | .leq => some (.bool (a ≤ b))
      | .gtr => some (.bool (a > b))
      | .geq => some (.bool (a ≥ b))
      | _ => none
    else none
  | .str a, .str b => match op with
      | .add => if ((a.size + b.size : Nat) : Int) > IntKind.i64.max then none else some (.str (a ++ b))
      | .eql => some (.bool (a.toList == b.toList))
      | .neq => some (.bool (!(a.toList == b.toList)))
      | _ => none
  | .bool a, .bool b => match P.underlying t, op with
      | some .bool, .eql => some (.bool (a == b))
      | some .bool, .neq => some (.bool (!(a == b)))
      | _, _ => none
  | .agg xs, .agg ys => match op, tkinds P t with
      | .eql, some ks => (eqCells ks xs ys).map .bool
      | .neq, some ks => (eqCells ks xs ys).map fun r => .bool (!r)
      | _, _ => none
  | .errv, .nilif => match P.underlying t, op with
      | some (.interface _), .eql => some (.bool false)
      | some (.interface _), .neq => some (.bool true)
      | _, _ => none
  | .nilif, .nilif => if cst then match P.underlying t, op with
      | some (.interface _), .eql => some (.bool true)
      | some (.interface _), .neq => some (.bool false)
      | _, _ => none
    else none
  | _, _ => none

theorem eqFields_ok {P : Program} {mu : Nm → Nat → Option Loc} {pr : Bool → Nat → Prop} {hp : Array Obj} (w : World) (d : Nat) : ∀ (fs : List Field) (n : Nat) (ks : List PK) (xs ys : List AV) (us vs : Array Value) (r : Bool),
    kindsOf P n fs = some ks → VRs mu pr hp xs (us.toList.drop n) → VRs mu pr hp ys (vs.toList.drop n) → eqCells ks xs ys = some r → (Op.eqFields (d + 1) us vs fs).run P w = .ok r w
  | [], n, ks, xs, ys, us, vs, r, hk, _, _, he => by
    simp [kindsOf] at hk
    subst hk
    simp [eqCells] at he
    subst he
    simp [Op.eqFields]
  | f :: fs, n, ks, xs, ys, us, vs, r, hk, hx, hy, he => by
    unfold kindsOf at hk
    split at hk
    case isTrue => simp at hk
    case isFalse hf =>
      simp only [not_or, Decidable.not_not] at hf
      obtain ⟨hfn, hfo⟩ := hf
      have hpart : ∀ (zs : Array Value) (x : AV) (u : Value) (l : List Value), zs.toList.drop n = u :: l → (isAgg f.type).run P w = .ok false w → (part f.type zs f.offset).run P w = .ok u w := by
        intro zs x u l hl hag
        have : zs[n]? = some u := by
          have : (zs.toList.drop n)[0]? = some u := by rw [hl]; rfl
          simpa using this
        simp [part, hag, hfo, this]
      have hnext : ∀ (zs : Array Value) (u : Value) (l : List Value), zs.toList.drop n = u :: l → zs.toList.drop (n + 1) = l := by
        intro zs u l hl
        rw [← List.drop_drop, hl]
        rfl
      split at hk
      case h_4 => simp at hk
      all_goals
        rename_i hd
        simp only [Option.map_eq_some_iff] at hk
        obtain ⟨ks', hks, rfl⟩ := hk
        have hag : (isAgg f.type).run P w = .ok false w := by simp [isAgg, run_underlying hd]
        unfold eqCells at he
        split at he <;> try (first | (simp at he; done) | (rename_i h; cases h; done))
        rename_i heq
        cases heq
        obtain ⟨u, us', hul, hu, hus⟩ := hx.cons_inv
        obtain ⟨v, vs', hvl, hv, hvs⟩ := hy.cons_inv
        cases hu
        cases hv
        simp only [Op.eqFields, hfn, ne_eq, not_false_eq_true, if_true, Sem.run_bind, hpart us .undef _ _ hul hag, hpart vs .undef _ _ hvl hag, Result.andThen_ok]
        try (split at he; case isFalse => simp at he)
        try (rename_i hkk; subst hkk)
        first
          | rw [run_equalIn_int (h := hd)]
          | rw [run_equalIn_bool' (h := hd)]
          | rw [run_equalIn_string (h := hd)]
        split at he
        · rename_i hab
          simp only [Result.andThen_ok, hab, Bool.not_true, Bool.false_eq_true, if_false]
          exact eqFields_ok w d fs (n + 1) ks' _ _ us vs r hks (by rw [hnext us _ _ hul]; exact hus) (by rw [hnext vs _ _ hvl]; exact hvs) he
        · rename_i hab
          simp only [Option.some.injEq] at he
          subst he
          simp [hab]

theorem run_equalIn_nils {P : Program} (w : World) (d : Nat) (t : TypeId) {ms : Array (String × TypeId)} (h : P.underlying t = some (.interface ms)) : (Op.equalIn (d + 1) t .nilIface .nilIface).run P w = .ok true w := by
  simp only [Op.equalIn, Sem.run_bind, run_underlying h, Result.andThen_ok, Sem.run_pure]
theorem run_equalIn_err {P : Program} (w : World) (d : Nat) (t : TypeId) (tt : TypeId) (v : Value) {ms : Array (String × TypeId)} (h : P.underlying t = some (.interface ms)) : (Op.equalIn (d + 1) t (.iface tt v) .nilIface).run P w = .ok false w := by
  simp only [Op.equalIn, Sem.run_bind, run_underlying h, Result.andThen_ok, Sem.run_pure]
theorem run_eqlx {P : Program} (w : World) (t : TypeId) (u v : Value) (r : Bool) (hb : ∀ w, (binOp .eql t u v).run P w = ((Op.equal t u v).run P w).andThen fun b w' => .ok (.bool b) w') (h : (Op.equalIn 10000 t u v).run P w = .ok r w) :
    (binOp .eql t u v).run P w = .ok (.bool r) w := by
  rw [hb, show Op.equal t u v = Op.equalIn 10000 t u v from rfl, h]; rfl
theorem run_neqx {P : Program} (w : World) (t : TypeId) (u v : Value) (r : Bool) (hb : ∀ w, (binOp .neq t u v).run P w = ((Op.equal t u v).run P w).andThen fun b w' => .ok (.bool (!b)) w') (h : (Op.equalIn 10000 t u v).run P w = .ok r w) :
    (binOp .neq t u v).run P w = .ok (.bool (!r)) w := by
  rw [hb, show Op.equal t u v = Op.equalIn 10000 t u v from rfl, h]; rfl

theorem binA_ok {P : Program} {mu : Nm → Nat → Option Loc} {pr : Bool → Nat → Prop} {hp : Array Obj} (w : World) {op : BinOp} {t : TypeId} {x y : Operand} {a b r : AV} {u v : Value}
    (hu : VR mu pr hp a u) (hv : VR mu pr hp b v) (h : binA P op t (isCst x || isCst y) a b = some r) :
    ∃ z, ((do eqGuard op t x y u v; binOp op t u v : Sem Value)).run P w = .ok z w ∧ VR mu pr hp r z := by
  unfold binA at h
  split at h
  case h_7 => simp at h
  case h_1 k a k' b =>
    cases hu
    cases hv
    split at h
    case isFalse => simp at h
    case isTrue hk =>
      subst hk
      have hg : (eqGuard op t x y (.int k a) (.int k b)).run P w = .ok () w := by cases op <;> simp [eqGuard]
      cases op <;> simp only [Option.some.injEq, reduceCtorEq] at h <;> first
        | (subst h; exact ⟨_, by simp only [Sem.run_bind, hg, Result.andThen_ok]; simp [binOp, Op.intArith, Op.intCmp, Op.intBits]; rfl, by constructor⟩)
        | (split at h
           · simp at h
           · rename_i hb
             simp only [Option.some.injEq] at h
             subst h
             exact ⟨_, by simp only [Sem.run_bind, hg, Result.andThen_ok]; simp [binOp, Op.intDiv, hb]; rfl, by constructor⟩)
  case h_2 a b =>
    cases hu
    cases hv
    have hg : (eqGuard op t x y (.string a) (.string b)).run P w = .ok () w := by cases op <;> simp [eqGuard]
    cases op <;> simp only [Option.some.injEq, reduceCtorEq] at h <;> first
      | (subst h; exact ⟨_, by simp only [Sem.run_bind, hg, Result.andThen_ok]; simp [binOp, Op.stringOp]; rfl, by constructor⟩)
      | (split at h
         · simp at h
         · rename_i hb
           simp only [Option.some.injEq] at h
           subst h
           exact ⟨_, by simp only [Sem.run_bind, hg, Result.andThen_ok]; simp only [binOp, Op.stringOp]; rw [if_neg hb]; rfl, by constructor⟩)
  case h_3 a b =>
    cases hu
    cases hv
    have hg : (eqGuard op t x y (.bool a) (.bool b)).run P w = .ok () w := by cases op <;> simp [eqGuard]
    split at h
    case h_3 => simp at h
    all_goals
      rename_i ht
      simp only [Option.some.injEq] at h
      subst h
      have he := run_equalIn_bool' w 9999 t a b ht
      refine ⟨_, by
        simp only [Sem.run_bind, hg, Result.andThen_ok]
        first
          | exact run_eqlx w t _ _ _ (fun w => by simp [binOp]) he
          | exact run_neqx w t _ _ _ (fun w => by simp [binOp]) he, by constructor⟩
  case h_4 xs ys =>
    obtain ⟨ua, rfl, hxs, _⟩ := hu.agg_inv
    obtain ⟨va, rfl, hys, _⟩ := hv.agg_inv
    have key : ∀ ks r, tkinds P t = some ks → eqCells ks xs ys = some r → (eqGuard op t x y (.agg ua) (.agg va)).run P w = .ok () w ∧ (Op.equalIn 10000 t (.agg ua) (.agg va)).run P w = .ok r w := by
      intro ks r hk he
      unfold tkinds at hk
      split at hk
      case h_2 => simp at hk
      case h_1 fs hd =>
        split at hk
        case isFalse => simp at hk
        case isTrue hc =>
          refine ⟨run_eqGuard_agg w op t x y ua va hc.2, ?_⟩
          have hfo : P.fieldsOf t = fs := by simp [Program.fieldsOf, hd]
          rw [run_equalIn_agg w 9999 t ua va (by rw [hfo]; exact hd) hc.1, hfo]
          exact eqFields_ok w 9998 fs.toList 0 ks xs ys ua va r hk (by simpa using hxs) (by simpa using hys) he
    split at h
    case h_3 => simp at h
    case h_1 ks hk =>
      simp only [Option.map_eq_some_iff] at h
      obtain ⟨r', he, rfl⟩ := h
      obtain ⟨h1, h2⟩ := key ks r' hk he
      exact ⟨_, by simp only [Sem.run_bind, h1, Result.andThen_ok, run_eql_struct, h2], .bool _⟩
    case h_2 ks hk =>
      simp only [Option.map_eq_some_iff] at h
      obtain ⟨r', he, rfl⟩ := h
      obtain ⟨h1, h2⟩ := key ks r' hk he
      exact ⟨_, by simp only [Sem.run_bind, h1, Result.andThen_ok, run_neq_struct, h2], .bool _⟩
  case h_5 =>
    cases hu with
    | errv tt vv =>
      cases hv
      split at h
      case h_3 => simp at h
      all_goals
        rename_i hd
        simp only [Option.some.injEq] at h
        subst h
        have he := run_equalIn_err w 9999 t tt vv hd
        have hg : ∀ op, (eqGuard op t x y (.iface tt vv) .nilIface).run P w = .ok () w := by intro op; cases op <;> simp [eqGuard]
        refine ⟨_, by
          simp only [Sem.run_bind, hg, Result.andThen_ok]
          first
            | exact run_eqlx w t _ _ _ (fun w => by simp [binOp]) he
            | exact run_neqx w t _ _ _ (fun w => by simp [binOp]) he, by constructor⟩
  case h_6 =>
    cases hu
    cases hv
    split at h
    case isFalse => simp at h
    case isTrue hc =>
      have hg : ∀ op, (eqGuard op t x y .nilIface .nilIface).run P w = .ok () w := by
        intro op
        cases x <;> cases y <;> simp only [isCst, Bool.or_self, Bool.or_true, Bool.or_false, Bool.false_eq_true, Bool.true_eq, reduceCtorEq] at hc <;> cases op <;> simp [eqGuard]
      split at h
      case h_3 => simp at h
      all_goals
        rename_i hd
        simp only [Option.some.injEq] at h
        subst h
        have he := run_equalIn_nils w 9999 t hd
        refine ⟨_, by
          simp only [Sem.run_bind, hg, Result.andThen_ok]
          first
            | exact run_eqlx w t _ _ _ (fun w => by simp [binOp]) he
            | exact run_neqx w t _ _ _ (fun w => by simp [binOp]) he, by constructor⟩

end Go.Proofs.Ytfgaoojogididaa.AM
