/-
  The A-machine, part 21: going through code, step by step.
-/
import Derived.Test.YtfgaoojogididaaA20
set_option linter.unusedVariables false
set_option linter.unusedSimpArgs false
namespace Go.Proofs.Ytfgaoojogididaa.AM
open Go.RowKit

section
variable {P : Program} {M : FuncId → Mode} {C : CS} {D : Array Oper → (Nat → AV) → Hp → ((Nat → AV) → Hp → Prop) → Prop} {σ : Nat → AV} {h h' : Hp} {K : Ex → (Nat → AV) → Hp → Prop} {a b : Code}

/-- What comes behind. -/
def KSeq (P : Program) (M : FuncId → Mode) (C : CS) (D : Array Oper → (Nat → AV) → Hp → ((Nat → AV) → Hp → Prop) → Prop) (b : Code) (K : Ex → (Nat → AV) → Hp → Prop) : Ex → (Nat → AV) → Hp → Prop := fun e σ' h' => match e with | .normal => wpC P M C D b σ' h' K | e => K e σ' h'
def KBlk (id : Nat) (K : Ex → (Nat → AV) → Hp → Prop) : Ex → (Nat → AV) → Hp → Prop := fun e σ' h' => match e with | .exit j => if j = id then K .normal σ' h' else K (.exit j) σ' h' | e => K e σ' h'
def KFn (P : Program) (fn : Func) (K : AV → Hp → Prop) : Ex → (Nat → AV) → Hp → Prop := fun e σ h' => match e with | .exit _ => False | _ => resW P fn h' σ K
def KLp {α : Type} (I : α → (Nat → AV) → Hp → Prop) (m : α → Nat) (a : α) (K : Ex → (Nat → AV) → Hp → Prop) : Ex → (Nat → AV) → Hp → Prop := fun e σ' h' => match e with | .normal => ∃ a', m a' < m a ∧ I a' σ' h' | e => K e σ' h'
theorem k_seq_n (w : wpC P M C D b σ h K) : KSeq P M C D b K .normal σ h := w
theorem k_seq_r (w : K .ret σ h) : KSeq P M C D b K .ret σ h := w
theorem k_seq_e {id : Nat} (w : K (.exit id) σ h) : KSeq P M C D b K (.exit id) σ h := w
theorem k_blk_n {id : Nat} (w : K .normal σ h) : KBlk id K .normal σ h := w
theorem k_blk_r {id : Nat} (w : K .ret σ h) : KBlk id K .ret σ h := w
theorem k_blk_s {id : Nat} (w : K .normal σ h) : KBlk id K (.exit id) σ h := by
  show (if id = id then K .normal σ h else _)
  rw [if_pos rfl]
  exact w
theorem k_blk_o {id j : Nat} (hne : (j == id) = false) (w : K (.exit j) σ h) : KBlk id K (.exit j) σ h := by
  show (if j = id then K .normal σ h else K (.exit j) σ h)
  rw [if_neg (by simpa using hne)]
  exact w
theorem k_fn_r {fn : Func} {K : AV → Hp → Prop} (w : resW P fn h σ K) : KFn P fn K .ret σ h := w
theorem k_fn_n {fn : Func} {K : AV → Hp → Prop} (w : resW P fn h σ K) : KFn P fn K .normal σ h := w
theorem k_lp_r {α : Type} {I : α → (Nat → AV) → Hp → Prop} {m : α → Nat} {a : α} (w : K .ret σ h) : KLp I m a K .ret σ h := w
theorem k_lp_e {α : Type} {I : α → (Nat → AV) → Hp → Prop} {m : α → Nat} {a : α} {id : Nat} (w : K (.exit id) σ h) : KLp I m a K (.exit id) σ h := w
theorem k_lp_n {α : Type} {I : α → (Nat → AV) → Hp → Prop} {m : α → Nat} {a : α} (a' : α) (w1 : m a' < m a) (w2 : I a' σ h) : KLp I m a K .normal σ h := ⟨a', w1, w2⟩

theorem st_seq (w : wpC P M C D a σ h (KSeq P M C D b K)) : wpC P M C D (.seq a b) σ h K := w
theorem st_reg {id : Nat} {ops : List Oper} (w : wpOps P M C ops.toArray h.tick ops 0 σ h.next (fun σ' h' => K .normal σ' h')) : wpC P M C D (.region id ops.toArray false) σ h K := w
theorem st_draw {id : Nat} {ops : List Oper} (f : Nat) (W : Nm → Bool) (hd : drawOk ops.toArray f = true)
    (w : frontW P M C ops.toArray h.tick W h.rows (ops.take f) 0 σ h.next (fun σ' h' => wpOps P M C ops.toArray h.tick (ops.drop f) f σ' h' (fun σ' h' => K .normal σ' h'))) : wpC P M C (drawW P M C) (.region id ops.toArray true) σ h K := ⟨f, W, hd, w⟩
theorem st_skip (w : K .normal σ h) : wpC P M C D .skip σ h K := w
theorem st_ret (w : K .ret σ h) : wpC P M C D .ret σ h K := w
theorem st_exit {id : Nat} (w : K (.exit id) σ h) : wpC P M C D (.exit id) σ h K := w
theorem st_block {id : Nat} (w : wpC P M C D a σ h (KBlk id K)) : wpC P M C D (.block id a) σ h K := w

/-- What comes of an evaluation. -/
def Ev {α : Type} (x : Option α) (k : α → Prop) : Prop := match x with | some v => k v | none => False
def Ev2 (x : Option (AV × Hp)) (k : AV → Hp → Prop) : Prop := match x with | some r => k r.1 r.2 | none => False
theorem ev2_some {v : AV} {h : Hp} {k : AV → Hp → Prop} (w : k v h) : Ev2 (some (v, h)) k := w
def EvN (x : Option (AV × Row)) (k : AV → Row → Prop) : Prop := match x with | some r => k r.1 r.2 | none => False
theorem evn_some {v : AV} {r : Row} {k : AV → Row → Prop} (w : k v r) : EvN (some (v, r)) k := w
def At {α : Type} (x : α) (k : α → Prop) : Prop := k x
/-- A branch. -/
def Br (x : AV) (k1 k2 : Prop) : Prop := match x with | .bool b => (b = true → k1) ∧ (b = false → k2) | _ => False
/-- What an operation yielded. -/
def gdv (all : Array Oper) (σ : Nat → AV) (j : Nat) : AV := match all[j]? with | some o' => (match o'.dst with | some d => σ d | none => .undef) | none => .undef
/-- A guard. -/
def Gd (want : Bool) (x : AV) (k1 k2 : Prop) : Prop := match x with | .bool b => (b = want → k1) ∧ (b ≠ want → k2) | .tup [] => k2 | _ => False
theorem br_t {k1 k2 : Prop} (w : k1) : Br (.bool true) k1 k2 := ⟨fun _ => w, fun e => by cases e⟩
theorem br_f {k1 k2 : Prop} (w : k2) : Br (.bool false) k1 k2 := ⟨fun e => (by cases e), fun _ => w⟩
theorem br_b {b : Bool} {k1 k2 : Prop} (w1 : b = true → k1) (w2 : b = false → k2) : Br (.bool b) k1 k2 := ⟨w1, w2⟩
theorem gd_tt {k1 k2 : Prop} (w : k1) : Gd true (.bool true) k1 k2 := ⟨fun _ => w, fun e => absurd rfl e⟩
theorem gd_ff {k1 k2 : Prop} (w : k1) : Gd false (.bool false) k1 k2 := ⟨fun _ => w, fun e => absurd rfl e⟩
theorem gd_tf {k1 k2 : Prop} (w : k2) : Gd true (.bool false) k1 k2 := ⟨fun e => (by cases e), fun _ => w⟩
theorem gd_ft {k1 k2 : Prop} (w : k2) : Gd false (.bool true) k1 k2 := ⟨fun e => (by cases e), fun _ => w⟩
theorem gd_no {want : Bool} {k1 k2 : Prop} (w : k2) : Gd want (.tup []) k1 k2 := w
theorem ev_some {α : Type} {v : α} {k : α → Prop} (h : k v) : Ev (some v) k := h
theorem at_mk {α : Type} {v : α} {k : α → Prop} (h : k v) : At v k := h

variable {all : Array Oper} {T i : Nat} {o : Oper} {rest : List Oper} {N : (Nat → AV) → Hp → Prop} {v : AV} {dst : Option Tmp} {op : Op} {ty : TypeId} {pos : String} {aft : Array Edge}
theorem st_nil (w : N σ h) : wpOps P M C all T [] i σ h N := w
theorem wanted_none : wantedA all σ ⟨dst, op, ty, pos, aft, none⟩ = some true := rfl
theorem st_move {x : Operand} (w : At (opd σ x) fun v => wpOps P M C all T rest (i + 1) (putA dst v σ) h N) : wpOps P M C all T (⟨dst, .move x, ty, pos, aft, none⟩ :: rest) i σ h N := w
theorem st_asg {x : Operand} (w : At (opd σ x) fun v => wpOps P M C all T rest (i + 1) (putA dst v σ) h N) : wpOps P M C all T (⟨dst, .assign x, ty, pos, aft, none⟩ :: rest) i σ h N := w
theorem st_q (w : Ev (evQ P (opd σ) h.rows op) fun v => wpOps P M C all T rest (i + 1) (putA dst v σ) h N) : wpOps P M C all T (⟨dst, op, ty, pos, aft, none⟩ :: rest) i σ h N := by
  unfold wpOps
  rw [wanted_none]
  cases he : evQ P (opd σ) h.rows op with
  | none => rw [he] at w; exact w.elim
  | some v =>
    rw [he] at w
    simp only [stepW, he]
    exact w
/-- Operations on memory. -/
def isM : Op → Bool
  | .alloc _ | .box .. | .buildSlice .. | .makeSlice .. | .store .. => true
  | .call ⟨.builtin .append, _, _⟩ | .call ⟨.builtin .copy, _, _⟩ | .call ⟨.builtin .clear, _, _⟩ => true
  | _ => false
theorem evQ_isM {ρ : Operand → AV} {rows : Nm → Option Row} (hm : isM op = true) : evQ P ρ rows op = none := by
  cases op <;> try (first | rfl | (simp [isM] at hm; done))
  rename_i c
  obtain ⟨f, args, ts⟩ := c
  cases f <;> try (first | rfl | (simp [isM] at hm; done))
  rename_i b
  cases b <;> first | rfl | (simp [isM] at hm; done)
theorem st_m (hm : isM op = true) (w : Ev2 (memA P (T, i, 0) (opd σ) h op) fun v h' => wpOps P M C all T rest (i + 1) (putA dst v σ) h' N) : wpOps P M C all T (⟨dst, op, ty, pos, aft, none⟩ :: rest) i σ h N := by
  unfold wpOps
  rw [wanted_none]
  simp only [stepW, evQ_isM hm]
  cases he : memA P (T, i, 0) (opd σ) h op with
  | none => rw [he] at w; exact w.elim
  | some r =>
    rw [he] at w
    exact w
theorem st_c {args : Array Operand} {ts : Array TypeId} {g : FuncId} (w : At (args.toList.map (opd σ)) fun as => callW M C g as h (fun v h' => wpOps P M C all T rest (i + 1) (putA dst v σ) h' N)) :
    wpOps P M C all T (⟨dst, .call ⟨.value (.func g), args, ts⟩, ty, pos, aft, none⟩ :: rest) i σ h N := by
  unfold wpOps
  rw [wanted_none]
  have h1 : evQ P (opd σ) h.rows (.call ⟨.value (.func g), args, ts⟩) = none := rfl
  have h2 : memA P (T, i, 0) (opd σ) h (.call ⟨.value (.func g), args, ts⟩) = none := rfl
  simp only [stepW, h1, h2, opd, List.append_nil]
  exact w
/-- A guarded operation. -/
theorem st_no (hg : wantedA all σ o = some false) (w : wpOps P M C all T rest (i + 1) (putA o.dst (.tup []) σ) h N) : wpOps P M C all T (o :: rest) i σ h N := by
  unfold wpOps
  rw [hg]
  exact w
theorem st_yes (hg : wantedA all σ o = some true) (w : wpOps P M C all T ({ o with guard := none } :: rest) i σ h N) : wpOps P M C all T (o :: rest) i σ h N := by
  unfold wpOps at *
  rw [hg]
  exact w
theorem st_g {j : Nat} {want : Bool} (w : At (gdv all σ j) fun x => Gd want x (wpOps P M C all T (⟨dst, op, ty, pos, aft, none⟩ :: rest) i σ h N) (wpOps P M C all T rest (i + 1) (putA dst (.tup []) σ) h N)) : wpOps P M C all T (⟨dst, op, ty, pos, aft, some (j, want)⟩ :: rest) i σ h N := by
  have hdv : ∀ b, gdv all σ j = .bool b → wantedA all σ ⟨dst, op, ty, pos, aft, some (j, want)⟩ = some (b == want) := by
    intro b hb
    unfold gdv at hb
    unfold wantedA
    simp only
    split at hb
    · rename_i o' ho'
      rw [ho']
      simp only
      split at hb
      · rename_i d hd
        rw [hd]
        simp only [hb]
      · cases hb
    · cases hb
  have hdt : gdv all σ j = .tup [] → wantedA all σ ⟨dst, op, ty, pos, aft, some (j, want)⟩ = some false := by
    intro hb
    unfold gdv at hb
    unfold wantedA
    simp only
    split at hb
    · rename_i o' ho'
      rw [ho']
      simp only
      split at hb
      · rename_i d hd
        rw [hd]
        simp only [hb]
      · cases hb
    · cases hb
  have hw : ∀ b, wantedA all σ ⟨dst, op, ty, pos, aft, some (j, want)⟩ = some b → (b = true → wpOps P M C all T (⟨dst, op, ty, pos, aft, none⟩ :: rest) i σ h N) → (b = false → wpOps P M C all T rest (i + 1) (putA dst (.tup []) σ) h N) → wpOps P M C all T (⟨dst, op, ty, pos, aft, some (j, want)⟩ :: rest) i σ h N := by
    intro b hb k1 k2
    cases b with
    | true => exact st_yes hb (k1 rfl)
    | false => exact st_no hb (k2 rfl)
  unfold At at w
  cases hd : gdv all σ j with
  | bool b =>
    rw [hd] at w
    refine hw (b == want) (hdv _ hd) (fun e => w.1 (by simpa using e)) (fun e => w.2 (by simpa using e))
  | tup l =>
    rw [hd] at w
    cases l with
    | nil => exact hw false (hdt hd) (fun e => by cases e) (fun _ => w)
    | cons _ _ => exact w.elim
  | _ => rw [hd] at w; exact w.elim

theorem st_tree {g : FuncId} {args targs : List AV} {r : AV} {N : AV → Hp → Prop} (hm : M g = .tree) (hp : Pure P g targs r) (ha : DRs true h.rows args targs) (hk : N r h) : callW M (Sound P) g args h N := by
  unfold callW
  rw [hm]
  exact treeW_pure hp ha hk
theorem st_fresh {g : FuncId} {args targs : List AV} {r : Bool → AV} {N : AV → Hp → Prop} (hm : M g = .fresh) (hp : Fresh P g targs r) (ha : DRs true h.rows args targs)
    (hk : ∀ v h' ns, (∀ c, OwnV h'.rows c v (r c) ns) → ns.Nodup → (∀ n ∈ ns, h.tick ≤ n.1 ∧ n.1 < h'.tick) → (∀ n, n.1 < h.tick → h'.rows n = h.rows n) → h.tick ≤ h'.tick → N v h') : callW M (Sound P) g args h N := by
  unfold callW
  rw [hm]
  exact freshW_of hp ha hk
theorem st_heap {g : FuncId} {args : List AV} {N : AV → Hp → Prop} (hm : M g = .heap) {N' : AV → Hp → Prop} (hp : Sound P g args h N') (hk : ∀ v h', N' v h' → N v h') : callW M (Sound P) g args h N := by
  unfold callW
  rw [hm]
  exact hp.mono hk

theorem st_if {c : Operand} (w : At (opd σ c) fun x => Br x (wpC P M C D a σ h K) (wpC P M C D b σ h K)) : wpC P M C D (.cond c a b) σ h K := by
  unfold At at w
  simp only [wpC]
  cases hx : opd σ c with
  | bool t =>
    rw [hx] at w
    cases t
    · exact w.2 rfl
    · exact w.1 rfl
  | _ => rw [hx] at w; exact w.elim

/-! Regions that draw -/
variable {W : Nm → Bool} {rows0 : Nm → Option Row}
theorem fr_nil (w : N σ h) : frontW P M C all T W rows0 [] i σ h N := w
theorem fr_q (w : Ev (evQ P (opd σ) (maskR T W rows0) op) fun v => frontW P M C all T W rows0 rest (i + 1) (putA dst v σ) h N) : frontW P M C all T W rows0 (⟨dst, op, ty, pos, aft, none⟩ :: rest) i σ h N := by
  unfold frontW
  rw [wanted_none]
  cases he : evQ P (opd σ) (maskR T W rows0) op with
  | none => rw [he] at w; exact w.elim
  | some v =>
    rw [he] at w
    simp only
    exact w
theorem fr_n (hm : isNew op = true) (w : EvN (newA P (T, i, 0) (opd σ) op) fun v r => frontW P M C all T W rows0 rest (i + 1) (putA dst v σ) (h.put (T, i, 0) r) N) : frontW P M C all T W rows0 (⟨dst, op, ty, pos, aft, none⟩ :: rest) i σ h N := by
  unfold frontW
  rw [wanted_none]
  simp only [evQ_new hm]
  cases he : newA P (T, i, 0) (opd σ) op with
  | none => rw [he] at w; exact w.elim
  | some r =>
    rw [he] at w
    exact w
theorem fr_a {s x : Operand} {t : TypeId} (w : At (opd σ s) fun s' => At (opd σ x) fun x' => appNames (Region.before all) T i W s' x' ∧ Ev2 (appendA P t s' x' h (T, i, 0)) fun v h' => frontW P M C all T W rows0 rest (i + 1) (putA dst v σ) h' N) :
    frontW P M C all T W rows0 (⟨dst, .call ⟨.builtin .append, ⟨[s, x]⟩, ⟨[t, t]⟩⟩, ty, pos, aft, none⟩ :: rest) i σ h N := by
  unfold frontW
  rw [wanted_none]
  obtain ⟨w1, w2⟩ := w
  have h1 : evQ P (opd σ) (maskR T W rows0) (.call ⟨.builtin .append, ⟨[s, x]⟩, ⟨[t, t]⟩⟩) = none := rfl
  have h2 : newA P (T, i, 0) (opd σ) (.call ⟨.builtin .append, ⟨[s, x]⟩, ⟨[t, t]⟩⟩) = none := rfl
  simp only [h1, h2, if_true]
  cases he : appendA P t (opd σ s) (opd σ x) h (T, i, 0) with
  | none => rw [he] at w2; exact w2.elim
  | some r =>
    rw [he] at w2
    exact ⟨w1, w2⟩
theorem fr_c {args : Array Operand} {ts : Array TypeId} {g : FuncId} (w : At (args.toList.map (opd σ)) fun as => treeW C g (maskR T W rows0) as (T + 1) fun v => frontW P M C all T W rows0 rest (i + 1) (putA dst v σ) h N) :
    frontW P M C all T W rows0 (⟨dst, .call ⟨.value (.func g), args, ts⟩, ty, pos, aft, none⟩ :: rest) i σ h N := by
  unfold frontW
  rw [wanted_none]
  have h1 : evQ P (opd σ) (maskR T W rows0) (.call ⟨.value (.func g), args, ts⟩) = none := rfl
  have h2 : newA P (T, i, 0) (opd σ) (.call ⟨.value (.func g), args, ts⟩) = none := rfl
  simp only [h1, h2, opd, List.append_nil]
  exact w
theorem fr_no (hg : wantedA all σ o = some false) (w : frontW P M C all T W rows0 rest (i + 1) (putA o.dst (.tup []) σ) h N) : frontW P M C all T W rows0 (o :: rest) i σ h N := by
  unfold frontW
  rw [hg]
  exact w
theorem fr_yes (hg : wantedA all σ o = some true) (w : frontW P M C all T W rows0 ({ o with guard := none } :: rest) i σ h N) : frontW P M C all T W rows0 (o :: rest) i σ h N := by
  unfold frontW at *
  rw [hg]
  exact w
theorem fr_g {j : Nat} {want : Bool} (w : At (gdv all σ j) fun x => Gd want x (frontW P M C all T W rows0 (⟨dst, op, ty, pos, aft, none⟩ :: rest) i σ h N) (frontW P M C all T W rows0 rest (i + 1) (putA dst (.tup []) σ) h N)) : frontW P M C all T W rows0 (⟨dst, op, ty, pos, aft, some (j, want)⟩ :: rest) i σ h N := by
  have hdv : ∀ b, gdv all σ j = .bool b → wantedA all σ ⟨dst, op, ty, pos, aft, some (j, want)⟩ = some (b == want) := by
    intro b hb
    unfold gdv at hb
    unfold wantedA
    simp only
    split at hb
    · rename_i o' ho'
      rw [ho']
      simp only
      split at hb
      · rename_i d hd
        rw [hd]
        simp only [hb]
      · cases hb
    · cases hb
  have hdt : gdv all σ j = .tup [] → wantedA all σ ⟨dst, op, ty, pos, aft, some (j, want)⟩ = some false := by
    intro hb
    unfold gdv at hb
    unfold wantedA
    simp only
    split at hb
    · rename_i o' ho'
      rw [ho']
      simp only
      split at hb
      · rename_i d hd
        rw [hd]
        simp only [hb]
      · cases hb
    · cases hb
  have hw : ∀ b, wantedA all σ ⟨dst, op, ty, pos, aft, some (j, want)⟩ = some b → (b = true → frontW P M C all T W rows0 (⟨dst, op, ty, pos, aft, none⟩ :: rest) i σ h N) → (b = false → frontW P M C all T W rows0 rest (i + 1) (putA dst (.tup []) σ) h N) → frontW P M C all T W rows0 (⟨dst, op, ty, pos, aft, some (j, want)⟩ :: rest) i σ h N := by
    intro b hb k1 k2
    cases b with
    | true => exact fr_yes hb (k1 rfl)
    | false => exact fr_no hb (k2 rfl)
  unfold At at w
  cases hd : gdv all σ j with
  | bool b =>
    rw [hd] at w
    refine hw (b == want) (hdv _ hd) (fun e => w.1 (by simpa using e)) (fun e => w.2 (by simpa using e))
  | tup l =>
    rw [hd] at w
    cases l with
    | nil => exact hw false (hdt hd) (fun e => by cases e) (fun _ => w)
    | cons _ _ => exact w.elim
  | _ => rw [hd] at w; exact w.elim

theorem putA_get (d : Nat) (v : AV) (σ : Nat → AV) (t : Nat) : putA (some d) v σ t = if t = d then v else σ t := by
  by_cases h : t = d
  · rw [if_pos h]; exact if_pos h
  · rw [if_neg h]; exact if_neg h
theorem putA_none (v : AV) (σ : Nat → AV) : putA none v σ = σ := funext fun n => (by cases hr : σ n <;> exact hr)
theorem opd_tmp (σ : Nat → AV) (t : Nat) : opd σ (.tmp t) = σ t := rfl
end

def envOf (args : List AV) : Nat → AV := fun i => args.getD i (.tup [])
theorem envOf_0 (a : AV) (l : List AV) : envOf (a :: l) 0 = a := rfl
theorem envOf_1 (a b : AV) (l : List AV) : envOf (a :: b :: l) 1 = b := rfl
theorem envOf_2 (a b c : AV) (l : List AV) : envOf (a :: b :: c :: l) 2 = c := rfl
theorem envOf_3 (a b c d : AV) (l : List AV) : envOf (a :: b :: c :: d :: l) 3 = d := rfl
theorem envOf_4 (a b c d e : AV) (l : List AV) : envOf (a :: b :: c :: d :: e :: l) 4 = e := rfl
theorem envOf_5 (a b c d e f : AV) (l : List AV) : envOf (a :: b :: c :: d :: e :: f :: l) 5 = f := rfl
theorem envOf_6 (a b c d e f g : AV) (l : List AV) : envOf (a :: b :: c :: d :: e :: f :: g :: l) 6 = g := rfl

/-! (Not by 'rfl': simp is to leave proofs, else the kernel has to find them again.) -/
theorem hp_next_rows (h : Hp) : h.next.rows = h.rows := funext fun n => (by cases hr : h.rows n <;> exact hr)
theorem hp_next_tick (h : Hp) : h.next.tick = h.tick + 1 := Nat.le_antisymm (Nat.le_refl _) (Nat.le_refl _)
theorem hp_put_tick (h : Hp) (n : Nm) (r : Row) : (h.put n r).tick = h.tick := Nat.le_antisymm (Nat.le_refl _) (Nat.le_refl _)
theorem hp_mt_rows (t : Nat) (n : Nm) : (Hp.mt t).rows n = none := rfl
theorem hp_mt_tick (t : Nat) : (Hp.mt t).tick = t := Nat.le_antisymm (Nat.le_refl _) (Nat.le_refl _)

@[simp] theorem one_int (k : IntKind) (n : Int) : AV.one (.int k n) = true := rfl
@[simp] theorem stored_int (k : IntKind) (n : Int) : AV.stored (.int k n) = true := rfl
@[simp] theorem cells_int (k : IntKind) (n : Int) : AV.cells (.int k n) = [.int k n] := rfl
@[simp] theorem one_bool (b : Bool) : AV.one (.bool b) = true := rfl
@[simp] theorem stored_bool (b : Bool) : AV.stored (.bool b) = true := rfl
@[simp] theorem cells_bool (b : Bool) : AV.cells (.bool b) = [.bool b] := rfl
@[simp] theorem one_str (s : ByteArray) : AV.one (.str s) = true := rfl
@[simp] theorem stored_str (s : ByteArray) : AV.stored (.str s) = true := rfl
@[simp] theorem cells_str (s : ByteArray) : AV.cells (.str s) = [.str s] := rfl
@[simp] theorem one_nilsl  : AV.one (.nilsl) = true := rfl
@[simp] theorem stored_nilsl  : AV.stored (.nilsl) = true := rfl
@[simp] theorem cells_nilsl  : AV.cells (.nilsl) = [.nilsl] := rfl
@[simp] theorem one_tr (b : Bool) (l : List (List AV)) : AV.one (.tr b l) = true := rfl
@[simp] theorem stored_tr (b : Bool) (l : List (List AV)) : AV.stored (.tr b l) = true := rfl
@[simp] theorem cells_tr (b : Bool) (l : List (List AV)) : AV.cells (.tr b l) = [.tr b l] := rfl
@[simp] theorem one_sl (n : Nm) (v o l : Nat) : AV.one (.sl n v o l) = true := rfl
@[simp] theorem stored_sl (n : Nm) (v o l : Nat) : AV.stored (.sl n v o l) = true := rfl
@[simp] theorem cells_sl (n : Nm) (v o l : Nat) : AV.cells (.sl n v o l) = [.sl n v o l] := rfl
@[simp] theorem one_nilp  : AV.one (.nilp) = true := rfl
@[simp] theorem stored_nilp  : AV.stored (.nilp) = true := rfl
@[simp] theorem cells_nilp  : AV.cells (.nilp) = [.nilp] := rfl
@[simp] theorem one_ptr (n : Nm) (v i o : Nat) : AV.one (.ptr n v i o) = true := rfl
@[simp] theorem stored_ptr (n : Nm) (v i o : Nat) : AV.stored (.ptr n v i o) = true := rfl
@[simp] theorem cells_ptr (n : Nm) (v i o : Nat) : AV.cells (.ptr n v i o) = [.ptr n v i o] := rfl
@[simp] theorem one_tptr (b : Bool) (l : List AV) : AV.one (.tptr b l) = true := rfl
@[simp] theorem stored_tptr (b : Bool) (l : List AV) : AV.stored (.tptr b l) = true := rfl
@[simp] theorem cells_tptr (b : Bool) (l : List AV) : AV.cells (.tptr b l) = [.tptr b l] := rfl
@[simp] theorem one_nilif  : AV.one (.nilif) = true := rfl
@[simp] theorem stored_nilif  : AV.stored (.nilif) = true := rfl
@[simp] theorem cells_nilif  : AV.cells (.nilif) = [.nilif] := rfl
@[simp] theorem one_errv  : AV.one (.errv) = true := rfl
@[simp] theorem stored_errv  : AV.stored (.errv) = true := rfl
@[simp] theorem cells_errv  : AV.cells (.errv) = [.errv] := rfl
@[simp] theorem stored_agg (l : List AV) : AV.stored (.agg l) = ones l := rfl
@[simp] theorem cells_agg (l : List AV) : AV.cells (.agg l) = l := rfl
@[simp] theorem ones_nil : ones [] = true := rfl
@[simp] theorem ones_cons (a : AV) (l : List AV) : ones (a :: l) = (a.one && ones l) := rfl
@[simp] theorem one_ints' (c : Bool) (xs : List Int) : (ints c xs).one = true := rfl
@[simp] theorem one_intss' (c : Bool) (xs : List (List Int)) : (intss c xs).one = true := rfl

theorem int_beq (a b : Int) : (a == b) = decide (a = b) := rfl
theorem int_bne (a b : Int) : (a != b) = !decide (a = b) := rfl

/-- A loop. -/
theorem st_loop {P : Program} {M : FuncId → Mode} {α : Type} (I : α → (Nat → AV) → Hp → Prop) (m : α → Nat) (a : α) {body : Code} {K : Ex → (Nat → AV) → Hp → Prop} {σ : Nat → AV} {h : Hp} (init : I a σ h)
    (step : ∀ a σ h, I a σ h → wpC P M (Sound P) (drawW P M (Sound P)) body σ h (KLp I m a K)) : wpC P M (Sound P) (drawW P M (Sound P)) (.loop body) σ h K :=
  wpC_inv Sound.le drawW_le I m step a init

/-- Into a function. -/
theorem enter {P : Program} (hm : P.follows .mixedOrders = true) (M : FuncId → Mode) {f : FuncId} {args : List AV} {h : Hp} {K : AV → Hp → Prop} {fn : Func} {c : Code} (h1 : P.funcs[f]? = some fn) (h2 : fn.body = some c) (h3 : (codeOk fn.ntmps c && !(fn.name == "runtime.NumGoroutine")) = true)
    (h4 : decide (args.length ≤ fn.ntmps) = true)
    (hw : wpC P M (Sound P) (drawW P M (Sound P)) c (envOf args) h (KFn P fn K)) : Sound P f args h K :=
  wpF_ok (drawW_ok hm) ⟨fn, c, h1, h2, h3, of_decide_eq_true h4, hw⟩

theorem st_res {P : Program} {fn : Func} {h : Hp} {σ : Nat → AV} {K : AV → Hp → Prop} (w : Ev (resA P h σ fn.results.toList) fun vs => K (resV vs) h) : resW P fn h σ K := by
  unfold resW
  cases hr : resA P h σ fn.results.toList with
  | none => rw [hr] at w; exact w.elim
  | some vs => rw [hr] at w; exact w
end Go.Proofs.Ytfgaoojogididaa.AM
