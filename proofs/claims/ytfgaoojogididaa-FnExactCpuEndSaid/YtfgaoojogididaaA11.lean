/-
  The A-machine, part 11: soundness: one operation, a region in its order, calls.
-/
import Derived.Test.YtfgaoojogididaaA10
set_option linter.unusedVariables false
set_option linter.unusedSimpArgs false
namespace Go.Proofs.Ytfgaoojogididaa.AM
open Go.RowKit

section
variable {P : Program} {mu mu' : Nm → Nat → Option Loc} {pr pr' : Bool → Nat → Prop} {hp hp' : Array Obj} {h h' : Hp} {w w' : World}

theorem Gives.afterB {s : Sem Value} {r : AV} {z : Value} {B : Nat} (g : Gives P mu pr w s r h' mu' z w') (htick : h.tick ≤ h'.tick) (hn : ∀ n, n.1 < B → (∀ v, mu n v = none) → ∀ v, mu' n v = none) :
    AfterB B mu pr h w mu' pr h' w' := ⟨g.rel, g.ext, g.fr, fun b hb => .inl hb, fun b hb => hb, hn, htick⟩

theorem allocA_tick {t : TypeId} {n : Nm} {r : AV} (he : allocA P t h n = some (r, h')) : h'.tick = h.tick := by
  unfold allocA at he
  split at he
  · split at he
    · cases he; rfl
    · cases he
  · cases he
theorem boxA_tick {x : AV} {n : Nm} {r : AV} (he : boxA x h n = some (r, h')) : h'.tick = h.tick := by
  unfold boxA at he
  split at he
  · cases he; rfl
  · cases he
theorem buildSliceA_tick {t : TypeId} {len : Nat} {ps : List (Nat × AV)} {n : Nm} {r : AV} (he : buildSliceA P t len ps h n = some (r, h')) : h'.tick = h.tick := by
  unfold buildSliceA at he
  (repeat' split at he) <;> first | (cases he; done) | (cases he; rfl)
theorem makeSliceA_tick {t : TypeId} {l c : AV} {n : Nm} {r : AV} (he : makeSliceA P t l c h n = some (r, h')) : h'.tick = h.tick := by
  unfold makeSliceA at he
  (repeat' split at he) <;> first | (cases he; done) | (cases he; rfl)
theorem storeA_tick {t : TypeId} {p x : AV} (he : storeA P t p x h = some h') : h'.tick = h.tick := by
  unfold storeA at he
  (repeat' split at he) <;> first | (cases he; done) | (cases he; rfl)
theorem appendA_tick {t : TypeId} {d x : AV} {n : Nm} {r : AV} (he : appendA P t d x h n = some (r, h')) : h'.tick = h.tick := by
  unfold appendA at he
  (repeat' split at he) <;> first | (cases he; done) | (cases he; rfl)
theorem copyA_tick {t : TypeId} {d x : AV} {r : AV} (he : copyA P t d x h = some (r, h')) : h'.tick = h.tick := by
  unfold copyA at he
  (repeat' split at he) <;> first | (cases he; done) | (cases he; rfl)
theorem clearA_tick {t : TypeId} {d : AV} (he : clearA P t d h = some h') : h'.tick = h.tick := by
  unfold clearA at he
  (repeat' split at he) <;> first | (cases he; done) | (cases he; rfl)

/-- What an operation hands on. -/
def gives (nx : Next) (z : Value) : Prop := nx = .value z ∨ (nx = .skip ∧ z = undef)

theorem memA_ok (R : Rel mu pr h w) {o : Oper} {ρ : Operand → AV} {σ : Operand → Value} (hρ : ∀ x, VR mu pr w.heap (ρ x) (σ x)) {n : Nm} (hfree : ∀ v, mu n v = none) (htick : n.1 < h.tick) {r : AV}
    (he : memA P n ρ h o.op = some (r, h')) : ∃ mu' z w' nx, (execOp σ o).run P w = .ok nx w' ∧ gives nx z ∧ VR mu' pr w'.heap r z ∧ AfterB 0 mu pr h w mu' pr h' w' ∧ ∀ m, m ≠ n → (∀ v, mu m v = none) → ∀ v, mu' m v = none := by
  have lift : ∀ {s : Sem Value} {z : Value} {w' : World}, s.run P w = .ok z w' → ((do pure (.value (← s)) : Sem Next)).run P w = .ok (.value z) w' := by
    intro s z w' hs
    simp [hs]
  have same : ∀ {mu' : Nm → Nat → Option Loc}, (∀ m v, m ≠ n → mu' m v = mu m v) → ∀ m, m ≠ n → (∀ v, mu m v = none) → ∀ v, mu' m v = none := fun hm m hmn hf v => by rw [hm m v hmn]; exact hf v
  have same' : ∀ {mu' : Nm → Nat → Option Loc}, (∀ m v, mu' m v = mu m v) → ∀ m, m ≠ n → (∀ v, mu m v = none) → ∀ v, mu' m v = none := fun hm m hmn hf v => by rw [hm m v]; exact hf v
  obtain ⟨dst, op, type, pos, after, guard⟩ := o
  simp only at he
  unfold memA at he
  split at he
  case h_9 => cases he
  case h_1 t =>
    obtain ⟨mu', z, w', g, hm⟩ := allocA_ok R hfree htick he (.tuple #[])
    exact ⟨mu', z, w', _, lift g.run, .inl rfl, g.val, g.afterB (by rw [allocA_tick he]; exact Nat.le_refl _) (fun n hn => by omega), same hm⟩
  case h_2 t x =>
    obtain ⟨mu', z, w', g, hm⟩ := boxA_ok (t := t) R (hρ x) hfree htick he
    exact ⟨mu', z, w', _, lift g.run, .inl rfl, g.val, g.afterB (by rw [boxA_tick he]; exact Nat.le_refl _) (fun n hn => by omega), same hm⟩
  case h_3 t len parts =>
    obtain ⟨mu', z, w', g, hm⟩ := buildSliceA_ok R hρ hfree htick he
    exact ⟨mu', z, w', _, lift g.run, .inl rfl, g.val, g.afterB (by rw [buildSliceA_tick he]; exact Nat.le_refl _) (fun n hn => by omega), same hm⟩
  case h_4 t l c =>
    obtain ⟨mu', z, w', g, hm⟩ := makeSliceA_ok R (hρ l) (hρ c) hfree htick he
    exact ⟨mu', z, w', _, lift g.run, .inl rfl, g.val, g.afterB (by rw [makeSliceA_tick he]; exact Nat.le_refl _) (fun n hn => by omega), same hm⟩
  case h_5 t a x =>
    split at he
    case h_2 => cases he
    case h_1 h1 hs =>
      cases he
      obtain ⟨mu', w', g1, g2, g3, g4, g5⟩ := storeA_ok R (hρ a) (hρ x) hs
      refine ⟨mu', undef, w', .skip, by simp [execOp, g1], .inr ⟨rfl, rfl⟩, VR.tup_mk .nil, ⟨g2, g3, g4, fun b hb => .inl hb, fun b hb => hb, fun n hn => by omega, by rw [storeA_tick hs]; exact Nat.le_refl _⟩, same' g5⟩
  case h_6 s x t t' =>
    split at he
    case isFalse => cases he
    case isTrue ht =>
      subst ht
      obtain ⟨mu', z, w', g, hm⟩ := appendA_ok (ty := type) R (hρ s) (hρ x) hfree htick he
      exact ⟨mu', z, w', .value z, by simp [execOp, resolve, invoke, builtin, g.run], .inl rfl, g.val, g.afterB (by rw [appendA_tick he]; exact Nat.le_refl _) (fun n hn => by omega), hm⟩
  case h_7 d x t t' =>
    obtain ⟨mu', z, w', g, hm⟩ := copyA_ok (t' := t') (ty := type) R (hρ d) (hρ x) he
    exact ⟨mu', z, w', .value z, by simp [execOp, resolve, invoke, builtin, g.run], .inl rfl, g.val, g.afterB (by rw [copyA_tick he]; exact Nat.le_refl _) (fun n hn => by omega), same' hm⟩
  case h_8 d t =>
    split at he
    case h_2 => cases he
    case h_1 h1 hs =>
      cases he
      obtain ⟨mu', w', g1, g2, g3, g4, g5⟩ := clearA_ok (ty := type) R (hρ d) hs
      refine ⟨mu', .tuple #[], w', .value (.tuple #[]), by simp [execOp, resolve, invoke, builtin, g1], .inl rfl, VR.tup_mk .nil, ⟨g2, g3, g4, fun b hb => .inl hb, fun b hb => hb, fun n hn => by omega, by rw [clearA_tick hs]; exact Nat.le_refl _⟩, same' g5⟩

/-! ### Environments -/
def EnvR (mu : Nm → Nat → Option Loc) (pr : Bool → Nat → Prop) (hp : Array Obj) (σ : Nat → AV) (a : Act) (N : Nat) : Prop := a.tmps.size = N ∧ ∀ t, VR mu pr hp (σ t) (a.tmps.getD t undef)

theorem EnvR.mono (x : Ext mu pr hp mu' pr' hp') {σ : Nat → AV} {a : Act} {N : Nat} (e : EnvR mu pr hp σ a N) : EnvR mu' pr' hp' σ a N := ⟨e.1, fun t => (e.2 t).mono x⟩

theorem EnvR.opd {σ : Nat → AV} {a : Act} {N : Nat} (e : EnvR mu pr hp σ a N) (x : Operand) : VR mu pr hp (opd σ x) (a.eval x) := by
  cases x with
  | tmp t => exact e.2 t
  | const v => exact avc_ok v
  | global g => exact .undef _
  | func f => exact VR.fn_mk (cs := []) (vs := []) .nil

theorem EnvR.put {σ : Nat → AV} {a : Act} {N : Nat} (e : EnvR mu pr hp σ a N) {dst : Option Tmp} (hd : dstOk N dst = true) {v : AV} {z : Value} (hv : VR mu pr hp v z) : EnvR mu pr hp (putA dst v σ) (a.put dst z) N := by
  cases dst with
  | none => exact e
  | some d =>
    simp only [dstOk, decide_eq_true_eq] at hd
    refine ⟨by simp [Act.put, e.1], fun t => ?_⟩
    have h1 := e.1
    by_cases ht : t = d
    · subst ht
      have : (a.put (some t) z).tmps.getD t undef = z := by simp [Act.put, Array.getD, h1, hd]
      rw [this]
      simpa [putA] using hv
    · have : (a.put (some d) z).tmps.getD t undef = a.tmps.getD t undef := by
        simp only [Act.put, Array.getD_eq_getD_getElem?]
        rw [Array.getElem?_setIfInBounds_ne (Ne.symm ht)]
      rw [this]
      simpa [putA, ht] using e.2 t

theorem wantedA_ok {σ : Nat → AV} {a : Act} {N : Nat} (e : EnvR mu pr hp σ a N) {all : Array Oper} (hall : ∀ (j : Nat) (o : Oper), all[j]? = some o → dstOk N o.dst = true) {o : Oper} {b : Bool} (hw : wantedA all σ o = some b) :
    Region.wanted o (yielded all a.tmps) = b := by
  unfold wantedA at hw
  unfold Region.wanted
  split at hw
  case h_1 hg => rw [hg]; simpa using hw
  case h_2 j want hg =>
    rw [hg]
    simp only
    split at hw
    case h_2 => cases hw
    case h_1 o' ho' =>
      split at hw
      case h_2 => cases hw
      case h_1 d hd =>
        have hlt : d < a.tmps.size := by
          have := hall j o' ho'
          rw [hd] at this
          rw [e.1]
          simpa [dstOk] using this
        have hv := e.2 d
        have hget : a.tmps[d]? = some (a.tmps.getD d undef) := by simp [Array.getD, hlt]
        split at hw
        case h_3 => cases hw
        case h_1 bb hb =>
          rw [hb] at hv
          generalize hz : a.tmps.getD d undef = z at hv
          cases hv
          simp only [Option.some.injEq] at hw
          simp [yielded, ho', hd, hget, hz, ← hw]
        case h_2 hb =>
          rw [hb] at hv
          obtain ⟨arr, hz, _⟩ := hv.tup_inv
          simp only [Option.some.injEq] at hw
          simp [yielded, ho', hd, hget, hz, ← hw]

/-! ### Calls -/
/-- What the model's call must do. -/
def Sound (P : Program) : CS := fun f args h K =>
  (∃ fn, P.funcs[f]? = some fn ∧ fn.body.isNone = false ∧ (fn.name == "runtime.NumGoroutine") = false) ∧
  ∀ (mu : Nm → Nat → Option Loc) (pr : Bool → Nat → Prop) (w : World) (vs : List Value), Rel mu pr h w → VRs mu pr w.heap args vs →
    Calls P f vs.toArray w fun e w' => ∃ z v h' mu' pr', e = .returned z ∧ K v h' ∧ VR mu' pr' w'.heap v z ∧ After mu pr h w mu' pr' h' w'

theorem Rel.mt (P : Program) (w : World) (t : Nat) (pr : Bool → Nat → Prop) (hl : ∀ c b, pr c b → b < w.heap.size) : Rel (fun _ _ => none) pr (.mt t) w :=
  ⟨fun n r hr => by simp [Hp.mt] at hr, fun n r n' r' l l' hr => by simp [Hp.mt] at hr, fun _ _ _ _ _ => rfl, fun n r v hr => by simp [Hp.mt] at hr, hl⟩

/-- What a callee may count on: what was kept is kept, and all else that is there is lent. -/
def prLent (pr : Bool → Nat → Prop) (size : Nat) : Bool → Nat → Prop := fun c b => if c then b < size else pr false b

theorem prLent_lt (R : Rel mu pr h w) : ∀ c b, prLent pr w.heap.size c b → b < w.heap.size := by
  intro c b hb
  cases c
  · exact R.lt false b hb
  · exact hb

theorem DRs.ok (R : Rel mu pr h w) {args targs : List AV} (hd : DRs true h.rows args targs) {vs : List Value} (hv : VRs mu pr w.heap args vs) : VRs (fun _ _ => none) (prLent pr w.heap.size) w.heap targs vs := by
  refine ⟨by rw [hv.1, hd.1], fun i t ht => ?_⟩
  obtain ⟨x, hx⟩ := get_of_len hd.1 ht
  obtain ⟨u, hu, hr⟩ := hv.2 i x hx
  refine ⟨u, hu, (hd.2 i x t hx ht).ok R (fun b k hb _ => ?_) (fun n r l hn hl => ?_) hr⟩
  · show k < w.heap.size
    exact R.lt b k hb
  · show l.b < w.heap.size
    obtain ⟨l', arr, ty, h1, _, h3, _⟩ := R.row n r hn
    rw [hl] at h1
    cases h1
    exact (Array.getElem?_eq_some_iff.1 h3).1

/-- A callee that was lent all: what there was is as it was. -/
theorem lent_same {mu1 : Nm → Nat → Option Loc} {pr1 : Bool → Nat → Prop} {t : Nat} {h1 : Hp} {w1 : World} (A : After (fun _ _ => none) (prLent pr w.heap.size) (.mt t) w mu1 pr1 h1 w1) {b : Nat} (hb : b < w.heap.size) : w1.heap[b]? = w.heap[b]? :=
  A.ext.same true b hb

theorem lent_new {mu1 : Nm → Nat → Option Loc} {pr1 : Bool → Nat → Prop} {t : Nat} {h1 : Hp} {w1 : World} (A : After (fun _ _ => none) (prLent pr w.heap.size) (.mt t) w mu1 pr1 h1 w1) {n : Nm} {r : Row} {l : Loc} (hn : h1.rows n = some r) (hl : mu1 n r.ver = some l) : w.heap.size ≤ l.b := by
  obtain ⟨l', arr, ty, g1, g2, _⟩ := A.rel.row n r hn
  rw [hl] at g1
  cases g1
  have := g2 true
  rcases Nat.lt_or_ge l.b w.heap.size with hlt | hge
  · exact absurd (A.ext.keep true l.b hlt) this
  · exact hge

/-- Behind a call whose result is taken as a tree. -/
theorem tree_after (R : Rel mu pr h w) {mu1 : Nm → Nat → Option Loc} {pr1 : Bool → Nat → Prop} {t : Nat} {h1 : Hp} {w1 : World} (A : After (fun _ _ => none) (prLent pr w.heap.size) (.mt t) w mu1 pr1 h1 w1) {v r : AV} {z : Value} (hv : VR mu1 pr1 w1.heap v z) (hd : DR false h1.rows v r) :
    ∃ pr', VR mu pr' w1.heap r z ∧ AfterB h.tick mu pr h w mu pr' h w1 := by
  let pr' : Bool → Nat → Prop := fun c b => pr c b ∨ (c = false ∧ w.heap.size ≤ b ∧ b < w1.heap.size)
  have X : Ext mu pr w.heap mu pr' w1.heap := by
    refine ⟨fun _ _ _ h => h, fun c b hb => .inl hb, fun c b hb => lent_same A (R.lt c b hb), fun b arr ty fr hb => ?_⟩
    exact ⟨arr, fr, by rw [lent_same A (Array.getElem?_eq_some_iff.1 hb).1]; exact hb, rfl⟩
  refine ⟨pr', ?_, ⟨⟨fun n q hn => ?_, R.inj, R.fresh, R.vers, fun c b hb => ?_⟩, X, A.fr, fun b hb => ?_, fun b hb => ?_, fun n _ hn => hn, Nat.le_refl _⟩⟩
  · refine hd.ok (mu' := mu) (pr' := pr') A.rel (fun b k hb hc => ?_) (fun n q l hn hl => ?_) hv
    · have hb0 : b = false := by cases b <;> simp_all
      subst hb0
      rcases A.grow k hb with h2 | h2
      · exact .inl h2
      · exact .inr ⟨rfl, h2, A.rel.lt false k hb⟩
    · have h2 := lent_new A hn hl
      obtain ⟨l', arr, ty, g1, _, g3, _⟩ := A.rel.row n q hn
      rw [hl] at g1
      cases g1
      exact .inr ⟨rfl, h2, (Array.getElem?_eq_some_iff.1 g3).1⟩
  · obtain ⟨l, arr, ty, g1, g2, g3, g4, g5, g6⟩ := R.row n q hn
    have hlt := (Array.getElem?_eq_some_iff.1 g3).1
    exact ⟨l, arr, ty, g1, fun c hc => by
      rcases hc with hc | ⟨_, hc, _⟩
      · exact g2 c hc
      · omega, by rw [lent_same A hlt]; exact g3, g4, g5, g6.mono X⟩
  · rcases hb with hb | ⟨_, _, hb⟩
    · exact Nat.lt_of_lt_of_le (R.lt c b hb) A.fr.size
    · exact hb
  · rcases hb with hb | ⟨_, hb, _⟩
    · exact .inl hb
    · exact .inr hb
  · rcases hb with hb | ⟨hb, _⟩
    · exact hb
    · cases hb

/-- Behind a call whose result's rows are handed over. -/
theorem fresh_after (R : Rel mu pr h w) {mu1 : Nm → Nat → Option Loc} {pr1 : Bool → Nat → Prop} {h1 : Hp} {w1 : World} (A : After (fun _ _ => none) (prLent pr w.heap.size) (.mt h.tick) w mu1 pr1 h1 w1) {v : AV} {z : Value} (hv : VR mu1 pr1 w1.heap v z) (hc : Cl v)
    {hs : Nm → Option Row} (hsub : ∀ n r, hs n = some r → h1.rows n = some r ∧ ClRow r) :
    ∃ mu' pr', VR mu' pr' w1.heap v z ∧ AfterB h.tick mu pr h w mu' pr' (h.join hs h1.tick) w1 := by
  let mu' : Nm → Nat → Option Loc := fun n v => if n.1 < h.tick then mu n v else mu1 n v
  let pr' : Bool → Nat → Prop := fun c b => if c then pr true b else pr1 false b
  have htick : h.tick ≤ h1.tick := A.tick
  have hmu1 : ∀ n v l, mu1 n v = some l → mu' n v = some l := by
    intro n v l hl
    show (if n.1 < h.tick then mu n v else mu1 n v) = some l
    split
    · rename_i hn
      have := A.names n hn (fun _ => rfl) v
      rw [hl] at this
      cases this
    · exact hl
  have hmu : ∀ n v l, mu n v = some l → mu' n v = some l := by
    intro n v l hl
    show (if n.1 < h.tick then mu n v else mu1 n v) = some l
    split
    · exact hl
    · rename_i hn
      have := R.fresh n.1 n.2.1 n.2.2 v (by omega)
      rw [show (n.1, n.2.1, n.2.2) = n from rfl, hl] at this
      cases this
  have X : Ext mu pr w.heap mu' pr' w1.heap := by
    refine ⟨hmu, fun c b hb => ?_, fun c b hb => lent_same A (R.lt c b hb), fun b arr ty fr hb => ?_⟩
    · cases c
      · exact A.ext.keep false b hb
      · exact hb
    · exact ⟨arr, fr, by rw [lent_same A (Array.getElem?_eq_some_iff.1 hb).1]; exact hb, rfl⟩
  have hold : ∀ n r, h.rows n = some r → n.1 < h.tick := by
    intro n r hn
    obtain ⟨l, arr, ty, g1, _⟩ := R.row n r hn
    rcases Nat.lt_or_ge n.1 h.tick with hlt | hge
    · exact hlt
    · have := R.fresh n.1 n.2.1 n.2.2 r.ver hge
      rw [show (n.1, n.2.1, n.2.2) = n from rfl, g1] at this
      cases this
  have hnewn : ∀ n r, hs n = some r → ¬ n.1 < h.tick := by
    intro n r hn hlt
    obtain ⟨l, arr, ty, g1, _⟩ := A.rel.row n r (hsub n r hn).1
    have := A.names n hlt (fun _ => rfl) r.ver
    rw [g1] at this
    cases this
  have hpr1 : ∀ k, pr1 false k → pr' false k := fun k hk => hk
  refine ⟨mu', pr', hc.ok hpr1 hmu1 hv, ⟨⟨fun n r hn => ?_, fun n r n' r' l l' hn hn' hl hl' hll => ?_, fun t i j v ht => ?_, fun n r v hn hv => ?_, fun c b hb => ?_⟩, X, A.fr, fun b hb => ?_, fun b hb => hb, fun n hn hf v => ?_, htick⟩⟩
  · simp only [Hp.join] at hn
    split at hn
    · obtain ⟨l, arr, ty, g1, g2, g3, g4, g5, g6⟩ := R.row n r hn
      have hlt := (Array.getElem?_eq_some_iff.1 g3).1
      refine ⟨l, arr, ty, hmu _ _ _ g1, fun c hc => ?_, by rw [lent_same A hlt]; exact g3, g4, g5, g6.mono X⟩
      cases c
      · rcases A.grow l.b hc with h2 | h2
        · exact g2 false h2
        · omega
      · exact g2 true hc
    · obtain ⟨hn1, hcl⟩ := hsub n r hn
      obtain ⟨l, arr, ty, g1, g2, g3, g4, g5, g6⟩ := A.rel.row n r hn1
      have hge := lent_new A hn1 g1
      refine ⟨l, arr, ty, hmu1 _ _ _ g1, fun c hc => ?_, g3, g4, g5, g6.1, fun i e j c he hj => ?_⟩
      · cases c
        · exact g2 false hc
        · have := R.lt true l.b hc; omega
      · obtain ⟨q1, u, q2, q3⟩ := g6.2 i e j c he hj
        exact ⟨q1, u, q2, (hcl i e j c he hj).ok hpr1 hmu1 q3⟩
  · simp only [Hp.join] at hn hn'
    simp only [mu'] at hl hl'
    split at hn <;> rename_i hnlt <;> split at hn' <;> rename_i hnlt'
    · rw [if_pos hnlt] at hl
      rw [if_pos hnlt'] at hl'
      exact R.inj n r n' r' l l' hn hn' hl hl' hll
    · rw [if_pos hnlt] at hl
      rw [if_neg hnlt'] at hl'
      exfalso
      have h2 := lent_new A (hsub n' r' hn').1 hl'
      obtain ⟨k, arr, ty, g1, _, g3, _⟩ := R.row n r hn
      rw [hl] at g1
      cases g1
      have := (Array.getElem?_eq_some_iff.1 g3).1
      omega
    · rw [if_neg hnlt] at hl
      rw [if_pos hnlt'] at hl'
      exfalso
      have h2 := lent_new A (hsub n r hn).1 hl
      obtain ⟨k, arr, ty, g1, _, g3, _⟩ := R.row n' r' hn'
      rw [hl'] at g1
      cases g1
      have := (Array.getElem?_eq_some_iff.1 g3).1
      omega
    · rw [if_neg hnlt] at hl
      rw [if_neg hnlt'] at hl'
      exact A.rel.inj n r n' r' l l' (hsub n r hn).1 (hsub n' r' hn').1 hl hl' hll
  · show (if t < h.tick then mu (t, i, j) v else mu1 (t, i, j) v) = none
    have ht' : h1.tick ≤ t := ht
    rw [if_neg (by omega)]
    exact A.rel.fresh t i j v ht'
  · simp only [Hp.join] at hn
    show (if n.1 < h.tick then mu n v else mu1 n v) = none
    split at hn
    · rename_i hlt
      rw [if_pos hlt]
      exact R.vers n r v hn hv
    · rename_i hlt
      rw [if_neg hlt]
      exact A.rel.vers n r v (hsub n r hn).1 hv
  · cases c
    · exact A.rel.lt false b hb
    · exact Nat.lt_of_lt_of_le (R.lt true b hb) A.fr.size
  · exact A.grow b hb
  · show (if n.1 < h.tick then mu n v else mu1 n v) = none
    rw [if_pos hn]
    exact hf v

end
end Go.Proofs.Ytfgaoojogididaa.AM
