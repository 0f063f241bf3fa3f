/-
  The A-machine, part 19: a law, from its call over trees.
-/
import Derived.Test.YtfgaoojogididaaA18
import Derived.Below
import Derived.Carry
set_option linter.unusedVariables false
set_option linter.unusedSimpArgs false
namespace Go.Proofs.Ytfgaoojogididaa.AM
open Go.RowKit Go.ChangeShapes

/-- Arguments by their types. -/
def ShpAll (P : Program) : List TypeId → List AV → Prop
  | [], [] => True
  | t :: ts, a :: as => (∃ cells, Shp P t cells ∧ a = avOf P t cells) ∧ ShpAll P ts as
  | _, _ => False

section
variable {H : Type} {enc : TypeId × Value → H} {P : Program} {w : World} {mu : Nm → Nat → Option Loc} {pr : Bool → Nat → Prop}

theorem args_av {ts : List TypeId} (hts : tyOk P ts = true) (hpr : ∀ b, b < w.heap.size → pr true b) {base : Nat} : ∀ (params : List TypeId) (vs : List Value) (ds : List (DataW H)) (ps : List MemPlace), (∀ t ∈ params, t ∈ ts) →
    (∀ (j : Nat) t v, params[j]? = some t → vs[j]? = some v → Value.okWide P w .any base t v) → DataW.TrodAll enc P w 0 (fun _ => true) true params vs ds ps →
    ∃ as, ShpAll P params as ∧ VRs mu pr w.heap as vs
  | [], vs, ds, ps, _, _, h => by
    obtain ⟨rfl, rfl, rfl⟩ := trodAll_nil h
    exact ⟨[], trivial, .nil⟩
  | t :: params, vs, ds, ps, hp, hv, h => by
    obtain ⟨v, vs', d, ds', p, q, rfl, rfl, rfl, h1, h2⟩ := trodAll_cons h
    obtain ⟨cells, g1, g2⟩ := arg_av (mu := mu) hts hpr (hp t (by simp)) (hv 0 t v rfl rfl) h1
    obtain ⟨as, g3, g4⟩ := args_av hts hpr params vs' ds' q (fun t ht => hp t (by simp [ht])) (fun j t v a b => hv (j + 1) t v (by simpa using a) (by simpa using b)) h2
    exact ⟨avOf P t cells :: as, ⟨⟨cells, g1, rfl⟩, g3⟩, .cons g2 g4⟩

theorem back_all (hl : laidOutB P = true) {W W' : World} (hb : Below W.heap.size W W') : ∀ (params : List TypeId) (vs : List Value) (ds : List (DataW H)) (ps : List MemPlace), (params.all fun t => P.readableRec t && decide (t < P.types.size)) = true →
    DataW.TrodAll enc P W 0 (fun _ => true) true params vs ds ps → DataW.TrodAll enc P W' 0 (fun b => decide (b < W.heap.size)) true params vs ds ps
  | [], vs, ds, ps, _, h => by
    obtain ⟨rfl, rfl, rfl⟩ := trodAll_nil h
    exact trodAll_mk0
  | t :: params, vs, ds, ps, hp, h => by
    obtain ⟨v, vs', d, ds', p, q, rfl, rfl, rfl, h1, h2⟩ := trodAll_cons h
    simp only [List.all_cons, Bool.and_eq_true, decide_eq_true_eq] at hp
    have hlt : ∀ x ∈ p, x.block < W.heap.size := by
      obtain ⟨m, hm⟩ := h1
      exact DataW.trod_lt m _ _ _ hm
    exact ⟨p, q, Below.trod hl hp.1.1 hp.1.2 h1 hb hlt, back_all hl hb params vs' ds' q (by simpa using hp.2) h2, rfl⟩

/-- The law's call. -/
theorem law_calls {f : FuncId} {params ts : List TypeId} (hS : ∀ as, ShpAll P params as → Sound P f as (.mt 0) fun v _ => v = .bool true) (hts : tyOk P ts = true) (hp : ∀ t ∈ params, t ∈ ts) {base : Nat} {args : Array Value} {ds : List (DataW H)} {ps : List MemPlace}
    (hv : ∀ (j : Nat) t v, params[j]? = some t → args[j]? = some v → Value.okWide P w .any base t v) (hd : DataW.TrodAll enc P w 0 (fun _ => true) true params args.toList ds ps) :
    Calls P f args w fun e w' => e = .returned (.bool true) ∧ Below w.heap.size w w' := by
  obtain ⟨as, h1, h2⟩ := args_av (mu := fun _ _ => none) (pr := prLent (fun _ _ => False) w.heap.size) hts (fun b hb => by simpa [prLent] using hb) params args.toList ds ps hp (fun j t v a b => hv j t v a (by simpa using b)) hd
  have h3 := (hS as h1).2 (fun _ _ => none) (prLent (fun _ _ => False) w.heap.size) w args.toList (Rel.mt P w 0 _ (fun c b hb => by
    cases c
    · simp [prLent] at hb
    · simpa [prLent] using hb)) h2
  refine (show Calls P f args.toList.toArray w _ from h3).mono ?_
  rintro e w1 ⟨z, v, hc, mu1, pr1, rfl, rfl, hvz, A⟩
  have : z = .bool true := by cases hvz; rfl
  subst this
  exact ⟨rfl, A.fr.os, A.fr.tape, A.fr.output, A.fr.size, fun k hk => A.ext.same true k (by simpa [prLent] using hk)⟩
end
end Go.Proofs.Ytfgaoojogididaa.AM
