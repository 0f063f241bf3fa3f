/-
  FnExactCpuEnd: for every argument, the law returns true, and the argument reads behind the call as it read before.
  Conditions: none beyond the given statement's own.
-/
import Derived.Test.YtfgaoojogididaaV0
import Derived.WalkKit
import Derived.ProofKit
import Derived.OpenShut
import Derived.ShutString
import Derived.ChangeOld
import Derived.Below
import Derived.SizedLaws
namespace Go.Proofs.Ytfgaoojogididaa.fnExactCpuEnd
open Go.ChangeShapes Go.WideShapes Go.ChangeAt Go.RowKit
set_option linter.unusedVariables false
theorem own : ownKnob Try.prog.godebug = none := by kernel_rfl

theorem sound (l : List AM.AV) (h : AM.ShpAll Try.prog [25] l) : AM.Sound Try.prog 3 l (.mt 0) fun v _ => v = .bool true := by
  obtain ⟨cells, l', h1, e, h'⟩ := AM.shpAll_cons h
  have e' := AM.shpAll_nil h'
  subst e' e
  rw [AM.agg_25]
  obtain ⟨c, rfl, d⟩ := AM.shp_cpu h1
  exact AM.lawCpuEnd c d.regs d.slots d.mem d.mem' d.input d.out

set_option maxRecDepth 100000 in
theorem lifted (os : Os) (started : os.Started) (H : Type) (enc : TypeId × Value → H) :
    ReturnsInHanded {} Try.checked os 3 .any (Rows.fnExactCpuEndSpec.pre6 enc Try.prog Try.f3 Rows.fnExactCpuEndRow.domain false) (Rows.fnExactCpuEndSpec.post enc Try.prog Try.f3 false true false false) := by
  refine returnsInHanded_of_change_sized (C := Try.checked) own started (by kernel_rfl) Try.func3
    (ChangeSpec.witness6 (enc := enc) (C := Try.checked) false ⟨#[], #[.agg #[.int .i64 0, .slice none 0 0, .slice none 0 0, .slice none 0 0, .slice none 0 0, .slice none 0 0, .int .i64 0, .bool false, .int .i64 0]], []⟩ 8 (by kernel_rfl) (by kernel_rfl) (by kernel_rfl) (by kernel_rfl)) ?_
  intro W base args ds gs before hval0 hW hcnd hsz0 _
  have hval : ∀ (j : Nat) t v, Try.f3.params[j]? = some t → args[j]? = some v → Value.okWide Try.prog W .any base t v := hval0
  have hW' := hW
  obtain ⟨p, q, hA0, hV, rfl, hfz, hnd⟩ := hW
  have hA : DataW.TrodAll enc Try.prog W 0 (fun _ => true) true Try.f3.params.toList args.toList ds p := hA0
  rw [Try.params3] at hA hval
  obtain ⟨v0, vs0, d0, ds0, p0, q0, hargs, rfl, rfl, h0, r0⟩ := trodAll_cons hA
  obtain ⟨rfl, rfl, rfl⟩ := trodAll_nil r0
  obtain rfl : args = #[v0] := by cases args; simp_all
  obtain ⟨rfl, rfl⟩ := trodVars_none hV
  clear hA0 hval0 hsz0
  refine (AM.law_calls (params := [25]) (ts := [25, 3, 4, 22, 23]) sound (by kernel_rfl) (by simp) (args := #[v0]) (fun j t v a b => hval j t v (by simpa using a) b) hA).mono fun e W' ⟨he, bel⟩ => ?_
  subst he
  exact ⟨_, rfl, _, _, _, [], _, [], hW', trodAll_mk1 (shut_bool Try.underlying4 _), AM.back_all AM.laid bel _ _ _ _ (by kernel_rfl) hA, rfl, bel.frame _, fun h => by cases h⟩
theorem over : Rows.fnExactCpuEndRow.holds Try.pinned (OpenSpec.ofChange Rows.fnExactCpuEndSpec) :=
  OpenClaim.holds_of_wide 3 Try.f3 rfl rfl rfl rfl rfl rfl rfl ⟨rfl, rfl, rfl, rfl, rfl⟩ rfl rfl rfl rfl rfl (by kernel_rfl) Try.func3 (by kernel_rfl)
    (of_decide_eq_true (by kernel_rfl)) (by unfold Func.isWrapper; first | (rw [if_pos (by decide +kernel)]; kernel_rfl) | (rw [if_neg (by decide +kernel)]; exact ⟨rfl, rfl⟩))
    (fun os started H enc _ => lifted os started H enc)
theorem proved : Rows.FnExactCpuEndSaid := over
end Go.Proofs.Ytfgaoojogididaa.fnExactCpuEnd
namespace Go.Proofs.Ytfgaoojogididaa
theorem fnExactCpuEnd_holds : Rows.FnExactCpuEndSaid := fnExactCpuEnd.proved
end Go.Proofs.Ytfgaoojogididaa
