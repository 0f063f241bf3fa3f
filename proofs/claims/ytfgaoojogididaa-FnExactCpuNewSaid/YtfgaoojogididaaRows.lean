/-
  No cell of these rows narrows 'for every input' (looked for: loops, veiled, ifaces, maps, wideKeys, modest, calm, conditions, laid).
  DERIVED. THE GIVEN ROWS OF THIS SEAT. 9 by the template 'for every input the law returns true; each argument reads behind the call as it read before'; 0 by the template 'total and deterministic' (their statements: YtfgaoojogididaaTotals.lean).
  GIVEN WITH THE SEED: the statements are not yours to turn. If you find one false, say at which input.
  Laid BY PROGRAM, IN A SANDBOX (cutbox-rows.mjs): the forced cells as the released guide's own fill.sh prints them over the translation 0557ff17ce8b73d0… (all of the seat's roots in one cut). By AI agents, Wed Nov 11 2026. No macro, syntax, notation, axiom, sorry.
-/
import Derived.Test.YtfgaoojogididaaChecked
import GoSem.Claim
import GoSem.ClaimJoined
import GoSem.ClaimMapViews
import Derived.JoinedTies
import Derived.KernelRfl
namespace Go.Proofs.Ytfgaoojogididaa
/- THE CELL 'sum', in the pinned program and in every row, IS THE sha256 OF THE DUMP (.gsa) THAT YtfgaoojogididaaProg.lean LOADS. Nothing in Lean hashes anything: it is a label: what it is worth is what the hold of that sum in a sandbox is worth. -/
noncomputable def Try.pinned : Pinned := { name := "ytfgaoojogididaa", sum := "0557ff17ce8b73d0389e504c0559ece9ffb92dd3ed897cae20d2099246989ec0", checked := Try.checked }
namespace Rows
def none {H : Type} : Left H := { results := [], args := [] }

/-- 'laws.FnExactCpuEnd': WHATEVER THE INPUT: true; the input reads as it did. -/
def fnExactCpuEndSpec : ChangeSpec := { name := "fnExactCpuEnd", fn := fun _ => fun
  | [d] => { results := [.lit (.bool true)], args := [d] }
  | _ => none }
def fnExactCpuEndRow : OpenClaim := { program := "ytfgaoojogididaa", sum := "0557ff17ce8b73d0389e504c0559ece9ffb92dd3ed897cae20d2099246989ec0", func := "loop.example/g00385/laws.FnExactCpuEnd", spec := "fnExactCpuEnd", apart := false }
def FnExactCpuEndSaid : Prop := fnExactCpuEndRow.holds Try.pinned (OpenSpec.ofChange fnExactCpuEndSpec)

/-- ITS FALSE NEIGHBOUR: 'it returns false'. Refute it at one input. -/
def fnExactCpuEndWrong : ChangeSpec := { name := "fnExactCpuEnd", fn := fun _ => fun
  | [d] => { results := [.lit (.bool false)], args := [d] }
  | _ => none }
def FnExactCpuEndWrongFalsely : Prop := fnExactCpuEndRow.holds Try.pinned (OpenSpec.ofChange fnExactCpuEndWrong)

/-- 'laws.FnExactCpuOk': WHATEVER THE INPUT: true; the input reads as it did. -/
def fnExactCpuOkSpec : ChangeSpec := { name := "fnExactCpuOk", fn := fun _ => fun
  | [d1, d2] => { results := [.lit (.bool true)], args := [d1, d2] }
  | _ => none }
def fnExactCpuOkRow : OpenClaim := { program := "ytfgaoojogididaa", sum := "0557ff17ce8b73d0389e504c0559ece9ffb92dd3ed897cae20d2099246989ec0", func := "loop.example/g00385/laws.FnExactCpuOk", spec := "fnExactCpuOk", unfollowed := true, recurses := true, apart := false }
def FnExactCpuOkSaid : Prop := fnExactCpuOkRow.holds Try.pinned (OpenSpec.ofChange fnExactCpuOkSpec)

/-- ITS FALSE NEIGHBOUR: 'it returns false'. Refute it at one input. -/
def fnExactCpuOkWrong : ChangeSpec := { name := "fnExactCpuOk", fn := fun _ => fun
  | [d1, d2] => { results := [.lit (.bool false)], args := [d1, d2] }
  | _ => none }
def FnExactCpuOkWrongFalsely : Prop := fnExactCpuOkRow.holds Try.pinned (OpenSpec.ofChange fnExactCpuOkWrong)

/-- 'laws.FnExactCost': WHATEVER THE INPUT: true; the input reads as it did. -/
def fnExactCostSpec : ChangeSpec := { name := "fnExactCost", fn := fun _ => fun
  | [d1, d2, d3] => { results := [.lit (.bool true)], args := [d1, d2, d3] }
  | _ => none }
def fnExactCostRow : OpenClaim := { program := "ytfgaoojogididaa", sum := "0557ff17ce8b73d0389e504c0559ece9ffb92dd3ed897cae20d2099246989ec0", func := "loop.example/g00385/laws.FnExactCost", spec := "fnExactCost", unfollowed := true, recurses := true, apart := false }
def FnExactCostSaid : Prop := fnExactCostRow.holds Try.pinned (OpenSpec.ofChange fnExactCostSpec)

/-- ITS FALSE NEIGHBOUR: 'it returns false'. Refute it at one input. -/
def fnExactCostWrong : ChangeSpec := { name := "fnExactCost", fn := fun _ => fun
  | [d1, d2, d3] => { results := [.lit (.bool false)], args := [d1, d2, d3] }
  | _ => none }
def FnExactCostWrongFalsely : Prop := fnExactCostRow.holds Try.pinned (OpenSpec.ofChange fnExactCostWrong)

/-- 'laws.FnExactCpuNew': WHATEVER THE INPUT: true; the input reads as it did. -/
def fnExactCpuNewSpec : ChangeSpec := { name := "fnExactCpuNew", fn := fun _ => fun
  | [d1, d2, d3] => { results := [.lit (.bool true)], args := [d1, d2, d3] }
  | _ => none }
def fnExactCpuNewRow : OpenClaim := { program := "ytfgaoojogididaa", sum := "0557ff17ce8b73d0389e504c0559ece9ffb92dd3ed897cae20d2099246989ec0", func := "loop.example/g00385/laws.FnExactCpuNew", spec := "fnExactCpuNew", unfollowed := true, recurses := true, apart := false }
def FnExactCpuNewSaid : Prop := fnExactCpuNewRow.holds Try.pinned (OpenSpec.ofChange fnExactCpuNewSpec)

/-- ITS FALSE NEIGHBOUR: 'it returns false'. Refute it at one input. -/
def fnExactCpuNewWrong : ChangeSpec := { name := "fnExactCpuNew", fn := fun _ => fun
  | [d1, d2, d3] => { results := [.lit (.bool false)], args := [d1, d2, d3] }
  | _ => none }
def FnExactCpuNewWrongFalsely : Prop := fnExactCpuNewRow.holds Try.pinned (OpenSpec.ofChange fnExactCpuNewWrong)

/-- 'laws.FnExactExec': WHATEVER THE INPUT: true; the input reads as it did. -/
def fnExactExecSpec : ChangeSpec := { name := "fnExactExec", fn := fun _ => fun
  | [d1, d2, d3, d4] => { results := [.lit (.bool true)], args := [d1, d2, d3, d4] }
  | _ => none }
def fnExactExecRow : OpenClaim := { program := "ytfgaoojogididaa", sum := "0557ff17ce8b73d0389e504c0559ece9ffb92dd3ed897cae20d2099246989ec0", func := "loop.example/g00385/laws.FnExactExec", spec := "fnExactExec", unfollowed := true, recurses := true, apart := false }
def FnExactExecSaid : Prop := fnExactExecRow.holds Try.pinned (OpenSpec.ofChange fnExactExecSpec)

/-- ITS FALSE NEIGHBOUR: 'it returns false'. Refute it at one input. -/
def fnExactExecWrong : ChangeSpec := { name := "fnExactExec", fn := fun _ => fun
  | [d1, d2, d3, d4] => { results := [.lit (.bool false)], args := [d1, d2, d3, d4] }
  | _ => none }
def FnExactExecWrongFalsely : Prop := fnExactExecRow.holds Try.pinned (OpenSpec.ofChange fnExactExecWrong)

/-- 'laws.FnExactWatch': WHATEVER THE INPUT: true; the input reads as it did. -/
def fnExactWatchSpec : ChangeSpec := { name := "fnExactWatch", fn := fun _ => fun
  | [d1, d2, d3, d4] => { results := [.lit (.bool true)], args := [d1, d2, d3, d4] }
  | _ => none }
def fnExactWatchRow : OpenClaim := { program := "ytfgaoojogididaa", sum := "0557ff17ce8b73d0389e504c0559ece9ffb92dd3ed897cae20d2099246989ec0", func := "loop.example/g00385/laws.FnExactWatch", spec := "fnExactWatch", unfollowed := true, recurses := true, apart := false }
def FnExactWatchSaid : Prop := fnExactWatchRow.holds Try.pinned (OpenSpec.ofChange fnExactWatchSpec)

/-- ITS FALSE NEIGHBOUR: 'it returns false'. Refute it at one input. -/
def fnExactWatchWrong : ChangeSpec := { name := "fnExactWatch", fn := fun _ => fun
  | [d1, d2, d3, d4] => { results := [.lit (.bool false)], args := [d1, d2, d3, d4] }
  | _ => none }
def FnExactWatchWrongFalsely : Prop := fnExactWatchRow.holds Try.pinned (OpenSpec.ofChange fnExactWatchWrong)

/-- 'laws.FnExactCpuStep': WHATEVER THE INPUT: true; the input reads as it did. -/
def fnExactCpuStepSpec : ChangeSpec := { name := "fnExactCpuStep", fn := fun _ => fun
  | [d1, d2] => { results := [.lit (.bool true)], args := [d1, d2] }
  | _ => none }
def fnExactCpuStepRow : OpenClaim := { program := "ytfgaoojogididaa", sum := "0557ff17ce8b73d0389e504c0559ece9ffb92dd3ed897cae20d2099246989ec0", func := "loop.example/g00385/laws.FnExactCpuStep", spec := "fnExactCpuStep", unfollowed := true, recurses := true, apart := false }
def FnExactCpuStepSaid : Prop := fnExactCpuStepRow.holds Try.pinned (OpenSpec.ofChange fnExactCpuStepSpec)

/-- ITS FALSE NEIGHBOUR: 'it returns false'. Refute it at one input. -/
def fnExactCpuStepWrong : ChangeSpec := { name := "fnExactCpuStep", fn := fun _ => fun
  | [d1, d2] => { results := [.lit (.bool false)], args := [d1, d2] }
  | _ => none }
def FnExactCpuStepWrongFalsely : Prop := fnExactCpuStepRow.holds Try.pinned (OpenSpec.ofChange fnExactCpuStepWrong)

/-- 'laws.FnExactCpuRun': WHATEVER THE INPUT: true; the input reads as it did. -/
def fnExactCpuRunSpec : ChangeSpec := { name := "fnExactCpuRun", fn := fun _ => fun
  | [d1, d2, d3] => { results := [.lit (.bool true)], args := [d1, d2, d3] }
  | _ => none }
def fnExactCpuRunRow : OpenClaim := { program := "ytfgaoojogididaa", sum := "0557ff17ce8b73d0389e504c0559ece9ffb92dd3ed897cae20d2099246989ec0", func := "loop.example/g00385/laws.FnExactCpuRun", spec := "fnExactCpuRun", unfollowed := true, recurses := true, apart := false }
def FnExactCpuRunSaid : Prop := fnExactCpuRunRow.holds Try.pinned (OpenSpec.ofChange fnExactCpuRunSpec)

/-- ITS FALSE NEIGHBOUR: 'it returns false'. Refute it at one input. -/
def fnExactCpuRunWrong : ChangeSpec := { name := "fnExactCpuRun", fn := fun _ => fun
  | [d1, d2, d3] => { results := [.lit (.bool false)], args := [d1, d2, d3] }
  | _ => none }
def FnExactCpuRunWrongFalsely : Prop := fnExactCpuRunRow.holds Try.pinned (OpenSpec.ofChange fnExactCpuRunWrong)

/-- 'laws.FnExactCpuBreak': WHATEVER THE INPUT: true; the input reads as it did. -/
def fnExactCpuBreakSpec : ChangeSpec := { name := "fnExactCpuBreak", fn := fun _ => fun
  | [d1, d2, d3, d4] => { results := [.lit (.bool true)], args := [d1, d2, d3, d4] }
  | _ => none }
def fnExactCpuBreakRow : OpenClaim := { program := "ytfgaoojogididaa", sum := "0557ff17ce8b73d0389e504c0559ece9ffb92dd3ed897cae20d2099246989ec0", func := "loop.example/g00385/laws.FnExactCpuBreak", spec := "fnExactCpuBreak", unfollowed := true, recurses := true, apart := false }
def FnExactCpuBreakSaid : Prop := fnExactCpuBreakRow.holds Try.pinned (OpenSpec.ofChange fnExactCpuBreakSpec)

/-- ITS FALSE NEIGHBOUR: 'it returns false'. Refute it at one input. -/
def fnExactCpuBreakWrong : ChangeSpec := { name := "fnExactCpuBreak", fn := fun _ => fun
  | [d1, d2, d3, d4] => { results := [.lit (.bool false)], args := [d1, d2, d3, d4] }
  | _ => none }
def FnExactCpuBreakWrongFalsely : Prop := fnExactCpuBreakRow.holds Try.pinned (OpenSpec.ofChange fnExactCpuBreakWrong)

/- THE SECOND FORM. 'bulk': how many values and letters a reading holds, each counted each time it is reached (what is shared counts as often as it is met; a slice's spare places count too). A statement '..UptoSaid' is the law's where the arguments, and the package variables that the reading takes, are together of bulk at most 1048576: NARROWER than '..Said'. Prove '..Said' where nothing that the law and all that it calls make is longer than what came in: it says more and counts as full. Else prove '..UptoSaid'. A law counts once. -/
mutual
def uptoBulk {H : Type} : DataW H → Nat
  | .lit (.string bytes) => bytes.length + 1
  | .lit _ => 1
  | .nil => 1
  | .ptr d => uptoBulk d + 1
  | .slice elems spare => uptoBulkAll elems + uptoBulkAll spare + 1
  | .agg parts => uptoBulkAll parts + 1
  | .iface _ d => uptoBulk d + 1
  | .map entries => uptoBulkEntries entries + 1
  | .held _ => 1
def uptoBulkAll {H : Type} : List (DataW H) → Nat
  | [] => 0
  | d :: r => uptoBulk d + uptoBulkAll r
def uptoBulkEntries {H : Type} : List (Lit × DataW H) → Nat
  | [] => 0
  | x :: r => uptoBulkEntry x + uptoBulkEntries r
def uptoBulkEntry {H : Type} : Lit × DataW H → Nat
  | (.string bytes, d) => bytes.length + uptoBulk d + 1
  | (_, d) => uptoBulk d + 1
 end
def uptoSmall : (H : Type) → List (DataW H) → Bool := fun _ ds => decide (uptoBulkAll ds ≤ 1048576)
def OpenSpec.upto (s : _root_.Go.ChangeSpec) : _root_.Go.OpenSpec := { _root_.Go.OpenSpec.ofChange s with cond := some uptoSmall }

/-- 'laws.FnExactCpuEnd', WHERE WHAT IT READS IS OF BULK AT MOST 1048576: true; the input reads as it did. -/
def fnExactCpuEndUptoRow : OpenClaim := { program := "ytfgaoojogididaa", sum := "0557ff17ce8b73d0389e504c0559ece9ffb92dd3ed897cae20d2099246989ec0", func := "loop.example/g00385/laws.FnExactCpuEnd", spec := "fnExactCpuEnd", apart := false, narrowed := true }
def FnExactCpuEndUptoSaid : Prop := fnExactCpuEndUptoRow.holds Try.pinned (OpenSpec.upto fnExactCpuEndSpec)

/-- 'laws.FnExactCpuOk', WHERE WHAT IT READS IS OF BULK AT MOST 1048576: true; the input reads as it did. -/
def fnExactCpuOkUptoRow : OpenClaim := { program := "ytfgaoojogididaa", sum := "0557ff17ce8b73d0389e504c0559ece9ffb92dd3ed897cae20d2099246989ec0", func := "loop.example/g00385/laws.FnExactCpuOk", spec := "fnExactCpuOk", unfollowed := true, recurses := true, apart := false, narrowed := true }
def FnExactCpuOkUptoSaid : Prop := fnExactCpuOkUptoRow.holds Try.pinned (OpenSpec.upto fnExactCpuOkSpec)

/-- 'laws.FnExactCost', WHERE WHAT IT READS IS OF BULK AT MOST 1048576: true; the input reads as it did. -/
def fnExactCostUptoRow : OpenClaim := { program := "ytfgaoojogididaa", sum := "0557ff17ce8b73d0389e504c0559ece9ffb92dd3ed897cae20d2099246989ec0", func := "loop.example/g00385/laws.FnExactCost", spec := "fnExactCost", unfollowed := true, recurses := true, apart := false, narrowed := true }
def FnExactCostUptoSaid : Prop := fnExactCostUptoRow.holds Try.pinned (OpenSpec.upto fnExactCostSpec)

/-- 'laws.FnExactCpuNew', WHERE WHAT IT READS IS OF BULK AT MOST 1048576: true; the input reads as it did. -/
def fnExactCpuNewUptoRow : OpenClaim := { program := "ytfgaoojogididaa", sum := "0557ff17ce8b73d0389e504c0559ece9ffb92dd3ed897cae20d2099246989ec0", func := "loop.example/g00385/laws.FnExactCpuNew", spec := "fnExactCpuNew", unfollowed := true, recurses := true, apart := false, narrowed := true }
def FnExactCpuNewUptoSaid : Prop := fnExactCpuNewUptoRow.holds Try.pinned (OpenSpec.upto fnExactCpuNewSpec)

/-- 'laws.FnExactExec', WHERE WHAT IT READS IS OF BULK AT MOST 1048576: true; the input reads as it did. -/
def fnExactExecUptoRow : OpenClaim := { program := "ytfgaoojogididaa", sum := "0557ff17ce8b73d0389e504c0559ece9ffb92dd3ed897cae20d2099246989ec0", func := "loop.example/g00385/laws.FnExactExec", spec := "fnExactExec", unfollowed := true, recurses := true, apart := false, narrowed := true }
def FnExactExecUptoSaid : Prop := fnExactExecUptoRow.holds Try.pinned (OpenSpec.upto fnExactExecSpec)

/-- 'laws.FnExactWatch', WHERE WHAT IT READS IS OF BULK AT MOST 1048576: true; the input reads as it did. -/
def fnExactWatchUptoRow : OpenClaim := { program := "ytfgaoojogididaa", sum := "0557ff17ce8b73d0389e504c0559ece9ffb92dd3ed897cae20d2099246989ec0", func := "loop.example/g00385/laws.FnExactWatch", spec := "fnExactWatch", unfollowed := true, recurses := true, apart := false, narrowed := true }
def FnExactWatchUptoSaid : Prop := fnExactWatchUptoRow.holds Try.pinned (OpenSpec.upto fnExactWatchSpec)

/-- 'laws.FnExactCpuStep', WHERE WHAT IT READS IS OF BULK AT MOST 1048576: true; the input reads as it did. -/
def fnExactCpuStepUptoRow : OpenClaim := { program := "ytfgaoojogididaa", sum := "0557ff17ce8b73d0389e504c0559ece9ffb92dd3ed897cae20d2099246989ec0", func := "loop.example/g00385/laws.FnExactCpuStep", spec := "fnExactCpuStep", unfollowed := true, recurses := true, apart := false, narrowed := true }
def FnExactCpuStepUptoSaid : Prop := fnExactCpuStepUptoRow.holds Try.pinned (OpenSpec.upto fnExactCpuStepSpec)

/-- 'laws.FnExactCpuRun', WHERE WHAT IT READS IS OF BULK AT MOST 1048576: true; the input reads as it did. -/
def fnExactCpuRunUptoRow : OpenClaim := { program := "ytfgaoojogididaa", sum := "0557ff17ce8b73d0389e504c0559ece9ffb92dd3ed897cae20d2099246989ec0", func := "loop.example/g00385/laws.FnExactCpuRun", spec := "fnExactCpuRun", unfollowed := true, recurses := true, apart := false, narrowed := true }
def FnExactCpuRunUptoSaid : Prop := fnExactCpuRunUptoRow.holds Try.pinned (OpenSpec.upto fnExactCpuRunSpec)

/-- 'laws.FnExactCpuBreak', WHERE WHAT IT READS IS OF BULK AT MOST 1048576: true; the input reads as it did. -/
def fnExactCpuBreakUptoRow : OpenClaim := { program := "ytfgaoojogididaa", sum := "0557ff17ce8b73d0389e504c0559ece9ffb92dd3ed897cae20d2099246989ec0", func := "loop.example/g00385/laws.FnExactCpuBreak", spec := "fnExactCpuBreak", unfollowed := true, recurses := true, apart := false, narrowed := true }
def FnExactCpuBreakUptoSaid : Prop := fnExactCpuBreakUptoRow.holds Try.pinned (OpenSpec.upto fnExactCpuBreakSpec)

end Rows
end Go.Proofs.Ytfgaoojogididaa
