/-
  No cell of these rows narrows 'for every input' (looked for: loops, veiled, ifaces, maps, wideKeys, modest, calm, conditions, laid).
  DERIVED. THE GIVEN ROWS OF THIS SEAT. 8 by the template 'for every input the law returns true; each argument reads behind the call as it read before'; 0 by the template 'total and deterministic' (their statements: YtlmlkkkgcbpaoaaTotals.lean).
  GIVEN WITH THE SEED: the statements are not yours to turn. If you find one false, say at which input.
  Laid BY PROGRAM, IN A SANDBOX (cutbox-rows.mjs): the forced cells as the released guide's own fill.sh prints them over the translation f28adc1e5df5af89… (all of the seat's roots in one cut). By AI agents, Wed Nov 11 2026. No macro, syntax, notation, axiom, sorry.
-/
import Derived.Test.YtlmlkkkgcbpaoaaChecked
import GoSem.Claim
import GoSem.ClaimJoined
import GoSem.ClaimMapViews
import Derived.JoinedTies
import Derived.KernelRfl
namespace Go.Proofs.Ytlmlkkkgcbpaoaa
/- THE CELL 'sum', in the pinned program and in every row, IS THE sha256 OF THE DUMP (.gsa) THAT YtlmlkkkgcbpaoaaProg.lean LOADS. Nothing in Lean hashes anything: it is a label: what it is worth is what the hold of that sum in a sandbox is worth. -/
noncomputable def Try.pinned : Pinned := { name := "ytlmlkkkgcbpaoaa", sum := "f28adc1e5df5af89b0ddac1a67b49ed6144743c88d22d2ea3aa8f91ebd496b38", checked := Try.checked }
namespace Rows
def none {H : Type} : Left H := { results := [], args := [] }

/-- 'laws.FnExactFalls': WHATEVER THE INPUT: true; the input reads as it did. -/
def fnExactFallsSpec : ChangeSpec := { name := "fnExactFalls", fn := fun _ => fun
  | [d] => { results := [.lit (.bool true)], args := [d] }
  | _ => none }
def fnExactFallsRow : OpenClaim := { program := "ytlmlkkkgcbpaoaa", sum := "f28adc1e5df5af89b0ddac1a67b49ed6144743c88d22d2ea3aa8f91ebd496b38", func := "loop.example/g00385/laws.FnExactFalls", spec := "fnExactFalls", unfollowed := true, recurses := true, apart := false }
def FnExactFallsSaid : Prop := fnExactFallsRow.holds Try.pinned (OpenSpec.ofChange fnExactFallsSpec)

/-- ITS FALSE NEIGHBOUR: 'it returns false'. Refute it at one input. -/
def fnExactFallsWrong : ChangeSpec := { name := "fnExactFalls", fn := fun _ => fun
  | [d] => { results := [.lit (.bool false)], args := [d] }
  | _ => none }
def FnExactFallsWrongFalsely : Prop := fnExactFallsRow.holds Try.pinned (OpenSpec.ofChange fnExactFallsWrong)

/-- 'laws.FnExactChain': WHATEVER THE INPUT: true; the input reads as it did. -/
def fnExactChainSpec : ChangeSpec := { name := "fnExactChain", fn := fun _ => fun
  | [d1, d2] => { results := [.lit (.bool true)], args := [d1, d2] }
  | _ => none }
def fnExactChainRow : OpenClaim := { program := "ytlmlkkkgcbpaoaa", sum := "f28adc1e5df5af89b0ddac1a67b49ed6144743c88d22d2ea3aa8f91ebd496b38", func := "loop.example/g00385/laws.FnExactChain", spec := "fnExactChain", unfollowed := true, recurses := true, apart := false }
def FnExactChainSaid : Prop := fnExactChainRow.holds Try.pinned (OpenSpec.ofChange fnExactChainSpec)

/-- ITS FALSE NEIGHBOUR: 'it returns false'. Refute it at one input. -/
def fnExactChainWrong : ChangeSpec := { name := "fnExactChain", fn := fun _ => fun
  | [d1, d2] => { results := [.lit (.bool false)], args := [d1, d2] }
  | _ => none }
def FnExactChainWrongFalsely : Prop := fnExactChainRow.holds Try.pinned (OpenSpec.ofChange fnExactChainWrong)

/-- 'laws.FnExactThreads': WHATEVER THE INPUT: true; the input reads as it did. -/
def fnExactThreadsSpec : ChangeSpec := { name := "fnExactThreads", fn := fun _ => fun
  | [d] => { results := [.lit (.bool true)], args := [d] }
  | _ => none }
def fnExactThreadsRow : OpenClaim := { program := "ytlmlkkkgcbpaoaa", sum := "f28adc1e5df5af89b0ddac1a67b49ed6144743c88d22d2ea3aa8f91ebd496b38", func := "loop.example/g00385/laws.FnExactThreads", spec := "fnExactThreads", unfollowed := true, recurses := true, apart := false }
def FnExactThreadsSaid : Prop := fnExactThreadsRow.holds Try.pinned (OpenSpec.ofChange fnExactThreadsSpec)

/-- ITS FALSE NEIGHBOUR: 'it returns false'. Refute it at one input. -/
def fnExactThreadsWrong : ChangeSpec := { name := "fnExactThreads", fn := fun _ => fun
  | [d] => { results := [.lit (.bool false)], args := [d] }
  | _ => none }
def FnExactThreadsWrongFalsely : Prop := fnExactThreadsRow.holds Try.pinned (OpenSpec.ofChange fnExactThreadsWrong)

/-- 'laws.FnExactCounts': WHATEVER THE INPUT: true; the input reads as it did. -/
def fnExactCountsSpec : ChangeSpec := { name := "fnExactCounts", fn := fun _ => fun
  | [d1, d2, d3] => { results := [.lit (.bool true)], args := [d1, d2, d3] }
  | _ => none }
def fnExactCountsRow : OpenClaim := { program := "ytlmlkkkgcbpaoaa", sum := "f28adc1e5df5af89b0ddac1a67b49ed6144743c88d22d2ea3aa8f91ebd496b38", func := "loop.example/g00385/laws.FnExactCounts", spec := "fnExactCounts", unfollowed := true, recurses := true, apart := false }
def FnExactCountsSaid : Prop := fnExactCountsRow.holds Try.pinned (OpenSpec.ofChange fnExactCountsSpec)

/-- ITS FALSE NEIGHBOUR: 'it returns false'. Refute it at one input. -/
def fnExactCountsWrong : ChangeSpec := { name := "fnExactCounts", fn := fun _ => fun
  | [d1, d2, d3] => { results := [.lit (.bool false)], args := [d1, d2, d3] }
  | _ => none }
def FnExactCountsWrongFalsely : Prop := fnExactCountsRow.holds Try.pinned (OpenSpec.ofChange fnExactCountsWrong)

/-- 'laws.FnExactOrderOk': WHATEVER THE INPUT: true; the input reads as it did. -/
def fnExactOrderOkSpec : ChangeSpec := { name := "fnExactOrderOk", fn := fun _ => fun
  | [d1, d2] => { results := [.lit (.bool true)], args := [d1, d2] }
  | _ => none }
def fnExactOrderOkRow : OpenClaim := { program := "ytlmlkkkgcbpaoaa", sum := "f28adc1e5df5af89b0ddac1a67b49ed6144743c88d22d2ea3aa8f91ebd496b38", func := "loop.example/g00385/laws.FnExactOrderOk", spec := "fnExactOrderOk", unfollowed := true, recurses := true, apart := false }
def FnExactOrderOkSaid : Prop := fnExactOrderOkRow.holds Try.pinned (OpenSpec.ofChange fnExactOrderOkSpec)

/-- ITS FALSE NEIGHBOUR: 'it returns false'. Refute it at one input. -/
def fnExactOrderOkWrong : ChangeSpec := { name := "fnExactOrderOk", fn := fun _ => fun
  | [d1, d2] => { results := [.lit (.bool false)], args := [d1, d2] }
  | _ => none }
def FnExactOrderOkWrongFalsely : Prop := fnExactOrderOkRow.holds Try.pinned (OpenSpec.ofChange fnExactOrderOkWrong)

/-- 'laws.FnExactDeadStores': WHATEVER THE INPUT: true; the input reads as it did. -/
def fnExactDeadStoresSpec : ChangeSpec := { name := "fnExactDeadStores", fn := fun _ => fun
  | [d] => { results := [.lit (.bool true)], args := [d] }
  | _ => none }
def fnExactDeadStoresRow : OpenClaim := { program := "ytlmlkkkgcbpaoaa", sum := "f28adc1e5df5af89b0ddac1a67b49ed6144743c88d22d2ea3aa8f91ebd496b38", func := "loop.example/g00385/laws.FnExactDeadStores", spec := "fnExactDeadStores", unfollowed := true, recurses := true, apart := false }
def FnExactDeadStoresSaid : Prop := fnExactDeadStoresRow.holds Try.pinned (OpenSpec.ofChange fnExactDeadStoresSpec)

/-- ITS FALSE NEIGHBOUR: 'it returns false'. Refute it at one input. -/
def fnExactDeadStoresWrong : ChangeSpec := { name := "fnExactDeadStores", fn := fun _ => fun
  | [d] => { results := [.lit (.bool false)], args := [d] }
  | _ => none }
def FnExactDeadStoresWrongFalsely : Prop := fnExactDeadStoresRow.holds Try.pinned (OpenSpec.ofChange fnExactDeadStoresWrong)

/-- 'laws.FnExactForward': WHATEVER THE INPUT: true; the input reads as it did. -/
def fnExactForwardSpec : ChangeSpec := { name := "fnExactForward", fn := fun _ => fun
  | [d] => { results := [.lit (.bool true)], args := [d] }
  | _ => none }
def fnExactForwardRow : OpenClaim := { program := "ytlmlkkkgcbpaoaa", sum := "f28adc1e5df5af89b0ddac1a67b49ed6144743c88d22d2ea3aa8f91ebd496b38", func := "loop.example/g00385/laws.FnExactForward", spec := "fnExactForward", unfollowed := true, recurses := true, apart := false }
def FnExactForwardSaid : Prop := fnExactForwardRow.holds Try.pinned (OpenSpec.ofChange fnExactForwardSpec)

/-- ITS FALSE NEIGHBOUR: 'it returns false'. Refute it at one input. -/
def fnExactForwardWrong : ChangeSpec := { name := "fnExactForward", fn := fun _ => fun
  | [d] => { results := [.lit (.bool false)], args := [d] }
  | _ => none }
def FnExactForwardWrongFalsely : Prop := fnExactForwardRow.holds Try.pinned (OpenSpec.ofChange fnExactForwardWrong)

/-- 'laws.FnExactReorder': WHATEVER THE INPUT: true; the input reads as it did. -/
def fnExactReorderSpec : ChangeSpec := { name := "fnExactReorder", fn := fun _ => fun
  | [d1, d2] => { results := [.lit (.bool true)], args := [d1, d2] }
  | _ => none }
def fnExactReorderRow : OpenClaim := { program := "ytlmlkkkgcbpaoaa", sum := "f28adc1e5df5af89b0ddac1a67b49ed6144743c88d22d2ea3aa8f91ebd496b38", func := "loop.example/g00385/laws.FnExactReorder", spec := "fnExactReorder", unfollowed := true, recurses := true, apart := false }
def FnExactReorderSaid : Prop := fnExactReorderRow.holds Try.pinned (OpenSpec.ofChange fnExactReorderSpec)

/-- ITS FALSE NEIGHBOUR: 'it returns false'. Refute it at one input. -/
def fnExactReorderWrong : ChangeSpec := { name := "fnExactReorder", fn := fun _ => fun
  | [d1, d2] => { results := [.lit (.bool false)], args := [d1, d2] }
  | _ => none }
def FnExactReorderWrongFalsely : Prop := fnExactReorderRow.holds Try.pinned (OpenSpec.ofChange fnExactReorderWrong)

/- THE SECOND FORM. 'bulk': how many values and letters a reading holds, each counted each time it is reached (what is shared counts as often as it is met; a slice's spare places count too). A statement '..UptoSaid' is the law's where the arguments, and the package variables that the reading takes, are together of bulk at most 1048576: NARROWER than '..Said'. Prove '..Said' where nothing that the law and all that it calls make is longer than what came in: it says more and counts as full. Else prove '..UptoSaid'. A law counts once. -/
mutual
def uptoBulk {H : Type} : DataW H → Nat
  | .lit (.string bytes) => bytes.length + 1
  | .lit _ => 1
  | .nil => 1
  | .ptr d => uptoBulk d + 1
  | .slice elems spare => uptoBulkAll elems + uptoBulkAll spare + 1
  | .agg parts => uptoBulkAll parts + 1
  | .iface _ d => uptoBulk d + 1
  | .map entries => uptoBulkEntries entries + 1
  | .held _ => 1
def uptoBulkAll {H : Type} : List (DataW H) → Nat
  | [] => 0
  | d :: r => uptoBulk d + uptoBulkAll r
def uptoBulkEntries {H : Type} : List (Lit × DataW H) → Nat
  | [] => 0
  | x :: r => uptoBulkEntry x + uptoBulkEntries r
def uptoBulkEntry {H : Type} : Lit × DataW H → Nat
  | (.string bytes, d) => bytes.length + uptoBulk d + 1
  | (_, d) => uptoBulk d + 1
 end
def uptoSmall : (H : Type) → List (DataW H) → Bool := fun _ ds => decide (uptoBulkAll ds ≤ 1048576)
def OpenSpec.upto (s : _root_.Go.ChangeSpec) : _root_.Go.OpenSpec := { _root_.Go.OpenSpec.ofChange s with cond := some uptoSmall }

/-- 'laws.FnExactFalls', WHERE WHAT IT READS IS OF BULK AT MOST 1048576: true; the input reads as it did. -/
def fnExactFallsUptoRow : OpenClaim := { program := "ytlmlkkkgcbpaoaa", sum := "f28adc1e5df5af89b0ddac1a67b49ed6144743c88d22d2ea3aa8f91ebd496b38", func := "loop.example/g00385/laws.FnExactFalls", spec := "fnExactFalls", unfollowed := true, recurses := true, apart := false, narrowed := true }
def FnExactFallsUptoSaid : Prop := fnExactFallsUptoRow.holds Try.pinned (OpenSpec.upto fnExactFallsSpec)

/-- 'laws.FnExactChain', WHERE WHAT IT READS IS OF BULK AT MOST 1048576: true; the input reads as it did. -/
def fnExactChainUptoRow : OpenClaim := { program := "ytlmlkkkgcbpaoaa", sum := "f28adc1e5df5af89b0ddac1a67b49ed6144743c88d22d2ea3aa8f91ebd496b38", func := "loop.example/g00385/laws.FnExactChain", spec := "fnExactChain", unfollowed := true, recurses := true, apart := false, narrowed := true }
def FnExactChainUptoSaid : Prop := fnExactChainUptoRow.holds Try.pinned (OpenSpec.upto fnExactChainSpec)

/-- 'laws.FnExactThreads', WHERE WHAT IT READS IS OF BULK AT MOST 1048576: true; the input reads as it did. -/
def fnExactThreadsUptoRow : OpenClaim := { program := "ytlmlkkkgcbpaoaa", sum := "f28adc1e5df5af89b0ddac1a67b49ed6144743c88d22d2ea3aa8f91ebd496b38", func := "loop.example/g00385/laws.FnExactThreads", spec := "fnExactThreads", unfollowed := true, recurses := true, apart := false, narrowed := true }
def FnExactThreadsUptoSaid : Prop := fnExactThreadsUptoRow.holds Try.pinned (OpenSpec.upto fnExactThreadsSpec)

/-- 'laws.FnExactCounts', WHERE WHAT IT READS IS OF BULK AT MOST 1048576: true; the input reads as it did. -/
def fnExactCountsUptoRow : OpenClaim := { program := "ytlmlkkkgcbpaoaa", sum := "f28adc1e5df5af89b0ddac1a67b49ed6144743c88d22d2ea3aa8f91ebd496b38", func := "loop.example/g00385/laws.FnExactCounts", spec := "fnExactCounts", unfollowed := true, recurses := true, apart := false, narrowed := true }
def FnExactCountsUptoSaid : Prop := fnExactCountsUptoRow.holds Try.pinned (OpenSpec.upto fnExactCountsSpec)

/-- 'laws.FnExactOrderOk', WHERE WHAT IT READS IS OF BULK AT MOST 1048576: true; the input reads as it did. -/
def fnExactOrderOkUptoRow : OpenClaim := { program := "ytlmlkkkgcbpaoaa", sum := "f28adc1e5df5af89b0ddac1a67b49ed6144743c88d22d2ea3aa8f91ebd496b38", func := "loop.example/g00385/laws.FnExactOrderOk", spec := "fnExactOrderOk", unfollowed := true, recurses := true, apart := false, narrowed := true }
def FnExactOrderOkUptoSaid : Prop := fnExactOrderOkUptoRow.holds Try.pinned (OpenSpec.upto fnExactOrderOkSpec)

/-- 'laws.FnExactDeadStores', WHERE WHAT IT READS IS OF BULK AT MOST 1048576: true; the input reads as it did. -/
def fnExactDeadStoresUptoRow : OpenClaim := { program := "ytlmlkkkgcbpaoaa", sum := "f28adc1e5df5af89b0ddac1a67b49ed6144743c88d22d2ea3aa8f91ebd496b38", func := "loop.example/g00385/laws.FnExactDeadStores", spec := "fnExactDeadStores", unfollowed := true, recurses := true, apart := false, narrowed := true }
def FnExactDeadStoresUptoSaid : Prop := fnExactDeadStoresUptoRow.holds Try.pinned (OpenSpec.upto fnExactDeadStoresSpec)

/-- 'laws.FnExactForward', WHERE WHAT IT READS IS OF BULK AT MOST 1048576: true; the input reads as it did. -/
def fnExactForwardUptoRow : OpenClaim := { program := "ytlmlkkkgcbpaoaa", sum := "f28adc1e5df5af89b0ddac1a67b49ed6144743c88d22d2ea3aa8f91ebd496b38", func := "loop.example/g00385/laws.FnExactForward", spec := "fnExactForward", unfollowed := true, recurses := true, apart := false, narrowed := true }
def FnExactForwardUptoSaid : Prop := fnExactForwardUptoRow.holds Try.pinned (OpenSpec.upto fnExactForwardSpec)

/-- 'laws.FnExactReorder', WHERE WHAT IT READS IS OF BULK AT MOST 1048576: true; the input reads as it did. -/
def fnExactReorderUptoRow : OpenClaim := { program := "ytlmlkkkgcbpaoaa", sum := "f28adc1e5df5af89b0ddac1a67b49ed6144743c88d22d2ea3aa8f91ebd496b38", func := "loop.example/g00385/laws.FnExactReorder", spec := "fnExactReorder", unfollowed := true, recurses := true, apart := false, narrowed := true }
def FnExactReorderUptoSaid : Prop := fnExactReorderUptoRow.holds Try.pinned (OpenSpec.upto fnExactReorderSpec)

end Rows
end Go.Proofs.Ytlmlkkkgcbpaoaa
