/-
  DERIVED. GIVEN WITH THE SEED: THE CARDS: each row of YtmcmgeedhbgglaaDoorRows.lean that lists a variable, with what it lists TIED to the program's text (the seventh form; the later family's looks); each row that meets fmt, with fmt's text TOLD by the authors' own Lean function (tested against real Go, not proved from fmt's source: count such statements apart). THE CARD IS WHAT COUNTS. Prove the row's statement (the work); the ties are given (YtmcmgeedhbgglaaDoorTie.lean); close each card by the builder's one call (the guide's Derived/Test/ToyasCard.lean, 'card_holds'). Laid BY PROGRAM, IN A SANDBOX (cutbox-door.mjs). By AI agents, Wed Nov 11 2026. No macro, syntax, notation, axiom, sorry.
-/
import Derived.Test.YtmcmgeedhbgglaaDoorRows
import GoSem.ClaimSeven
namespace Go.Proofs.YtmcmgeedhbgglaaDoor
namespace Rows

/-- THE TIED CARD OF 'laws.FnExactCpuText'. -/
def fnExactCpuTextCard : Claim7 := { stood := { row := fnExactCpuTextRow, standIns := [], harness := (true, "fa59e656b56fca23633a115571f72119d99d0a6d31296ab26caffd16c75fd26b"), looks := true }, kinds := [], alts := [], laidByText := true, laidKinds := [.data, .data, .data], laidTests := true, laidLooks := .later }
def FnExactCpuTextCardSaid : Prop := Claim7.holds Tryd.pinned (.plain (OpenSpec.ofChange fnExactCpuTextSpec)) fnExactCpuTextCard

/-- THE TIED CARD OF 'laws.FnExactReadNum'. -/
def fnExactReadNumCard : Claim7 := { stood := { row := fnExactReadNumRow, standIns := [], harness := (true, "fa59e656b56fca23633a115571f72119d99d0a6d31296ab26caffd16c75fd26b"), looks := true }, kinds := [], alts := [], laidByText := true, laidKinds := [.data, .data, .data, .sentinel, .sentinel], laidTests := true, laidLooks := .later }
def FnExactReadNumCardSaid : Prop := Claim7.holds Tryd.pinned (.plain (OpenSpec.ofChange fnExactReadNumSpec)) fnExactReadNumCard

/-- THE TIED CARD OF 'laws.FnExactAsmWord'. -/
def fnExactAsmWordCard : Claim7 := { stood := { row := fnExactAsmWordRow, standIns := [], harness := (true, "fa59e656b56fca23633a115571f72119d99d0a6d31296ab26caffd16c75fd26b"), looks := true }, kinds := [], alts := [], laidByText := true, laidKinds := [.data, .data, .data, .data, .pinned], laidTests := true, laidLooks := .later }
def FnExactAsmWordCardSaid : Prop := Claim7.holds Tryd.pinned (.plain (OpenSpec.ofChange fnExactAsmWordSpec)) fnExactAsmWordCard

/-- THE TIED CARD OF 'laws.FnExactAsm'. -/
def fnExactAsmCard : Claim7 := { stood := { row := fnExactAsmRow, standIns := [], harness := (true, "fa59e656b56fca23633a115571f72119d99d0a6d31296ab26caffd16c75fd26b"), looks := true }, kinds := [], alts := [], laidByText := true, laidKinds := [.data, .data, .data, .data, .pinned], laidTests := true, laidLooks := .later }
def FnExactAsmCardSaid : Prop := Claim7.holds Tryd.pinned (.plain (OpenSpec.ofChange fnExactAsmSpec)) fnExactAsmCard

/-- THE SECOND FORM's CARD OF 'laws.FnExactCpuText'. -/
def fnExactCpuTextUptoCard : Claim7 := { stood := { row := fnExactCpuTextUptoRow, standIns := [], harness := (true, "fa59e656b56fca23633a115571f72119d99d0a6d31296ab26caffd16c75fd26b"), looks := true }, kinds := [], alts := [], laidByText := true, laidKinds := [.data, .data, .data], laidTests := true, laidLooks := .later }
def FnExactCpuTextUptoCardSaid : Prop := Claim7.holds Tryd.pinned (.plain (OpenSpec.upto fnExactCpuTextSpec)) fnExactCpuTextUptoCard

/-- THE SECOND FORM's CARD OF 'laws.FnExactReadNum'. -/
def fnExactReadNumUptoCard : Claim7 := { stood := { row := fnExactReadNumUptoRow, standIns := [], harness := (true, "fa59e656b56fca23633a115571f72119d99d0a6d31296ab26caffd16c75fd26b"), looks := true }, kinds := [], alts := [], laidByText := true, laidKinds := [.data, .data, .data, .sentinel, .sentinel], laidTests := true, laidLooks := .later }
def FnExactReadNumUptoCardSaid : Prop := Claim7.holds Tryd.pinned (.plain (OpenSpec.upto fnExactReadNumSpec)) fnExactReadNumUptoCard

/-- THE SECOND FORM's CARD OF 'laws.FnExactAsmWord'. -/
def fnExactAsmWordUptoCard : Claim7 := { stood := { row := fnExactAsmWordUptoRow, standIns := [], harness := (true, "fa59e656b56fca23633a115571f72119d99d0a6d31296ab26caffd16c75fd26b"), looks := true }, kinds := [], alts := [], laidByText := true, laidKinds := [.data, .data, .data, .data, .pinned], laidTests := true, laidLooks := .later }
def FnExactAsmWordUptoCardSaid : Prop := Claim7.holds Tryd.pinned (.plain (OpenSpec.upto fnExactAsmWordSpec)) fnExactAsmWordUptoCard

/-- THE SECOND FORM's CARD OF 'laws.FnExactAsm'. -/
def fnExactAsmUptoCard : Claim7 := { stood := { row := fnExactAsmUptoRow, standIns := [], harness := (true, "fa59e656b56fca23633a115571f72119d99d0a6d31296ab26caffd16c75fd26b"), looks := true }, kinds := [], alts := [], laidByText := true, laidKinds := [.data, .data, .data, .data, .pinned], laidTests := true, laidLooks := .later }
def FnExactAsmUptoCardSaid : Prop := Claim7.holds Tryd.pinned (.plain (OpenSpec.upto fnExactAsmSpec)) fnExactAsmUptoCard
end Rows
end Go.Proofs.YtmcmgeedhbgglaaDoor
