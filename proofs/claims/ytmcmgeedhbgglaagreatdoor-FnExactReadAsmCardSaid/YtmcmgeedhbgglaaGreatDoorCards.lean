/-
  DERIVED. GIVEN WITH THE SEED: THE CARDS: each row of YtmcmgeedhbgglaaGreatDoorRows.lean that lists a variable, with what it lists TIED to the program's text (the seventh form; the later family's looks); each row that meets fmt, with fmt's text TOLD by the authors' own Lean function (tested against real Go, not proved from fmt's source: count such statements apart). THE CARD IS WHAT COUNTS. Prove the row's statement (the work); the ties are given (YtmcmgeedhbgglaaGreatDoorTie.lean); close each card by the builder's one call (the guide's Derived/Test/ToyasCard.lean, 'card_holds'). Laid BY PROGRAM, IN A SANDBOX (cutbox-door.mjs). By AI agents, Wed Nov 11 2026. No macro, syntax, notation, axiom, sorry.
-/
import Derived.Test.YtmcmgeedhbgglaaGreatDoorRows
import GoSem.ClaimSeven
namespace Go.Proofs.YtmcmgeedhbgglaaGreatDoor
namespace Rows

/-- THE TIED CARD OF 'laws.FnExactReadAsm'. -/
def fnExactReadAsmCard : Claim7 := { stood := { row := fnExactReadAsmRow, standIns := [], harness := (true, "143a69d514b293ae3eebf1d23fce78fe6f1343d8f372fcdb4f13451eabb58ce9"), looks := true }, kinds := [], alts := [], laidByText := true, laidKinds := [.data, .data, .data, .data, .sentinel, .sentinel, .pinned], laidTests := true, laidLooks := .later }
def FnExactReadAsmCardSaid : Prop := Claim7.holds Tryz.pinned (.plain (OpenSpec.ofChange fnExactReadAsmSpec)) fnExactReadAsmCard

/-- THE TIED CARD OF 'laws.FnExactParse'. -/
def fnExactParseCard : Claim7 := { stood := { row := fnExactParseRow, standIns := [], harness := (true, "143a69d514b293ae3eebf1d23fce78fe6f1343d8f372fcdb4f13451eabb58ce9"), looks := true }, kinds := [], alts := [], laidByText := true, laidKinds := [.data, .data, .data, .sentinel, .sentinel], laidTests := true, laidLooks := .later }
def FnExactParseCardSaid : Prop := Claim7.holds Tryz.pinned (.plain (OpenSpec.ofChange fnExactParseSpec)) fnExactParseCard

/-- THE SECOND FORM's CARD OF 'laws.FnExactReadAsm'. -/
def fnExactReadAsmUptoCard : Claim7 := { stood := { row := fnExactReadAsmUptoRow, standIns := [], harness := (true, "143a69d514b293ae3eebf1d23fce78fe6f1343d8f372fcdb4f13451eabb58ce9"), looks := true }, kinds := [], alts := [], laidByText := true, laidKinds := [.data, .data, .data, .data, .sentinel, .sentinel, .pinned], laidTests := true, laidLooks := .later }
def FnExactReadAsmUptoCardSaid : Prop := Claim7.holds Tryz.pinned (.plain (OpenSpec.upto fnExactReadAsmSpec)) fnExactReadAsmUptoCard

/-- THE SECOND FORM's CARD OF 'laws.FnExactParse'. -/
def fnExactParseUptoCard : Claim7 := { stood := { row := fnExactParseUptoRow, standIns := [], harness := (true, "143a69d514b293ae3eebf1d23fce78fe6f1343d8f372fcdb4f13451eabb58ce9"), looks := true }, kinds := [], alts := [], laidByText := true, laidKinds := [.data, .data, .data, .sentinel, .sentinel], laidTests := true, laidLooks := .later }
def FnExactParseUptoCardSaid : Prop := Claim7.holds Tryz.pinned (.plain (OpenSpec.upto fnExactParseSpec)) fnExactParseUptoCard
end Rows
end Go.Proofs.YtmcmgeedhbgglaaGreatDoor
