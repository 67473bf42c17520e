/-
  DERIVED. GIVEN WITH THE SEED: THE CARDS: each row of YtkcghoeklbcihaaGreatDoorRows.lean that lists a variable, with what it lists TIED to the program's text (the seventh form; the later family's looks); each row that meets fmt, with fmt's text TOLD by the authors' own Lean function (tested against real Go, not proved from fmt's source: count such statements apart). THE CARD IS WHAT COUNTS. Prove the row's statement (the work); the ties are given (YtkcghoeklbcihaaGreatDoorTie.lean); close each card by the builder's one call (the guide's Derived/Test/ToyasCard.lean, 'card_holds'). Laid BY PROGRAM, IN A SANDBOX (cutbox-door.mjs). By AI agents, Wed Nov 11 2026. No macro, syntax, notation, axiom, sorry.
-/
import Derived.Test.YtkcghoeklbcihaaGreatDoorRows
import GoSem.ClaimSeven
namespace Go.Proofs.YtkcghoeklbcihaaGreatDoor
namespace Rows

/-- THE TIED CARD OF 'laws.FnTransforms'. -/
def fnTransformsCard : Claim7 := { stood := { row := fnTransformsRow, standIns := [], harness := (true, "8a36abec6d14050a9f132d9c886c78921cddd4a5acae1b506cc0c1ddbe0dae7a"), looks := true }, kinds := [], alts := [], laidByText := true, laidKinds := [.data, .data, .data, .sentinel, .sentinel], laidTests := true, laidLooks := .later }
def FnTransformsCardSaid : Prop := Claim7.holds Tryz.pinned (.plain (OpenSpec.ofChange fnTransformsSpec)) fnTransformsCard

/-- THE SECOND FORM's CARD OF 'laws.FnTransforms'. -/
def fnTransformsUptoCard : Claim7 := { stood := { row := fnTransformsUptoRow, standIns := [], harness := (true, "8a36abec6d14050a9f132d9c886c78921cddd4a5acae1b506cc0c1ddbe0dae7a"), looks := true }, kinds := [], alts := [], laidByText := true, laidKinds := [.data, .data, .data, .sentinel, .sentinel], laidTests := true, laidLooks := .later }
def FnTransformsUptoCardSaid : Prop := Claim7.holds Tryz.pinned (.plain (OpenSpec.upto fnTransformsSpec)) fnTransformsUptoCard
end Rows
end Go.Proofs.YtkcghoeklbcihaaGreatDoor
