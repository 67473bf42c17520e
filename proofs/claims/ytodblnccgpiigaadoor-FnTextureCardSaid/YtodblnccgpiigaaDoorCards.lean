/-
  DERIVED. GIVEN WITH THE SEED: THE CARDS: each row of YtodblnccgpiigaaDoorRows.lean that lists a variable, with what it lists TIED to the program's text (the seventh form; the later family's looks); each row that meets fmt, with fmt's text TOLD by the authors' own Lean function (tested against real Go, not proved from fmt's source: count such statements apart). THE CARD IS WHAT COUNTS. Prove the row's statement (the work); the ties are given (YtodblnccgpiigaaDoorTie.lean); close each card by the builder's one call (the guide's Derived/Test/ToyasCard.lean, 'card_holds'). Laid BY PROGRAM, IN A SANDBOX (cutbox-door.mjs). By AI agents, Wed Nov 11 2026. No macro, syntax, notation, axiom, sorry.
-/
import Derived.Test.YtodblnccgpiigaaDoorRows
import GoSem.ClaimSeven
namespace Go.Proofs.YtodblnccgpiigaaDoor
namespace Rows

/-- THE TIED CARD OF 'laws.FnImages'. -/
def fnImagesCard : Claim7 := { stood := { row := fnImagesRow, standIns := [], harness := (true, "9f39c15167de47c6a0cc049db57585dd1863d7cef5159da7b16a1b2dd734685a"), looks := true }, kinds := [], alts := [], laidByText := true, laidKinds := [.data, .data, .data, .sentinel, .sentinel], laidTests := true, laidLooks := .later }
def FnImagesCardSaid : Prop := Claim7.holds Tryd.pinned (.plain (OpenSpec.ofChange fnImagesSpec)) fnImagesCard

/-- THE TIED CARD OF 'laws.FnExactParseImage'. -/
def fnExactParseImageCard : Claim7 := { stood := { row := fnExactParseImageRow, standIns := [], harness := (true, "9f39c15167de47c6a0cc049db57585dd1863d7cef5159da7b16a1b2dd734685a"), looks := true }, kinds := [], alts := [], laidByText := true, laidKinds := [.data, .data, .data, .sentinel, .sentinel], laidTests := true, laidLooks := .later }
def FnExactParseImageCardSaid : Prop := Claim7.holds Tryd.pinned (.plain (OpenSpec.ofChange fnExactParseImageSpec)) fnExactParseImageCard

/-- THE TIED CARD OF 'laws.FnTexture'. -/
def fnTextureCard : Claim7 := { stood := { row := fnTextureRow, standIns := [], harness := (true, "9f39c15167de47c6a0cc049db57585dd1863d7cef5159da7b16a1b2dd734685a"), looks := true }, kinds := [], alts := [], laidByText := true, laidKinds := [.data, .data, .data, .sentinel, .sentinel], laidTests := true, laidLooks := .later }
def FnTextureCardSaid : Prop := Claim7.holds Tryd.pinned (.plain (OpenSpec.ofChange fnTextureSpec)) fnTextureCard

/-- THE SECOND FORM's CARD OF 'laws.FnImages'. -/
def fnImagesUptoCard : Claim7 := { stood := { row := fnImagesUptoRow, standIns := [], harness := (true, "9f39c15167de47c6a0cc049db57585dd1863d7cef5159da7b16a1b2dd734685a"), looks := true }, kinds := [], alts := [], laidByText := true, laidKinds := [.data, .data, .data, .sentinel, .sentinel], laidTests := true, laidLooks := .later }
def FnImagesUptoCardSaid : Prop := Claim7.holds Tryd.pinned (.plain (OpenSpec.upto fnImagesSpec)) fnImagesUptoCard

/-- THE SECOND FORM's CARD OF 'laws.FnExactParseImage'. -/
def fnExactParseImageUptoCard : Claim7 := { stood := { row := fnExactParseImageUptoRow, standIns := [], harness := (true, "9f39c15167de47c6a0cc049db57585dd1863d7cef5159da7b16a1b2dd734685a"), looks := true }, kinds := [], alts := [], laidByText := true, laidKinds := [.data, .data, .data, .sentinel, .sentinel], laidTests := true, laidLooks := .later }
def FnExactParseImageUptoCardSaid : Prop := Claim7.holds Tryd.pinned (.plain (OpenSpec.upto fnExactParseImageSpec)) fnExactParseImageUptoCard

/-- THE SECOND FORM's CARD OF 'laws.FnTexture'. -/
def fnTextureUptoCard : Claim7 := { stood := { row := fnTextureUptoRow, standIns := [], harness := (true, "9f39c15167de47c6a0cc049db57585dd1863d7cef5159da7b16a1b2dd734685a"), looks := true }, kinds := [], alts := [], laidByText := true, laidKinds := [.data, .data, .data, .sentinel, .sentinel], laidTests := true, laidLooks := .later }
def FnTextureUptoCardSaid : Prop := Claim7.holds Tryd.pinned (.plain (OpenSpec.upto fnTextureSpec)) fnTextureUptoCard
end Rows
end Go.Proofs.YtodblnccgpiigaaDoor
