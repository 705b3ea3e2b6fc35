/-
  DERIVED. GIVEN WITH THE SEED: THE CARDS: each row of YtgdlmgdcoedfoaaGreatDoorRows.lean that lists a variable, with what it lists TIED to the program's text (the seventh form; the later family's looks); each row that meets fmt, with fmt's text TOLD by the authors' own Lean function (tested against real Go, not proved from fmt's source: count such statements apart). THE CARD IS WHAT COUNTS. Prove the row's statement (the work); the ties are given (YtgdlmgdcoedfoaaGreatDoorTie.lean); close each card by the builder's one call (the guide's Derived/Test/ToyasCard.lean, 'card_holds'). Laid BY PROGRAM, IN A SANDBOX (cutbox-door.mjs). By AI agents, Wed Nov 11 2026. No macro, syntax, notation, axiom, sorry.
-/
import Derived.Test.YtgdlmgdcoedfoaaGreatDoorRows
import GoSem.ClaimSeven
namespace Go.Proofs.YtgdlmgdcoedfoaaGreatDoor
namespace Rows

/-- THE TIED CARD OF 'hornbooklaw16.AglIs'. -/
def aglIsCard : Claim7 := { stood := { row := aglIsRow, standIns := [], harness := (true, "47a85141097b2741b04dd182b4f624d71888b11482a26e4e89b6d0df7a2beeb4"), looks := true }, kinds := [], alts := [], laidByText := true, laidKinds := [.data, .data, .data, .data, .sentinel, .sentinel, .listed, .data, .pinned, .pinned], laidTests := true, laidLooks := .later }
def AglIsCardSaid : Prop := Claim7.holds Tryz.pinned (.plain (OpenSpec.ofChange aglIsSpec)) aglIsCard

/-- THE TIED CARD OF 'hornbooklaw16.AglBack'. -/
def aglBackCard : Claim7 := { stood := { row := aglBackRow, standIns := [], harness := (true, "47a85141097b2741b04dd182b4f624d71888b11482a26e4e89b6d0df7a2beeb4"), looks := true }, kinds := [], alts := [], laidByText := true, laidKinds := [.data, .data, .data, .data, .sentinel, .sentinel, .listed, .data, .pinned, .pinned], laidTests := true, laidLooks := .later }
def AglBackCardSaid : Prop := Claim7.holds Tryz.pinned (.plain (OpenSpec.ofChange aglBackSpec)) aglBackCard

/-- THE TIED CARD OF 'hornbooklaw16.AglParts'. -/
def aglPartsCard : Claim7 := { stood := { row := aglPartsRow, standIns := [], harness := (true, "47a85141097b2741b04dd182b4f624d71888b11482a26e4e89b6d0df7a2beeb4"), looks := true }, kinds := [], alts := [], laidByText := true, laidKinds := [.data, .data, .data, .data, .sentinel, .sentinel, .listed, .data, .pinned, .pinned], laidTests := true, laidLooks := .later }
def AglPartsCardSaid : Prop := Claim7.holds Tryz.pinned (.plain (OpenSpec.ofChange aglPartsSpec)) aglPartsCard

/-- THE TIED CARD OF 'hornbooklaw16.AglRows'. -/
def aglRowsCard : Claim7 := { stood := { row := aglRowsRow, standIns := [], harness := (true, "47a85141097b2741b04dd182b4f624d71888b11482a26e4e89b6d0df7a2beeb4"), looks := true }, kinds := [], alts := [], laidByText := true, laidKinds := [.data, .data, .data, .data, .sentinel, .sentinel, .listed, .data, .pinned, .pinned], laidTests := true, laidLooks := .later }
def AglRowsCardSaid : Prop := Claim7.holds Tryz.pinned (.plain (OpenSpec.ofChange aglRowsSpec)) aglRowsCard

/-- THE TIED CARD OF 'hornbooklaw16.AglHex'. -/
def aglHexCard : Claim7 := { stood := { row := aglHexRow, standIns := [], harness := (true, "47a85141097b2741b04dd182b4f624d71888b11482a26e4e89b6d0df7a2beeb4"), looks := true }, kinds := [], alts := [], laidByText := true, laidKinds := [.data, .data, .data, .data, .sentinel, .sentinel, .listed, .data, .pinned, .pinned], laidTests := true, laidLooks := .later }
def AglHexCardSaid : Prop := Claim7.holds Tryz.pinned (.plain (OpenSpec.ofChange aglHexSpec)) aglHexCard

/-- THE TIED CARD OF 'hornbooklaw16.AglGood'. -/
def aglGoodCard : Claim7 := { stood := { row := aglGoodRow, standIns := [], harness := (true, "47a85141097b2741b04dd182b4f624d71888b11482a26e4e89b6d0df7a2beeb4"), looks := true }, kinds := [], alts := [], laidByText := true, laidKinds := [.data, .data, .data, .data, .sentinel, .sentinel, .listed, .data, .pinned, .pinned], laidTests := true, laidLooks := .later }
def AglGoodCardSaid : Prop := Claim7.holds Tryz.pinned (.plain (OpenSpec.ofChange aglGoodSpec)) aglGoodCard

/-- THE SECOND FORM's CARD OF 'hornbooklaw16.AglIs'. -/
def aglIsUptoCard : Claim7 := { stood := { row := aglIsUptoRow, standIns := [], harness := (true, "47a85141097b2741b04dd182b4f624d71888b11482a26e4e89b6d0df7a2beeb4"), looks := true }, kinds := [], alts := [], laidByText := true, laidKinds := [.data, .data, .data, .data, .sentinel, .sentinel, .listed, .data, .pinned, .pinned], laidTests := true, laidLooks := .later }
def AglIsUptoCardSaid : Prop := Claim7.holds Tryz.pinned (.plain (OpenSpec.upto aglIsSpec)) aglIsUptoCard

/-- THE SECOND FORM's CARD OF 'hornbooklaw16.AglBack'. -/
def aglBackUptoCard : Claim7 := { stood := { row := aglBackUptoRow, standIns := [], harness := (true, "47a85141097b2741b04dd182b4f624d71888b11482a26e4e89b6d0df7a2beeb4"), looks := true }, kinds := [], alts := [], laidByText := true, laidKinds := [.data, .data, .data, .data, .sentinel, .sentinel, .listed, .data, .pinned, .pinned], laidTests := true, laidLooks := .later }
def AglBackUptoCardSaid : Prop := Claim7.holds Tryz.pinned (.plain (OpenSpec.upto aglBackSpec)) aglBackUptoCard

/-- THE SECOND FORM's CARD OF 'hornbooklaw16.AglParts'. -/
def aglPartsUptoCard : Claim7 := { stood := { row := aglPartsUptoRow, standIns := [], harness := (true, "47a85141097b2741b04dd182b4f624d71888b11482a26e4e89b6d0df7a2beeb4"), looks := true }, kinds := [], alts := [], laidByText := true, laidKinds := [.data, .data, .data, .data, .sentinel, .sentinel, .listed, .data, .pinned, .pinned], laidTests := true, laidLooks := .later }
def AglPartsUptoCardSaid : Prop := Claim7.holds Tryz.pinned (.plain (OpenSpec.upto aglPartsSpec)) aglPartsUptoCard

/-- THE SECOND FORM's CARD OF 'hornbooklaw16.AglRows'. -/
def aglRowsUptoCard : Claim7 := { stood := { row := aglRowsUptoRow, standIns := [], harness := (true, "47a85141097b2741b04dd182b4f624d71888b11482a26e4e89b6d0df7a2beeb4"), looks := true }, kinds := [], alts := [], laidByText := true, laidKinds := [.data, .data, .data, .data, .sentinel, .sentinel, .listed, .data, .pinned, .pinned], laidTests := true, laidLooks := .later }
def AglRowsUptoCardSaid : Prop := Claim7.holds Tryz.pinned (.plain (OpenSpec.upto aglRowsSpec)) aglRowsUptoCard

/-- THE SECOND FORM's CARD OF 'hornbooklaw16.AglHex'. -/
def aglHexUptoCard : Claim7 := { stood := { row := aglHexUptoRow, standIns := [], harness := (true, "47a85141097b2741b04dd182b4f624d71888b11482a26e4e89b6d0df7a2beeb4"), looks := true }, kinds := [], alts := [], laidByText := true, laidKinds := [.data, .data, .data, .data, .sentinel, .sentinel, .listed, .data, .pinned, .pinned], laidTests := true, laidLooks := .later }
def AglHexUptoCardSaid : Prop := Claim7.holds Tryz.pinned (.plain (OpenSpec.upto aglHexSpec)) aglHexUptoCard

/-- THE SECOND FORM's CARD OF 'hornbooklaw16.AglGood'. -/
def aglGoodUptoCard : Claim7 := { stood := { row := aglGoodUptoRow, standIns := [], harness := (true, "47a85141097b2741b04dd182b4f624d71888b11482a26e4e89b6d0df7a2beeb4"), looks := true }, kinds := [], alts := [], laidByText := true, laidKinds := [.data, .data, .data, .data, .sentinel, .sentinel, .listed, .data, .pinned, .pinned], laidTests := true, laidLooks := .later }
def AglGoodUptoCardSaid : Prop := Claim7.holds Tryz.pinned (.plain (OpenSpec.upto aglGoodSpec)) aglGoodUptoCard
end Rows
end Go.Proofs.YtgdlmgdcoedfoaaGreatDoor
