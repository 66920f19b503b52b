/-
  DERIVED. GIVEN WITH THE SEED: THE CARDS: each row of YtaaahfjpnggkbaaGreatDoorRows.lean that lists a variable, with what it lists TIED to the program's text (the seventh form; the later family's looks); each row that meets fmt, with fmt's text TOLD by the authors' own Lean function (tested against real Go, not proved from fmt's source: count such statements apart). THE CARD IS WHAT COUNTS. Prove the row's statement (the work); the ties are given (YtaaahfjpnggkbaaGreatDoorTie.lean); close each card by the builder's one call (the guide's Derived/Test/ToyasCard.lean, 'card_holds'). Laid BY PROGRAM, IN A SANDBOX (cutbox-door.mjs). By AI agents, Wed Nov 11 2026. No macro, syntax, notation, axiom, sorry.
-/
import Derived.Test.YtaaahfjpnggkbaaGreatDoorRows
import GoSem.ClaimSeven
namespace Go.Proofs.YtaaahfjpnggkbaaGreatDoor
namespace Rows

/-- THE TIED CARD OF 'balefirelaw10.PolysOf'. -/
def polysOfCard : Claim7 := { stood := { row := polysOfRow, standIns := [], harness := (true, "7bea921cb63625539429739024d4b7ca9829d85659a6aa9e3fa6b80a9242e826"), looks := true }, kinds := [], alts := [], laidByText := true, laidKinds := [.data, .data, .data], laidTests := true, laidLooks := .later }
def PolysOfCardSaid : Prop := Claim7.holds Tryz.pinned (.plain (OpenSpec.ofChange polysOfSpec)) polysOfCard

/-- THE TIED CARD OF 'balefirelaw12.DualsOf'. -/
def dualsOfCard : Claim7 := { stood := { row := dualsOfRow, standIns := [], harness := (true, "7bea921cb63625539429739024d4b7ca9829d85659a6aa9e3fa6b80a9242e826"), looks := true }, kinds := [], alts := [], laidByText := true, laidKinds := [.data, .data, .data], laidTests := true, laidLooks := .later }
def DualsOfCardSaid : Prop := Claim7.holds Tryz.pinned (.plain (OpenSpec.ofChange dualsOfSpec)) dualsOfCard

/-- THE TIED CARD OF 'balefirelaw11.SharesOf'. -/
def sharesOfCard : Claim7 := { stood := { row := sharesOfRow, standIns := [], harness := (true, "7bea921cb63625539429739024d4b7ca9829d85659a6aa9e3fa6b80a9242e826"), looks := true }, kinds := [], alts := [], laidByText := true, laidKinds := [.data, .data, .data], laidTests := true, laidLooks := .later }
def SharesOfCardSaid : Prop := Claim7.holds Tryz.pinned (.plain (OpenSpec.ofChange sharesOfSpec)) sharesOfCard

/-- THE SECOND FORM's CARD OF 'balefirelaw10.PolysOf'. -/
def polysOfUptoCard : Claim7 := { stood := { row := polysOfUptoRow, standIns := [], harness := (true, "7bea921cb63625539429739024d4b7ca9829d85659a6aa9e3fa6b80a9242e826"), looks := true }, kinds := [], alts := [], laidByText := true, laidKinds := [.data, .data, .data], laidTests := true, laidLooks := .later }
def PolysOfUptoCardSaid : Prop := Claim7.holds Tryz.pinned (.plain (OpenSpec.upto polysOfSpec)) polysOfUptoCard

/-- THE SECOND FORM's CARD OF 'balefirelaw12.DualsOf'. -/
def dualsOfUptoCard : Claim7 := { stood := { row := dualsOfUptoRow, standIns := [], harness := (true, "7bea921cb63625539429739024d4b7ca9829d85659a6aa9e3fa6b80a9242e826"), looks := true }, kinds := [], alts := [], laidByText := true, laidKinds := [.data, .data, .data], laidTests := true, laidLooks := .later }
def DualsOfUptoCardSaid : Prop := Claim7.holds Tryz.pinned (.plain (OpenSpec.upto dualsOfSpec)) dualsOfUptoCard

/-- THE SECOND FORM's CARD OF 'balefirelaw11.SharesOf'. -/
def sharesOfUptoCard : Claim7 := { stood := { row := sharesOfUptoRow, standIns := [], harness := (true, "7bea921cb63625539429739024d4b7ca9829d85659a6aa9e3fa6b80a9242e826"), looks := true }, kinds := [], alts := [], laidByText := true, laidKinds := [.data, .data, .data], laidTests := true, laidLooks := .later }
def SharesOfUptoCardSaid : Prop := Claim7.holds Tryz.pinned (.plain (OpenSpec.upto sharesOfSpec)) sharesOfUptoCard
end Rows
end Go.Proofs.YtaaahfjpnggkbaaGreatDoor
