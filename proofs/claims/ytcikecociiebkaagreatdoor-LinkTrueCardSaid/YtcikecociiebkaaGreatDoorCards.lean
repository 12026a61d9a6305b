/-
  DERIVED. GIVEN WITH THE SEED: THE CARDS: each row of YtcikecociiebkaaGreatDoorRows.lean that lists a variable, with what it lists TIED to the program's text (the seventh form; the later family's looks); each row that meets fmt, with fmt's text TOLD by the authors' own Lean function (tested against real Go, not proved from fmt's source: count such statements apart). THE CARD IS WHAT COUNTS. Prove the row's statement (the work); the ties are given (YtcikecociiebkaaGreatDoorTie.lean); close each card by the builder's one call (the guide's Derived/Test/ToyasCard.lean, 'card_holds'). Laid BY PROGRAM, IN A SANDBOX (cutbox-door.mjs). By AI agents, Wed Nov 11 2026. No macro, syntax, notation, axiom, sorry.
-/
import Derived.Test.YtcikecociiebkaaGreatDoorRows
import GoSem.ClaimSeven
namespace Go.Proofs.YtcikecociiebkaaGreatDoor
namespace Rows

/-- THE TIED CARD OF 'chirographlaw27.VerifyHolds'. -/
def verifyHoldsCard : Claim7 := { stood := { row := verifyHoldsRow, standIns := [], harness := (true, "b5b8b4b9d96727520e86a467762fccff150fbbe4bda9ffae28007b448c94167d"), looks := true }, kinds := [], alts := [], laidByText := true, laidKinds := [.data], laidTests := true, laidLooks := .later }
def VerifyHoldsCardSaid : Prop := Claim7.holds Tryz.pinned (.plain (OpenSpec.ofChange verifyHoldsSpec)) verifyHoldsCard

/-- THE TIED CARD OF 'chirographlaw21.LinkTrue'. -/
def linkTrueCard : Claim7 := { stood := { row := linkTrueRow, standIns := [], harness := (true, "b5b8b4b9d96727520e86a467762fccff150fbbe4bda9ffae28007b448c94167d"), looks := true }, kinds := [], alts := [], laidByText := true, laidKinds := [.data], laidTests := true, laidLooks := .later }
def LinkTrueCardSaid : Prop := Claim7.holds Tryz.pinned (.plain (OpenSpec.ofChange linkTrueSpec)) linkTrueCard

/-- THE SECOND FORM's CARD OF 'chirographlaw27.VerifyHolds'. -/
def verifyHoldsUptoCard : Claim7 := { stood := { row := verifyHoldsUptoRow, standIns := [], harness := (true, "b5b8b4b9d96727520e86a467762fccff150fbbe4bda9ffae28007b448c94167d"), looks := true }, kinds := [], alts := [], laidByText := true, laidKinds := [.data], laidTests := true, laidLooks := .later }
def VerifyHoldsUptoCardSaid : Prop := Claim7.holds Tryz.pinned (.plain (OpenSpec.upto verifyHoldsSpec)) verifyHoldsUptoCard

/-- THE SECOND FORM's CARD OF 'chirographlaw21.LinkTrue'. -/
def linkTrueUptoCard : Claim7 := { stood := { row := linkTrueUptoRow, standIns := [], harness := (true, "b5b8b4b9d96727520e86a467762fccff150fbbe4bda9ffae28007b448c94167d"), looks := true }, kinds := [], alts := [], laidByText := true, laidKinds := [.data], laidTests := true, laidLooks := .later }
def LinkTrueUptoCardSaid : Prop := Claim7.holds Tryz.pinned (.plain (OpenSpec.upto linkTrueSpec)) linkTrueUptoCard
end Rows
end Go.Proofs.YtcikecociiebkaaGreatDoor
