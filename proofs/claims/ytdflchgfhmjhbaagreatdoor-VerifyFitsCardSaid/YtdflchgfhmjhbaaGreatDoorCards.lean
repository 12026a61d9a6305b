/-
  DERIVED. GIVEN WITH THE SEED: THE CARDS: each row of YtdflchgfhmjhbaaGreatDoorRows.lean that lists a variable, with what it lists TIED to the program's text (the seventh form; the later family's looks); each row that meets fmt, with fmt's text TOLD by the authors' own Lean function (tested against real Go, not proved from fmt's source: count such statements apart). THE CARD IS WHAT COUNTS. Prove the row's statement (the work); the ties are given (YtdflchgfhmjhbaaGreatDoorTie.lean); close each card by the builder's one call (the guide's Derived/Test/ToyasCard.lean, 'card_holds'). Laid BY PROGRAM, IN A SANDBOX (cutbox-door.mjs). By AI agents, Wed Nov 11 2026. No macro, syntax, notation, axiom, sorry.
-/
import Derived.Test.YtdflchgfhmjhbaaGreatDoorRows
import GoSem.ClaimSeven
namespace Go.Proofs.YtdflchgfhmjhbaaGreatDoor
namespace Rows

/-- THE TIED CARD OF 'chirographlaw27.VerifyFits'. -/
def verifyFitsCard : Claim7 := { stood := { row := verifyFitsRow, standIns := [], harness := (true, "44086fa3127027469a3f02564ca63b6b4842f237a7348b24f9bec721d76380b8"), looks := true }, kinds := [], alts := [], laidByText := true, laidKinds := [.data], laidTests := true, laidLooks := .later }
def VerifyFitsCardSaid : Prop := Claim7.holds Tryz.pinned (.plain (OpenSpec.ofChange verifyFitsSpec)) verifyFitsCard

/-- THE TIED CARD OF 'chirographlaw21.LinkOnce'. -/
def linkOnceCard : Claim7 := { stood := { row := linkOnceRow, standIns := [], harness := (true, "44086fa3127027469a3f02564ca63b6b4842f237a7348b24f9bec721d76380b8"), looks := true }, kinds := [], alts := [], laidByText := true, laidKinds := [.data], laidTests := true, laidLooks := .later }
def LinkOnceCardSaid : Prop := Claim7.holds Tryz.pinned (.plain (OpenSpec.ofChange linkOnceSpec)) linkOnceCard

/-- THE TIED CARD OF 'chirographlaw21.LinkMeets'. -/
def linkMeetsCard : Claim7 := { stood := { row := linkMeetsRow, standIns := [], harness := (true, "44086fa3127027469a3f02564ca63b6b4842f237a7348b24f9bec721d76380b8"), looks := true }, kinds := [], alts := [], laidByText := true, laidKinds := [.data], laidTests := true, laidLooks := .later }
def LinkMeetsCardSaid : Prop := Claim7.holds Tryz.pinned (.plain (OpenSpec.ofChange linkMeetsSpec)) linkMeetsCard

/-- THE SECOND FORM's CARD OF 'chirographlaw27.VerifyFits'. -/
def verifyFitsUptoCard : Claim7 := { stood := { row := verifyFitsUptoRow, standIns := [], harness := (true, "44086fa3127027469a3f02564ca63b6b4842f237a7348b24f9bec721d76380b8"), looks := true }, kinds := [], alts := [], laidByText := true, laidKinds := [.data], laidTests := true, laidLooks := .later }
def VerifyFitsUptoCardSaid : Prop := Claim7.holds Tryz.pinned (.plain (OpenSpec.upto verifyFitsSpec)) verifyFitsUptoCard

/-- THE SECOND FORM's CARD OF 'chirographlaw21.LinkOnce'. -/
def linkOnceUptoCard : Claim7 := { stood := { row := linkOnceUptoRow, standIns := [], harness := (true, "44086fa3127027469a3f02564ca63b6b4842f237a7348b24f9bec721d76380b8"), looks := true }, kinds := [], alts := [], laidByText := true, laidKinds := [.data], laidTests := true, laidLooks := .later }
def LinkOnceUptoCardSaid : Prop := Claim7.holds Tryz.pinned (.plain (OpenSpec.upto linkOnceSpec)) linkOnceUptoCard

/-- THE SECOND FORM's CARD OF 'chirographlaw21.LinkMeets'. -/
def linkMeetsUptoCard : Claim7 := { stood := { row := linkMeetsUptoRow, standIns := [], harness := (true, "44086fa3127027469a3f02564ca63b6b4842f237a7348b24f9bec721d76380b8"), looks := true }, kinds := [], alts := [], laidByText := true, laidKinds := [.data], laidTests := true, laidLooks := .later }
def LinkMeetsUptoCardSaid : Prop := Claim7.holds Tryz.pinned (.plain (OpenSpec.upto linkMeetsSpec)) linkMeetsUptoCard
end Rows
end Go.Proofs.YtdflchgfhmjhbaaGreatDoor
