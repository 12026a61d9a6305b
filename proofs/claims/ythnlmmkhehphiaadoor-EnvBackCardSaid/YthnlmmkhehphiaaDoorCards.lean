/-
  DERIVED. GIVEN WITH THE SEED: THE CARDS: each row of YthnlmmkhehphiaaDoorRows.lean that lists a variable, with what it lists TIED to the program's text (the seventh form; the later family's looks); each row that meets fmt, with fmt's text TOLD by the authors' own Lean function (tested against real Go, not proved from fmt's source: count such statements apart). THE CARD IS WHAT COUNTS. Prove the row's statement (the work); the ties are given (YthnlmmkhehphiaaDoorTie.lean); close each card by the builder's one call (the guide's Derived/Test/ToyasCard.lean, 'card_holds'). Laid BY PROGRAM, IN A SANDBOX (cutbox-door.mjs). By AI agents, Wed Nov 11 2026. No macro, syntax, notation, axiom, sorry.
-/
import Derived.Test.YthnlmmkhehphiaaDoorRows
import GoSem.ClaimSeven
namespace Go.Proofs.YthnlmmkhehphiaaDoor
namespace Rows

/-- THE TIED CARD OF 'chirographlaw13.BallotApart'. -/
def ballotApartCard : Claim7 := { stood := { row := ballotApartRow, standIns := [], harness := (true, "0132f95f18598e4e7ae5be6a539b09d3df411ed0df80d36e9f5baac6120d0779"), looks := true }, kinds := [], alts := [], laidByText := true, laidKinds := [.data], laidTests := true, laidLooks := .later }
def BallotApartCardSaid : Prop := Claim7.holds Tryd.pinned (.plain (OpenSpec.ofChange ballotApartSpec)) ballotApartCard

/-- THE TIED CARD OF 'chirographlaw20.EnvBack'. -/
def envBackCard : Claim7 := { stood := { row := envBackRow, standIns := [], harness := (true, "0132f95f18598e4e7ae5be6a539b09d3df411ed0df80d36e9f5baac6120d0779"), looks := true }, kinds := [], alts := [], laidByText := true, laidKinds := [.data], laidTests := true, laidLooks := .later }
def EnvBackCardSaid : Prop := Claim7.holds Tryd.pinned (.plain (OpenSpec.ofChange envBackSpec)) envBackCard

/-- THE SECOND FORM's CARD OF 'chirographlaw13.BallotApart'. -/
def ballotApartUptoCard : Claim7 := { stood := { row := ballotApartUptoRow, standIns := [], harness := (true, "0132f95f18598e4e7ae5be6a539b09d3df411ed0df80d36e9f5baac6120d0779"), looks := true }, kinds := [], alts := [], laidByText := true, laidKinds := [.data], laidTests := true, laidLooks := .later }
def BallotApartUptoCardSaid : Prop := Claim7.holds Tryd.pinned (.plain (OpenSpec.upto ballotApartSpec)) ballotApartUptoCard

/-- THE SECOND FORM's CARD OF 'chirographlaw20.EnvBack'. -/
def envBackUptoCard : Claim7 := { stood := { row := envBackUptoRow, standIns := [], harness := (true, "0132f95f18598e4e7ae5be6a539b09d3df411ed0df80d36e9f5baac6120d0779"), looks := true }, kinds := [], alts := [], laidByText := true, laidKinds := [.data], laidTests := true, laidLooks := .later }
def EnvBackUptoCardSaid : Prop := Claim7.holds Tryd.pinned (.plain (OpenSpec.upto envBackSpec)) envBackUptoCard
end Rows
end Go.Proofs.YthnlmmkhehphiaaDoor
