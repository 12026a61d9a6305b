/-
  DERIVED. GIVEN WITH THE SEED: THE CARDS: each row of YthnlmmkhehphiaaGreatDoorRows.lean that lists a variable, with what it lists TIED to the program's text (the seventh form; the later family's looks); each row that meets fmt, with fmt's text TOLD by the authors' own Lean function (tested against real Go, not proved from fmt's source: count such statements apart). THE CARD IS WHAT COUNTS. Prove the row's statement (the work); the ties are given (YthnlmmkhehphiaaGreatDoorTie.lean); close each card by the builder's one call (the guide's Derived/Test/ToyasCard.lean, 'card_holds'). Laid BY PROGRAM, IN A SANDBOX (cutbox-door.mjs). By AI agents, Wed Nov 11 2026. No macro, syntax, notation, axiom, sorry.
-/
import Derived.Test.YthnlmmkhehphiaaGreatDoorRows
import GoSem.ClaimSeven
namespace Go.Proofs.YthnlmmkhehphiaaGreatDoor
namespace Rows

/-- THE TIED CARD OF 'chirographlaw13.BallotTags'. -/
def ballotTagsCard : Claim7 := { stood := { row := ballotTagsRow, standIns := [], harness := (true, "489166080210084e6b943b9a8b08ebf7b553d197fae67a3cc6ecad7d94a81945"), looks := true }, kinds := [], alts := [], laidByText := true, laidKinds := [.data], laidTests := true, laidLooks := .later }
def BallotTagsCardSaid : Prop := Claim7.holds Tryz.pinned (.plain (OpenSpec.ofChange ballotTagsSpec)) ballotTagsCard

/-- THE TIED CARD OF 'chirographlaw20.EnvTells'. -/
def envTellsCard : Claim7 := { stood := { row := envTellsRow, standIns := [], harness := (true, "489166080210084e6b943b9a8b08ebf7b553d197fae67a3cc6ecad7d94a81945"), looks := true }, kinds := [], alts := [], laidByText := true, laidKinds := [.data], laidTests := true, laidLooks := .later }
def EnvTellsCardSaid : Prop := Claim7.holds Tryz.pinned (.plain (OpenSpec.ofChange envTellsSpec)) envTellsCard

/-- THE TIED CARD OF 'chirographlaw20.EnvTags'. -/
def envTagsCard : Claim7 := { stood := { row := envTagsRow, standIns := [], harness := (true, "489166080210084e6b943b9a8b08ebf7b553d197fae67a3cc6ecad7d94a81945"), looks := true }, kinds := [], alts := [], laidByText := true, laidKinds := [.data], laidTests := true, laidLooks := .later }
def EnvTagsCardSaid : Prop := Claim7.holds Tryz.pinned (.plain (OpenSpec.ofChange envTagsSpec)) envTagsCard

/-- THE TIED CARD OF 'chirographlaw13.BallotTells'. -/
def ballotTellsCard : Claim7 := { stood := { row := ballotTellsRow, standIns := [], harness := (true, "489166080210084e6b943b9a8b08ebf7b553d197fae67a3cc6ecad7d94a81945"), looks := true }, kinds := [], alts := [], laidByText := true, laidKinds := [.data], laidTests := true, laidLooks := .later }
def BallotTellsCardSaid : Prop := Claim7.holds Tryz.pinned (.plain (OpenSpec.ofChange ballotTellsSpec)) ballotTellsCard

/-- THE TIED CARD OF 'chirographlaw20.EnvApart'. -/
def envApartCard : Claim7 := { stood := { row := envApartRow, standIns := [], harness := (true, "489166080210084e6b943b9a8b08ebf7b553d197fae67a3cc6ecad7d94a81945"), looks := true }, kinds := [], alts := [], laidByText := true, laidKinds := [.data], laidTests := true, laidLooks := .later }
def EnvApartCardSaid : Prop := Claim7.holds Tryz.pinned (.plain (OpenSpec.ofChange envApartSpec)) envApartCard

/-- THE SECOND FORM's CARD OF 'chirographlaw13.BallotTags'. -/
def ballotTagsUptoCard : Claim7 := { stood := { row := ballotTagsUptoRow, standIns := [], harness := (true, "489166080210084e6b943b9a8b08ebf7b553d197fae67a3cc6ecad7d94a81945"), looks := true }, kinds := [], alts := [], laidByText := true, laidKinds := [.data], laidTests := true, laidLooks := .later }
def BallotTagsUptoCardSaid : Prop := Claim7.holds Tryz.pinned (.plain (OpenSpec.upto ballotTagsSpec)) ballotTagsUptoCard

/-- THE SECOND FORM's CARD OF 'chirographlaw20.EnvTells'. -/
def envTellsUptoCard : Claim7 := { stood := { row := envTellsUptoRow, standIns := [], harness := (true, "489166080210084e6b943b9a8b08ebf7b553d197fae67a3cc6ecad7d94a81945"), looks := true }, kinds := [], alts := [], laidByText := true, laidKinds := [.data], laidTests := true, laidLooks := .later }
def EnvTellsUptoCardSaid : Prop := Claim7.holds Tryz.pinned (.plain (OpenSpec.upto envTellsSpec)) envTellsUptoCard

/-- THE SECOND FORM's CARD OF 'chirographlaw20.EnvTags'. -/
def envTagsUptoCard : Claim7 := { stood := { row := envTagsUptoRow, standIns := [], harness := (true, "489166080210084e6b943b9a8b08ebf7b553d197fae67a3cc6ecad7d94a81945"), looks := true }, kinds := [], alts := [], laidByText := true, laidKinds := [.data], laidTests := true, laidLooks := .later }
def EnvTagsUptoCardSaid : Prop := Claim7.holds Tryz.pinned (.plain (OpenSpec.upto envTagsSpec)) envTagsUptoCard

/-- THE SECOND FORM's CARD OF 'chirographlaw13.BallotTells'. -/
def ballotTellsUptoCard : Claim7 := { stood := { row := ballotTellsUptoRow, standIns := [], harness := (true, "489166080210084e6b943b9a8b08ebf7b553d197fae67a3cc6ecad7d94a81945"), looks := true }, kinds := [], alts := [], laidByText := true, laidKinds := [.data], laidTests := true, laidLooks := .later }
def BallotTellsUptoCardSaid : Prop := Claim7.holds Tryz.pinned (.plain (OpenSpec.upto ballotTellsSpec)) ballotTellsUptoCard

/-- THE SECOND FORM's CARD OF 'chirographlaw20.EnvApart'. -/
def envApartUptoCard : Claim7 := { stood := { row := envApartUptoRow, standIns := [], harness := (true, "489166080210084e6b943b9a8b08ebf7b553d197fae67a3cc6ecad7d94a81945"), looks := true }, kinds := [], alts := [], laidByText := true, laidKinds := [.data], laidTests := true, laidLooks := .later }
def EnvApartUptoCardSaid : Prop := Claim7.holds Tryz.pinned (.plain (OpenSpec.upto envApartSpec)) envApartUptoCard
end Rows
end Go.Proofs.YthnlmmkhehphiaaGreatDoor
