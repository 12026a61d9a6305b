/-
  DERIVED. GIVEN WITH THE SEED: THE CARDS: each row of YtbdiihilbcinpaaDoorRows.lean that lists a variable, with what it lists TIED to the program's text (the seventh form; the later family's looks); each row that meets fmt, with fmt's text TOLD by the authors' own Lean function (tested against real Go, not proved from fmt's source: count such statements apart). THE CARD IS WHAT COUNTS. Prove the row's statement (the work); the ties are given (YtbdiihilbcinpaaDoorTie.lean); close each card by the builder's one call (the guide's Derived/Test/ToyasCard.lean, 'card_holds'). Laid BY PROGRAM, IN A SANDBOX (cutbox-door.mjs). By AI agents, Wed Nov 11 2026. No macro, syntax, notation, axiom, sorry.
-/
import Derived.Test.YtbdiihilbcinpaaDoorRows
import GoSem.ClaimSeven
namespace Go.Proofs.YtbdiihilbcinpaaDoor
namespace Rows

/-- THE TIED CARD OF 'chirographlaw09.KeysTerms'. -/
def keysTermsCard : Claim7 := { stood := { row := keysTermsRow, standIns := [], harness := (true, "f6039323051b5c5798d3bb448e8baf6f48a05a80c24f82a6205a651af67a332f"), looks := false }, kinds := [], alts := [], laidByText := true, laidKinds := [.data], laidTests := true, laidLooks := .later }
def KeysTermsCardSaid : Prop := Claim7.holds Tryd.pinned (.plain (OpenSpec.ofChange keysTermsSpec)) keysTermsCard

/-- THE TIED CARD OF 'chirographlaw09.KeysNames'. -/
def keysNamesCard : Claim7 := { stood := { row := keysNamesRow, standIns := [], harness := (true, "f6039323051b5c5798d3bb448e8baf6f48a05a80c24f82a6205a651af67a332f"), looks := false }, kinds := [], alts := [], laidByText := true, laidKinds := [.data], laidTests := true, laidLooks := .later }
def KeysNamesCardSaid : Prop := Claim7.holds Tryd.pinned (.plain (OpenSpec.ofChange keysNamesSpec)) keysNamesCard

/-- THE TIED CARD OF 'chirographlaw09.KeysApart'. -/
def keysApartCard : Claim7 := { stood := { row := keysApartRow, standIns := [], harness := (true, "f6039323051b5c5798d3bb448e8baf6f48a05a80c24f82a6205a651af67a332f"), looks := false }, kinds := [], alts := [], laidByText := true, laidKinds := [.data], laidTests := true, laidLooks := .later }
def KeysApartCardSaid : Prop := Claim7.holds Tryd.pinned (.plain (OpenSpec.ofChange keysApartSpec)) keysApartCard

/-- THE SECOND FORM's CARD OF 'chirographlaw09.KeysTerms'. -/
def keysTermsUptoCard : Claim7 := { stood := { row := keysTermsUptoRow, standIns := [], harness := (true, "f6039323051b5c5798d3bb448e8baf6f48a05a80c24f82a6205a651af67a332f"), looks := false }, kinds := [], alts := [], laidByText := true, laidKinds := [.data], laidTests := true, laidLooks := .later }
def KeysTermsUptoCardSaid : Prop := Claim7.holds Tryd.pinned (.plain (OpenSpec.upto keysTermsSpec)) keysTermsUptoCard

/-- THE SECOND FORM's CARD OF 'chirographlaw09.KeysNames'. -/
def keysNamesUptoCard : Claim7 := { stood := { row := keysNamesUptoRow, standIns := [], harness := (true, "f6039323051b5c5798d3bb448e8baf6f48a05a80c24f82a6205a651af67a332f"), looks := false }, kinds := [], alts := [], laidByText := true, laidKinds := [.data], laidTests := true, laidLooks := .later }
def KeysNamesUptoCardSaid : Prop := Claim7.holds Tryd.pinned (.plain (OpenSpec.upto keysNamesSpec)) keysNamesUptoCard

/-- THE SECOND FORM's CARD OF 'chirographlaw09.KeysApart'. -/
def keysApartUptoCard : Claim7 := { stood := { row := keysApartUptoRow, standIns := [], harness := (true, "f6039323051b5c5798d3bb448e8baf6f48a05a80c24f82a6205a651af67a332f"), looks := false }, kinds := [], alts := [], laidByText := true, laidKinds := [.data], laidTests := true, laidLooks := .later }
def KeysApartUptoCardSaid : Prop := Claim7.holds Tryd.pinned (.plain (OpenSpec.upto keysApartSpec)) keysApartUptoCard
end Rows
end Go.Proofs.YtbdiihilbcinpaaDoor
