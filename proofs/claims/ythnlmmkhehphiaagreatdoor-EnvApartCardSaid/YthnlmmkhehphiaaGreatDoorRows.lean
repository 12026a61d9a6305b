/-
  NARROWER THAN 'FOR EVERY INPUT', by the rows' own cells (each row's printed sentence says how): BallotTags: laid · EnvTells: laid · EnvTags: laid · BallotTells: laid · EnvApart: laid.
  DERIVED. THE GIVEN ROWS OF THIS SEAT. 5 by the template 'for every input the law returns true; each argument reads behind the call as it read before'; 0 by the template 'total and deterministic' (their statements: YthnlmmkhehphiaaGreatDoorTotals.lean).
  GIVEN WITH THE SEED: the statements are not yours to turn. If you find one false, say at which input.
  Laid BY PROGRAM, IN A SANDBOX (cutbox-rows.mjs): the forced cells as the released guide's own fill.sh prints them over the translation 0b8465e4f58a9f6b… (all of the seat's roots in one cut). By AI agents, Wed Nov 11 2026. No macro, syntax, notation, axiom, sorry.
-/
import Derived.Test.YthnlmmkhehphiaaGreatDoorChecked
import GoSem.Claim
import GoSem.ClaimJoined
import GoSem.ClaimMapViews
import Derived.JoinedTies
import Derived.KernelRfl
namespace Go.Proofs.YthnlmmkhehphiaaGreatDoor
/- THE CELL 'sum', in the pinned program and in every row, IS THE sha256 OF THE DUMP (.gsa) THAT YthnlmmkhehphiaaGreatDoorProg.lean LOADS. Nothing in Lean hashes anything: it is a label: what it is worth is what the hold of that sum in a sandbox is worth. -/
noncomputable def Tryz.pinned : Pinned := { name := "ythnlmmkhehphiaagreatdoor", sum := "0b8465e4f58a9f6b0ab9ed0f99bbf89b1ed7edff870d3c04c76bbdd17dfe654d", checked := Tryz.checked }
namespace Rows
def none {H : Type} : Left H := { results := [], args := [] }

/- WHAT THE LISTED PACKAGE-LEVEL VARIABLES READ AS WHEN THE CALL BEGINS. Each datum BY PROGRAM (the guide's laid-datum.mjs) off the statement by which the dump's own 'gosem.cut.vars' lays the variable. In a bare row this is a premise. The card (YthnlmmkhehphiaaGreatDoorCards.lean) ties it to the program's text. -/
def laid_chirograph_keys_letters {H : Type} : DataW H := .agg [.lit (.string []), .lit (.string [107]), .lit (.string [115])]

/-- 'chirographlaw13.BallotTags': WHATEVER THE INPUT: true; the input reads as it did. -/
def ballotTagsSpec : ChangeSpec := { name := "ballotTags", fn := fun _ => fun
  | [d1, d2, d3, d4] => { results := [.lit (.bool true)], args := [d1, d2, d3, d4] }
  | _ => none }
def ballotTagsRow : OpenClaim := { program := "ythnlmmkhehphiaagreatdoor", sum := "0b8465e4f58a9f6b0ab9ed0f99bbf89b1ed7edff870d3c04c76bbdd17dfe654d", func := "chirograph/chirographlaw13.BallotTags", spec := "ballotTags", inPlace := ["internal/bytealg.IndexByteString", "internal/bytealg.IndexString", "internal/abi.NoEscape"], unfollowed := true, recurses := true, named := ["chirograph/keys.letters", "internal/bytealg.MaxLen"], apart := false, laid := [("chirograph/keys.letters", laid_chirograph_keys_letters)] }
def BallotTagsSaid : Prop := ballotTagsRow.holds Tryz.pinned (OpenSpec.ofChange ballotTagsSpec)

/-- ITS FALSE NEIGHBOUR: 'it returns false'. Refute it at one input. -/
def ballotTagsWrong : ChangeSpec := { name := "ballotTags", fn := fun _ => fun
  | [d1, d2, d3, d4] => { results := [.lit (.bool false)], args := [d1, d2, d3, d4] }
  | _ => none }
def BallotTagsWrongFalsely : Prop := ballotTagsRow.holds Tryz.pinned (OpenSpec.ofChange ballotTagsWrong)

/-- 'chirographlaw20.EnvTells': WHATEVER THE INPUT: true; the input reads as it did. -/
def envTellsSpec : ChangeSpec := { name := "envTells", fn := fun _ => fun
  | [d1, d2] => { results := [.lit (.bool true)], args := [d1, d2] }
  | _ => none }
def envTellsRow : OpenClaim := { program := "ythnlmmkhehphiaagreatdoor", sum := "0b8465e4f58a9f6b0ab9ed0f99bbf89b1ed7edff870d3c04c76bbdd17dfe654d", func := "chirograph/chirographlaw20.EnvTells", spec := "envTells", inPlace := ["internal/bytealg.IndexByteString", "internal/bytealg.IndexString", "internal/abi.NoEscape"], unfollowed := true, recurses := true, named := ["chirograph/keys.letters", "internal/bytealg.MaxLen"], apart := false, laid := [("chirograph/keys.letters", laid_chirograph_keys_letters)] }
def EnvTellsSaid : Prop := envTellsRow.holds Tryz.pinned (OpenSpec.ofChange envTellsSpec)

/-- ITS FALSE NEIGHBOUR: 'it returns false'. Refute it at one input. -/
def envTellsWrong : ChangeSpec := { name := "envTells", fn := fun _ => fun
  | [d1, d2] => { results := [.lit (.bool false)], args := [d1, d2] }
  | _ => none }
def EnvTellsWrongFalsely : Prop := envTellsRow.holds Tryz.pinned (OpenSpec.ofChange envTellsWrong)

/-- 'chirographlaw20.EnvTags': WHATEVER THE INPUT: true; the input reads as it did. -/
def envTagsSpec : ChangeSpec := { name := "envTags", fn := fun _ => fun
  | [d1, d2, d3] => { results := [.lit (.bool true)], args := [d1, d2, d3] }
  | _ => none }
def envTagsRow : OpenClaim := { program := "ythnlmmkhehphiaagreatdoor", sum := "0b8465e4f58a9f6b0ab9ed0f99bbf89b1ed7edff870d3c04c76bbdd17dfe654d", func := "chirograph/chirographlaw20.EnvTags", spec := "envTags", inPlace := ["internal/bytealg.IndexByteString", "internal/bytealg.IndexString", "internal/abi.NoEscape"], unfollowed := true, recurses := true, named := ["chirograph/keys.letters", "internal/bytealg.MaxLen"], apart := false, laid := [("chirograph/keys.letters", laid_chirograph_keys_letters)] }
def EnvTagsSaid : Prop := envTagsRow.holds Tryz.pinned (OpenSpec.ofChange envTagsSpec)

/-- ITS FALSE NEIGHBOUR: 'it returns false'. Refute it at one input. -/
def envTagsWrong : ChangeSpec := { name := "envTags", fn := fun _ => fun
  | [d1, d2, d3] => { results := [.lit (.bool false)], args := [d1, d2, d3] }
  | _ => none }
def EnvTagsWrongFalsely : Prop := envTagsRow.holds Tryz.pinned (OpenSpec.ofChange envTagsWrong)

/-- 'chirographlaw13.BallotTells': WHATEVER THE INPUT: true; the input reads as it did. -/
def ballotTellsSpec : ChangeSpec := { name := "ballotTells", fn := fun _ => fun
  | [d1, d2] => { results := [.lit (.bool true)], args := [d1, d2] }
  | _ => none }
def ballotTellsRow : OpenClaim := { program := "ythnlmmkhehphiaagreatdoor", sum := "0b8465e4f58a9f6b0ab9ed0f99bbf89b1ed7edff870d3c04c76bbdd17dfe654d", func := "chirograph/chirographlaw13.BallotTells", spec := "ballotTells", inPlace := ["internal/bytealg.IndexByteString", "internal/bytealg.IndexString", "internal/abi.NoEscape"], unfollowed := true, recurses := true, named := ["chirograph/keys.letters", "internal/bytealg.MaxLen"], apart := false, laid := [("chirograph/keys.letters", laid_chirograph_keys_letters)] }
def BallotTellsSaid : Prop := ballotTellsRow.holds Tryz.pinned (OpenSpec.ofChange ballotTellsSpec)

/-- ITS FALSE NEIGHBOUR: 'it returns false'. Refute it at one input. -/
def ballotTellsWrong : ChangeSpec := { name := "ballotTells", fn := fun _ => fun
  | [d1, d2] => { results := [.lit (.bool false)], args := [d1, d2] }
  | _ => none }
def BallotTellsWrongFalsely : Prop := ballotTellsRow.holds Tryz.pinned (OpenSpec.ofChange ballotTellsWrong)

/-- 'chirographlaw20.EnvApart': WHATEVER THE INPUT: true; the input reads as it did. -/
def envApartSpec : ChangeSpec := { name := "envApart", fn := fun _ => fun
  | [d1, d2, d3] => { results := [.lit (.bool true)], args := [d1, d2, d3] }
  | _ => none }
def envApartRow : OpenClaim := { program := "ythnlmmkhehphiaagreatdoor", sum := "0b8465e4f58a9f6b0ab9ed0f99bbf89b1ed7edff870d3c04c76bbdd17dfe654d", func := "chirograph/chirographlaw20.EnvApart", spec := "envApart", inPlace := ["internal/bytealg.IndexByteString", "internal/bytealg.IndexString", "internal/abi.NoEscape"], unfollowed := true, recurses := true, named := ["chirograph/keys.letters", "internal/bytealg.MaxLen"], apart := false, laid := [("chirograph/keys.letters", laid_chirograph_keys_letters)] }
def EnvApartSaid : Prop := envApartRow.holds Tryz.pinned (OpenSpec.ofChange envApartSpec)

/-- ITS FALSE NEIGHBOUR: 'it returns false'. Refute it at one input. -/
def envApartWrong : ChangeSpec := { name := "envApart", fn := fun _ => fun
  | [d1, d2, d3] => { results := [.lit (.bool false)], args := [d1, d2, d3] }
  | _ => none }
def EnvApartWrongFalsely : Prop := envApartRow.holds Tryz.pinned (OpenSpec.ofChange envApartWrong)

/- THE SECOND FORM. 'bulk': how many values and letters a reading holds, each counted each time it is reached (what is shared counts as often as it is met; a slice's spare places count too). A statement '..UptoSaid' is the law's where the arguments, and the package variables that the reading takes, are together of bulk at most 1048576: NARROWER than '..Said'. Prove '..Said' where nothing that the law and all that it calls make is longer than what came in: it says more and counts as full. Else prove '..UptoSaid'. A law counts once. -/
mutual
def uptoBulk {H : Type} : DataW H → Nat
  | .lit (.string bytes) => bytes.length + 1
  | .lit _ => 1
  | .nil => 1
  | .ptr d => uptoBulk d + 1
  | .slice elems spare => uptoBulkAll elems + uptoBulkAll spare + 1
  | .agg parts => uptoBulkAll parts + 1
  | .iface _ d => uptoBulk d + 1
  | .map entries => uptoBulkEntries entries + 1
  | .held _ => 1
def uptoBulkAll {H : Type} : List (DataW H) → Nat
  | [] => 0
  | d :: r => uptoBulk d + uptoBulkAll r
def uptoBulkEntries {H : Type} : List (Lit × DataW H) → Nat
  | [] => 0
  | x :: r => uptoBulkEntry x + uptoBulkEntries r
def uptoBulkEntry {H : Type} : Lit × DataW H → Nat
  | (.string bytes, d) => bytes.length + uptoBulk d + 1
  | (_, d) => uptoBulk d + 1
 end
def uptoSmall : (H : Type) → List (DataW H) → Bool := fun _ ds => decide (uptoBulkAll ds ≤ 1048576)
def OpenSpec.upto (s : _root_.Go.ChangeSpec) : _root_.Go.OpenSpec := { _root_.Go.OpenSpec.ofChange s with cond := some uptoSmall }

/-- 'chirographlaw13.BallotTags', WHERE WHAT IT READS IS OF BULK AT MOST 1048576: true; the input reads as it did. -/
def ballotTagsUptoRow : OpenClaim := { program := "ythnlmmkhehphiaagreatdoor", sum := "0b8465e4f58a9f6b0ab9ed0f99bbf89b1ed7edff870d3c04c76bbdd17dfe654d", func := "chirograph/chirographlaw13.BallotTags", spec := "ballotTags", inPlace := ["internal/bytealg.IndexByteString", "internal/bytealg.IndexString", "internal/abi.NoEscape"], unfollowed := true, recurses := true, named := ["chirograph/keys.letters", "internal/bytealg.MaxLen"], apart := false, laid := [("chirograph/keys.letters", laid_chirograph_keys_letters)], narrowed := true }
def BallotTagsUptoSaid : Prop := ballotTagsUptoRow.holds Tryz.pinned (OpenSpec.upto ballotTagsSpec)

/-- 'chirographlaw20.EnvTells', WHERE WHAT IT READS IS OF BULK AT MOST 1048576: true; the input reads as it did. -/
def envTellsUptoRow : OpenClaim := { program := "ythnlmmkhehphiaagreatdoor", sum := "0b8465e4f58a9f6b0ab9ed0f99bbf89b1ed7edff870d3c04c76bbdd17dfe654d", func := "chirograph/chirographlaw20.EnvTells", spec := "envTells", inPlace := ["internal/bytealg.IndexByteString", "internal/bytealg.IndexString", "internal/abi.NoEscape"], unfollowed := true, recurses := true, named := ["chirograph/keys.letters", "internal/bytealg.MaxLen"], apart := false, laid := [("chirograph/keys.letters", laid_chirograph_keys_letters)], narrowed := true }
def EnvTellsUptoSaid : Prop := envTellsUptoRow.holds Tryz.pinned (OpenSpec.upto envTellsSpec)

/-- 'chirographlaw20.EnvTags', WHERE WHAT IT READS IS OF BULK AT MOST 1048576: true; the input reads as it did. -/
def envTagsUptoRow : OpenClaim := { program := "ythnlmmkhehphiaagreatdoor", sum := "0b8465e4f58a9f6b0ab9ed0f99bbf89b1ed7edff870d3c04c76bbdd17dfe654d", func := "chirograph/chirographlaw20.EnvTags", spec := "envTags", inPlace := ["internal/bytealg.IndexByteString", "internal/bytealg.IndexString", "internal/abi.NoEscape"], unfollowed := true, recurses := true, named := ["chirograph/keys.letters", "internal/bytealg.MaxLen"], apart := false, laid := [("chirograph/keys.letters", laid_chirograph_keys_letters)], narrowed := true }
def EnvTagsUptoSaid : Prop := envTagsUptoRow.holds Tryz.pinned (OpenSpec.upto envTagsSpec)

/-- 'chirographlaw13.BallotTells', WHERE WHAT IT READS IS OF BULK AT MOST 1048576: true; the input reads as it did. -/
def ballotTellsUptoRow : OpenClaim := { program := "ythnlmmkhehphiaagreatdoor", sum := "0b8465e4f58a9f6b0ab9ed0f99bbf89b1ed7edff870d3c04c76bbdd17dfe654d", func := "chirograph/chirographlaw13.BallotTells", spec := "ballotTells", inPlace := ["internal/bytealg.IndexByteString", "internal/bytealg.IndexString", "internal/abi.NoEscape"], unfollowed := true, recurses := true, named := ["chirograph/keys.letters", "internal/bytealg.MaxLen"], apart := false, laid := [("chirograph/keys.letters", laid_chirograph_keys_letters)], narrowed := true }
def BallotTellsUptoSaid : Prop := ballotTellsUptoRow.holds Tryz.pinned (OpenSpec.upto ballotTellsSpec)

/-- 'chirographlaw20.EnvApart', WHERE WHAT IT READS IS OF BULK AT MOST 1048576: true; the input reads as it did. -/
def envApartUptoRow : OpenClaim := { program := "ythnlmmkhehphiaagreatdoor", sum := "0b8465e4f58a9f6b0ab9ed0f99bbf89b1ed7edff870d3c04c76bbdd17dfe654d", func := "chirograph/chirographlaw20.EnvApart", spec := "envApart", inPlace := ["internal/bytealg.IndexByteString", "internal/bytealg.IndexString", "internal/abi.NoEscape"], unfollowed := true, recurses := true, named := ["chirograph/keys.letters", "internal/bytealg.MaxLen"], apart := false, laid := [("chirograph/keys.letters", laid_chirograph_keys_letters)], narrowed := true }
def EnvApartUptoSaid : Prop := envApartUptoRow.holds Tryz.pinned (OpenSpec.upto envApartSpec)

end Rows
end Go.Proofs.YthnlmmkhehphiaaGreatDoor
