/-
  NARROWER THAN 'FOR EVERY INPUT', by the rows' own cells (each row's printed sentence says how): BallotApart: laid · EnvBack: laid.
  DERIVED. THE GIVEN ROWS OF THIS SEAT. 2 by the template 'for every input the law returns true; each argument reads behind the call as it read before'; 0 by the template 'total and deterministic' (their statements: YthnlmmkhehphiaaDoorTotals.lean).
  GIVEN WITH THE SEED: the statements are not yours to turn. If you find one false, say at which input.
  Laid BY PROGRAM, IN A SANDBOX (cutbox-rows.mjs): the forced cells as the released guide's own fill.sh prints them over the translation 04fcfb1bf6254c79… (all of the seat's roots in one cut). By AI agents, Wed Nov 11 2026. No macro, syntax, notation, axiom, sorry.
-/
import Derived.Test.YthnlmmkhehphiaaDoorChecked
import GoSem.Claim
import GoSem.ClaimJoined
import GoSem.ClaimMapViews
import Derived.JoinedTies
import Derived.KernelRfl
namespace Go.Proofs.YthnlmmkhehphiaaDoor
/- THE CELL 'sum', in the pinned program and in every row, IS THE sha256 OF THE DUMP (.gsa) THAT YthnlmmkhehphiaaDoorProg.lean LOADS. Nothing in Lean hashes anything: it is a label: what it is worth is what the hold of that sum in a sandbox is worth. -/
noncomputable def Tryd.pinned : Pinned := { name := "ythnlmmkhehphiaadoor", sum := "04fcfb1bf6254c795a530681f539334499a11662db44bc6ad76d923f2263918d", checked := Tryd.checked }
namespace Rows
def none {H : Type} : Left H := { results := [], args := [] }

/- WHAT THE LISTED PACKAGE-LEVEL VARIABLES READ AS WHEN THE CALL BEGINS. Each datum BY PROGRAM (the guide's laid-datum.mjs) off the statement by which the dump's own 'gosem.cut.vars' lays the variable. In a bare row this is a premise. The card (YthnlmmkhehphiaaDoorCards.lean) ties it to the program's text. -/
def laid_chirograph_keys_letters {H : Type} : DataW H := .agg [.lit (.string []), .lit (.string [107]), .lit (.string [115])]

/-- 'chirographlaw13.BallotApart': WHATEVER THE INPUT: true; the input reads as it did. -/
def ballotApartSpec : ChangeSpec := { name := "ballotApart", fn := fun _ => fun
  | [d1, d2] => { results := [.lit (.bool true)], args := [d1, d2] }
  | _ => none }
def ballotApartRow : OpenClaim := { program := "ythnlmmkhehphiaadoor", sum := "04fcfb1bf6254c795a530681f539334499a11662db44bc6ad76d923f2263918d", func := "chirograph/chirographlaw13.BallotApart", spec := "ballotApart", inPlace := ["internal/bytealg.IndexByteString", "internal/bytealg.IndexString", "internal/abi.NoEscape"], unfollowed := true, recurses := true, named := ["chirograph/keys.letters", "internal/bytealg.MaxLen"], apart := false, laid := [("chirograph/keys.letters", laid_chirograph_keys_letters)] }
def BallotApartSaid : Prop := ballotApartRow.holds Tryd.pinned (OpenSpec.ofChange ballotApartSpec)

/-- ITS FALSE NEIGHBOUR: 'it returns false'. Refute it at one input. -/
def ballotApartWrong : ChangeSpec := { name := "ballotApart", fn := fun _ => fun
  | [d1, d2] => { results := [.lit (.bool false)], args := [d1, d2] }
  | _ => none }
def BallotApartWrongFalsely : Prop := ballotApartRow.holds Tryd.pinned (OpenSpec.ofChange ballotApartWrong)

/-- 'chirographlaw20.EnvBack': WHATEVER THE INPUT: true; the input reads as it did. -/
def envBackSpec : ChangeSpec := { name := "envBack", fn := fun _ => fun
  | [d1, d2, d3] => { results := [.lit (.bool true)], args := [d1, d2, d3] }
  | _ => none }
def envBackRow : OpenClaim := { program := "ythnlmmkhehphiaadoor", sum := "04fcfb1bf6254c795a530681f539334499a11662db44bc6ad76d923f2263918d", func := "chirograph/chirographlaw20.EnvBack", spec := "envBack", inPlace := ["internal/bytealg.IndexByteString", "internal/bytealg.IndexString", "internal/abi.NoEscape"], unfollowed := true, recurses := true, named := ["chirograph/keys.letters", "internal/bytealg.MaxLen"], apart := false, laid := [("chirograph/keys.letters", laid_chirograph_keys_letters)] }
def EnvBackSaid : Prop := envBackRow.holds Tryd.pinned (OpenSpec.ofChange envBackSpec)

/-- ITS FALSE NEIGHBOUR: 'it returns false'. Refute it at one input. -/
def envBackWrong : ChangeSpec := { name := "envBack", fn := fun _ => fun
  | [d1, d2, d3] => { results := [.lit (.bool false)], args := [d1, d2, d3] }
  | _ => none }
def EnvBackWrongFalsely : Prop := envBackRow.holds Tryd.pinned (OpenSpec.ofChange envBackWrong)

/- THE SECOND FORM. 'bulk': how many values and letters a reading holds, each counted each time it is reached (what is shared counts as often as it is met; a slice's spare places count too). A statement '..UptoSaid' is the law's where the arguments, and the package variables that the reading takes, are together of bulk at most 1048576: NARROWER than '..Said'. Prove '..Said' where nothing that the law and all that it calls make is longer than what came in: it says more and counts as full. Else prove '..UptoSaid'. A law counts once. -/
mutual
def uptoBulk {H : Type} : DataW H → Nat
  | .lit (.string bytes) => bytes.length + 1
  | .lit _ => 1
  | .nil => 1
  | .ptr d => uptoBulk d + 1
  | .slice elems spare => uptoBulkAll elems + uptoBulkAll spare + 1
  | .agg parts => uptoBulkAll parts + 1
  | .iface _ d => uptoBulk d + 1
  | .map entries => uptoBulkEntries entries + 1
  | .held _ => 1
def uptoBulkAll {H : Type} : List (DataW H) → Nat
  | [] => 0
  | d :: r => uptoBulk d + uptoBulkAll r
def uptoBulkEntries {H : Type} : List (Lit × DataW H) → Nat
  | [] => 0
  | x :: r => uptoBulkEntry x + uptoBulkEntries r
def uptoBulkEntry {H : Type} : Lit × DataW H → Nat
  | (.string bytes, d) => bytes.length + uptoBulk d + 1
  | (_, d) => uptoBulk d + 1
 end
def uptoSmall : (H : Type) → List (DataW H) → Bool := fun _ ds => decide (uptoBulkAll ds ≤ 1048576)
def OpenSpec.upto (s : _root_.Go.ChangeSpec) : _root_.Go.OpenSpec := { _root_.Go.OpenSpec.ofChange s with cond := some uptoSmall }

/-- 'chirographlaw13.BallotApart', WHERE WHAT IT READS IS OF BULK AT MOST 1048576: true; the input reads as it did. -/
def ballotApartUptoRow : OpenClaim := { program := "ythnlmmkhehphiaadoor", sum := "04fcfb1bf6254c795a530681f539334499a11662db44bc6ad76d923f2263918d", func := "chirograph/chirographlaw13.BallotApart", spec := "ballotApart", inPlace := ["internal/bytealg.IndexByteString", "internal/bytealg.IndexString", "internal/abi.NoEscape"], unfollowed := true, recurses := true, named := ["chirograph/keys.letters", "internal/bytealg.MaxLen"], apart := false, laid := [("chirograph/keys.letters", laid_chirograph_keys_letters)], narrowed := true }
def BallotApartUptoSaid : Prop := ballotApartUptoRow.holds Tryd.pinned (OpenSpec.upto ballotApartSpec)

/-- 'chirographlaw20.EnvBack', WHERE WHAT IT READS IS OF BULK AT MOST 1048576: true; the input reads as it did. -/
def envBackUptoRow : OpenClaim := { program := "ythnlmmkhehphiaadoor", sum := "04fcfb1bf6254c795a530681f539334499a11662db44bc6ad76d923f2263918d", func := "chirograph/chirographlaw20.EnvBack", spec := "envBack", inPlace := ["internal/bytealg.IndexByteString", "internal/bytealg.IndexString", "internal/abi.NoEscape"], unfollowed := true, recurses := true, named := ["chirograph/keys.letters", "internal/bytealg.MaxLen"], apart := false, laid := [("chirograph/keys.letters", laid_chirograph_keys_letters)], narrowed := true }
def EnvBackUptoSaid : Prop := envBackUptoRow.holds Tryd.pinned (OpenSpec.upto envBackSpec)

end Rows
end Go.Proofs.YthnlmmkhehphiaaDoor
