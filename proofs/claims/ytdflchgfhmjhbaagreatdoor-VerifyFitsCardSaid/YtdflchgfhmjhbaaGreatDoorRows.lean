/-
  NARROWER THAN 'FOR EVERY INPUT', by the rows' own cells (each row's printed sentence says how): VerifyFits: laid · LinkOnce: laid · LinkMeets: laid.
  DERIVED. THE GIVEN ROWS OF THIS SEAT. 3 by the template 'for every input the law returns true; each argument reads behind the call as it read before'; 0 by the template 'total and deterministic' (their statements: YtdflchgfhmjhbaaGreatDoorTotals.lean).
  GIVEN WITH THE SEED: the statements are not yours to turn. If you find one false, say at which input.
  Laid BY PROGRAM, IN A SANDBOX (cutbox-rows.mjs): the forced cells as the released guide's own fill.sh prints them over the translation 1a2cf0f50748ce62… (all of the seat's roots in one cut). By AI agents, Wed Nov 11 2026. No macro, syntax, notation, axiom, sorry.
-/
import Derived.Test.YtdflchgfhmjhbaaGreatDoorChecked
import GoSem.Claim
import GoSem.ClaimJoined
import GoSem.ClaimMapViews
import Derived.JoinedTies
import Derived.KernelRfl
namespace Go.Proofs.YtdflchgfhmjhbaaGreatDoor
/- THE CELL 'sum', in the pinned program and in every row, IS THE sha256 OF THE DUMP (.gsa) THAT YtdflchgfhmjhbaaGreatDoorProg.lean LOADS. Nothing in Lean hashes anything: it is a label: what it is worth is what the hold of that sum in a sandbox is worth. -/
noncomputable def Tryz.pinned : Pinned := { name := "ytdflchgfhmjhbaagreatdoor", sum := "1a2cf0f50748ce62c47bd948417ab808f094c6ad169e349e1f39e1691cf143ab", checked := Tryz.checked }
namespace Rows
def none {H : Type} : Left H := { results := [], args := [] }

/- WHAT THE LISTED PACKAGE-LEVEL VARIABLES READ AS WHEN THE CALL BEGINS. Each datum BY PROGRAM (the guide's laid-datum.mjs) off the statement by which the dump's own 'gosem.cut.vars' lays the variable. In a bare row this is a premise. The card (YtdflchgfhmjhbaaGreatDoorCards.lean) ties it to the program's text. -/
def laid_chirograph_keys_letters {H : Type} : DataW H := .agg [.lit (.string []), .lit (.string [107]), .lit (.string [115])]

/-- 'chirographlaw27.VerifyFits': WHATEVER THE INPUT: true; the input reads as it did. -/
def verifyFitsSpec : ChangeSpec := { name := "verifyFits", fn := fun _ => fun
  | [d1, d2, d3, d4, d5] => { results := [.lit (.bool true)], args := [d1, d2, d3, d4, d5] }
  | _ => none }
def verifyFitsRow : OpenClaim := { program := "ytdflchgfhmjhbaagreatdoor", sum := "1a2cf0f50748ce62c47bd948417ab808f094c6ad169e349e1f39e1691cf143ab", func := "chirograph/chirographlaw27.VerifyFits", spec := "verifyFits", inPlace := ["internal/bytealg.IndexByteString", "internal/bytealg.IndexString", "internal/abi.NoEscape"], unfollowed := true, recurses := true, named := ["chirograph/keys.letters", "internal/bytealg.MaxLen"], apart := false, laid := [("chirograph/keys.letters", laid_chirograph_keys_letters)] }
def VerifyFitsSaid : Prop := verifyFitsRow.holds Tryz.pinned (OpenSpec.ofChange verifyFitsSpec)

/-- ITS FALSE NEIGHBOUR: 'it returns false'. Refute it at one input. -/
def verifyFitsWrong : ChangeSpec := { name := "verifyFits", fn := fun _ => fun
  | [d1, d2, d3, d4, d5] => { results := [.lit (.bool false)], args := [d1, d2, d3, d4, d5] }
  | _ => none }
def VerifyFitsWrongFalsely : Prop := verifyFitsRow.holds Tryz.pinned (OpenSpec.ofChange verifyFitsWrong)

/-- 'chirographlaw21.LinkOnce': WHATEVER THE INPUT: true; the input reads as it did. -/
def linkOnceSpec : ChangeSpec := { name := "linkOnce", fn := fun _ => fun
  | [d1, d2, d3, d4, d5] => { results := [.lit (.bool true)], args := [d1, d2, d3, d4, d5] }
  | _ => none }
def linkOnceRow : OpenClaim := { program := "ytdflchgfhmjhbaagreatdoor", sum := "1a2cf0f50748ce62c47bd948417ab808f094c6ad169e349e1f39e1691cf143ab", func := "chirograph/chirographlaw21.LinkOnce", spec := "linkOnce", inPlace := ["internal/bytealg.IndexByteString", "internal/bytealg.IndexString", "internal/abi.NoEscape"], unfollowed := true, recurses := true, named := ["chirograph/keys.letters", "internal/bytealg.MaxLen"], apart := false, laid := [("chirograph/keys.letters", laid_chirograph_keys_letters)] }
def LinkOnceSaid : Prop := linkOnceRow.holds Tryz.pinned (OpenSpec.ofChange linkOnceSpec)

/-- ITS FALSE NEIGHBOUR: 'it returns false'. Refute it at one input. -/
def linkOnceWrong : ChangeSpec := { name := "linkOnce", fn := fun _ => fun
  | [d1, d2, d3, d4, d5] => { results := [.lit (.bool false)], args := [d1, d2, d3, d4, d5] }
  | _ => none }
def LinkOnceWrongFalsely : Prop := linkOnceRow.holds Tryz.pinned (OpenSpec.ofChange linkOnceWrong)

/-- 'chirographlaw21.LinkMeets': WHATEVER THE INPUT: true; the input reads as it did. -/
def linkMeetsSpec : ChangeSpec := { name := "linkMeets", fn := fun _ => fun
  | [d1, d2, d3, d4, d5, d6, d7] => { results := [.lit (.bool true)], args := [d1, d2, d3, d4, d5, d6, d7] }
  | _ => none }
def linkMeetsRow : OpenClaim := { program := "ytdflchgfhmjhbaagreatdoor", sum := "1a2cf0f50748ce62c47bd948417ab808f094c6ad169e349e1f39e1691cf143ab", func := "chirograph/chirographlaw21.LinkMeets", spec := "linkMeets", inPlace := ["internal/bytealg.IndexByteString", "internal/bytealg.IndexString", "internal/abi.NoEscape"], unfollowed := true, recurses := true, named := ["chirograph/keys.letters", "internal/bytealg.MaxLen"], apart := false, laid := [("chirograph/keys.letters", laid_chirograph_keys_letters)] }
def LinkMeetsSaid : Prop := linkMeetsRow.holds Tryz.pinned (OpenSpec.ofChange linkMeetsSpec)

/-- ITS FALSE NEIGHBOUR: 'it returns false'. Refute it at one input. -/
def linkMeetsWrong : ChangeSpec := { name := "linkMeets", fn := fun _ => fun
  | [d1, d2, d3, d4, d5, d6, d7] => { results := [.lit (.bool false)], args := [d1, d2, d3, d4, d5, d6, d7] }
  | _ => none }
def LinkMeetsWrongFalsely : Prop := linkMeetsRow.holds Tryz.pinned (OpenSpec.ofChange linkMeetsWrong)

/- THE SECOND FORM. 'bulk': how many values and letters a reading holds, each counted each time it is reached (what is shared counts as often as it is met; a slice's spare places count too). A statement '..UptoSaid' is the law's where the arguments, and the package variables that the reading takes, are together of bulk at most 1048576: NARROWER than '..Said'. Prove '..Said' where nothing that the law and all that it calls make is longer than what came in: it says more and counts as full. Else prove '..UptoSaid'. A law counts once. -/
mutual
def uptoBulk {H : Type} : DataW H → Nat
  | .lit (.string bytes) => bytes.length + 1
  | .lit _ => 1
  | .nil => 1
  | .ptr d => uptoBulk d + 1
  | .slice elems spare => uptoBulkAll elems + uptoBulkAll spare + 1
  | .agg parts => uptoBulkAll parts + 1
  | .iface _ d => uptoBulk d + 1
  | .map entries => uptoBulkEntries entries + 1
  | .held _ => 1
def uptoBulkAll {H : Type} : List (DataW H) → Nat
  | [] => 0
  | d :: r => uptoBulk d + uptoBulkAll r
def uptoBulkEntries {H : Type} : List (Lit × DataW H) → Nat
  | [] => 0
  | x :: r => uptoBulkEntry x + uptoBulkEntries r
def uptoBulkEntry {H : Type} : Lit × DataW H → Nat
  | (.string bytes, d) => bytes.length + uptoBulk d + 1
  | (_, d) => uptoBulk d + 1
 end
def uptoSmall : (H : Type) → List (DataW H) → Bool := fun _ ds => decide (uptoBulkAll ds ≤ 1048576)
def OpenSpec.upto (s : _root_.Go.ChangeSpec) : _root_.Go.OpenSpec := { _root_.Go.OpenSpec.ofChange s with cond := some uptoSmall }

/-- 'chirographlaw27.VerifyFits', WHERE WHAT IT READS IS OF BULK AT MOST 1048576: true; the input reads as it did. -/
def verifyFitsUptoRow : OpenClaim := { program := "ytdflchgfhmjhbaagreatdoor", sum := "1a2cf0f50748ce62c47bd948417ab808f094c6ad169e349e1f39e1691cf143ab", func := "chirograph/chirographlaw27.VerifyFits", spec := "verifyFits", inPlace := ["internal/bytealg.IndexByteString", "internal/bytealg.IndexString", "internal/abi.NoEscape"], unfollowed := true, recurses := true, named := ["chirograph/keys.letters", "internal/bytealg.MaxLen"], apart := false, laid := [("chirograph/keys.letters", laid_chirograph_keys_letters)], narrowed := true }
def VerifyFitsUptoSaid : Prop := verifyFitsUptoRow.holds Tryz.pinned (OpenSpec.upto verifyFitsSpec)

/-- 'chirographlaw21.LinkOnce', WHERE WHAT IT READS IS OF BULK AT MOST 1048576: true; the input reads as it did. -/
def linkOnceUptoRow : OpenClaim := { program := "ytdflchgfhmjhbaagreatdoor", sum := "1a2cf0f50748ce62c47bd948417ab808f094c6ad169e349e1f39e1691cf143ab", func := "chirograph/chirographlaw21.LinkOnce", spec := "linkOnce", inPlace := ["internal/bytealg.IndexByteString", "internal/bytealg.IndexString", "internal/abi.NoEscape"], unfollowed := true, recurses := true, named := ["chirograph/keys.letters", "internal/bytealg.MaxLen"], apart := false, laid := [("chirograph/keys.letters", laid_chirograph_keys_letters)], narrowed := true }
def LinkOnceUptoSaid : Prop := linkOnceUptoRow.holds Tryz.pinned (OpenSpec.upto linkOnceSpec)

/-- 'chirographlaw21.LinkMeets', WHERE WHAT IT READS IS OF BULK AT MOST 1048576: true; the input reads as it did. -/
def linkMeetsUptoRow : OpenClaim := { program := "ytdflchgfhmjhbaagreatdoor", sum := "1a2cf0f50748ce62c47bd948417ab808f094c6ad169e349e1f39e1691cf143ab", func := "chirograph/chirographlaw21.LinkMeets", spec := "linkMeets", inPlace := ["internal/bytealg.IndexByteString", "internal/bytealg.IndexString", "internal/abi.NoEscape"], unfollowed := true, recurses := true, named := ["chirograph/keys.letters", "internal/bytealg.MaxLen"], apart := false, laid := [("chirograph/keys.letters", laid_chirograph_keys_letters)], narrowed := true }
def LinkMeetsUptoSaid : Prop := linkMeetsUptoRow.holds Tryz.pinned (OpenSpec.upto linkMeetsSpec)

end Rows
end Go.Proofs.YtdflchgfhmjhbaaGreatDoor
