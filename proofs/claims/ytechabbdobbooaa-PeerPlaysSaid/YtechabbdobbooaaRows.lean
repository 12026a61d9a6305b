/-
  No cell of these rows narrows 'for every input' (looked for: loops, veiled, ifaces, maps, wideKeys, modest, calm, conditions, laid).
  DERIVED. THE GIVEN ROWS OF THIS SEAT. 4 by the template 'for every input the law returns true; each argument reads behind the call as it read before'; 0 by the template 'total and deterministic' (their statements: YtechabbdobbooaaTotals.lean).
  GIVEN WITH THE SEED: the statements are not yours to turn. If you find one false, say at which input.
  Laid BY PROGRAM, IN A SANDBOX (cutbox-rows.mjs): the forced cells as the released guide's own fill.sh prints them over the translation 18425c05eead7de5… (all of the seat's roots in one cut). By AI agents, Wed Nov 11 2026. No macro, syntax, notation, axiom, sorry.
-/
import Derived.Test.YtechabbdobbooaaChecked
import GoSem.Claim
import GoSem.ClaimJoined
import GoSem.ClaimMapViews
import Derived.JoinedTies
import Derived.KernelRfl
namespace Go.Proofs.Ytechabbdobbooaa
/- THE CELL 'sum', in the pinned program and in every row, IS THE sha256 OF THE DUMP (.gsa) THAT YtechabbdobbooaaProg.lean LOADS. Nothing in Lean hashes anything: it is a label: what it is worth is what the hold of that sum in a sandbox is worth. -/
noncomputable def Try.pinned : Pinned := { name := "ytechabbdobbooaa", sum := "18425c05eead7de5c3c10c9b7a8cc516c51ae07d9362bd335ef35e559db62481", checked := Try.checked }
namespace Rows
def none {H : Type} : Left H := { results := [], args := [] }

/-- 'chirographlaw18.WindowOnce': WHATEVER THE INPUT: true; the input reads as it did. -/
def windowOnceSpec : ChangeSpec := { name := "windowOnce", fn := fun _ => fun
  | [d] => { results := [.lit (.bool true)], args := [d] }
  | _ => none }
def windowOnceRow : OpenClaim := { program := "ytechabbdobbooaa", sum := "18425c05eead7de5c3c10c9b7a8cc516c51ae07d9362bd335ef35e559db62481", func := "chirograph/chirographlaw18.WindowOnce", spec := "windowOnce", unfollowed := true, recurses := true, apart := false }
def WindowOnceSaid : Prop := windowOnceRow.holds Try.pinned (OpenSpec.ofChange windowOnceSpec)

/-- ITS FALSE NEIGHBOUR: 'it returns false'. Refute it at one input. -/
def windowOnceWrong : ChangeSpec := { name := "windowOnce", fn := fun _ => fun
  | [d] => { results := [.lit (.bool false)], args := [d] }
  | _ => none }
def WindowOnceWrongFalsely : Prop := windowOnceRow.holds Try.pinned (OpenSpec.ofChange windowOnceWrong)

/-- 'chirographlaw19.PeerOnce': WHATEVER THE INPUT: true; the input reads as it did. -/
def peerOnceSpec : ChangeSpec := { name := "peerOnce", fn := fun _ => fun
  | [d1, d2] => { results := [.lit (.bool true)], args := [d1, d2] }
  | _ => none }
def peerOnceRow : OpenClaim := { program := "ytechabbdobbooaa", sum := "18425c05eead7de5c3c10c9b7a8cc516c51ae07d9362bd335ef35e559db62481", func := "chirograph/chirographlaw19.PeerOnce", spec := "peerOnce", unfollowed := true, recurses := true, apart := false }
def PeerOnceSaid : Prop := peerOnceRow.holds Try.pinned (OpenSpec.ofChange peerOnceSpec)

/-- ITS FALSE NEIGHBOUR: 'it returns false'. Refute it at one input. -/
def peerOnceWrong : ChangeSpec := { name := "peerOnce", fn := fun _ => fun
  | [d1, d2] => { results := [.lit (.bool false)], args := [d1, d2] }
  | _ => none }
def PeerOnceWrongFalsely : Prop := peerOnceRow.holds Try.pinned (OpenSpec.ofChange peerOnceWrong)

/-- 'chirographlaw19.PeerTalks': WHATEVER THE INPUT: true; the input reads as it did. -/
def peerTalksSpec : ChangeSpec := { name := "peerTalks", fn := fun _ => fun
  | [d1, d2, d3] => { results := [.lit (.bool true)], args := [d1, d2, d3] }
  | _ => none }
def peerTalksRow : OpenClaim := { program := "ytechabbdobbooaa", sum := "18425c05eead7de5c3c10c9b7a8cc516c51ae07d9362bd335ef35e559db62481", func := "chirograph/chirographlaw19.PeerTalks", spec := "peerTalks", unfollowed := true, recurses := true, apart := false }
def PeerTalksSaid : Prop := peerTalksRow.holds Try.pinned (OpenSpec.ofChange peerTalksSpec)

/-- ITS FALSE NEIGHBOUR: 'it returns false'. Refute it at one input. -/
def peerTalksWrong : ChangeSpec := { name := "peerTalks", fn := fun _ => fun
  | [d1, d2, d3] => { results := [.lit (.bool false)], args := [d1, d2, d3] }
  | _ => none }
def PeerTalksWrongFalsely : Prop := peerTalksRow.holds Try.pinned (OpenSpec.ofChange peerTalksWrong)

/-- 'chirographlaw19.PeerPlays': WHATEVER THE INPUT: true; the input reads as it did. -/
def peerPlaysSpec : ChangeSpec := { name := "peerPlays", fn := fun _ => fun
  | [d1, d2] => { results := [.lit (.bool true)], args := [d1, d2] }
  | _ => none }
def peerPlaysRow : OpenClaim := { program := "ytechabbdobbooaa", sum := "18425c05eead7de5c3c10c9b7a8cc516c51ae07d9362bd335ef35e559db62481", func := "chirograph/chirographlaw19.PeerPlays", spec := "peerPlays", unfollowed := true, recurses := true, apart := false }
def PeerPlaysSaid : Prop := peerPlaysRow.holds Try.pinned (OpenSpec.ofChange peerPlaysSpec)

/-- ITS FALSE NEIGHBOUR: 'it returns false'. Refute it at one input. -/
def peerPlaysWrong : ChangeSpec := { name := "peerPlays", fn := fun _ => fun
  | [d1, d2] => { results := [.lit (.bool false)], args := [d1, d2] }
  | _ => none }
def PeerPlaysWrongFalsely : Prop := peerPlaysRow.holds Try.pinned (OpenSpec.ofChange peerPlaysWrong)

/- THE SECOND FORM. 'bulk': how many values and letters a reading holds, each counted each time it is reached (what is shared counts as often as it is met; a slice's spare places count too). A statement '..UptoSaid' is the law's where the arguments, and the package variables that the reading takes, are together of bulk at most 1048576: NARROWER than '..Said'. Prove '..Said' where nothing that the law and all that it calls make is longer than what came in: it says more and counts as full. Else prove '..UptoSaid'. A law counts once. -/
mutual
def uptoBulk {H : Type} : DataW H → Nat
  | .lit (.string bytes) => bytes.length + 1
  | .lit _ => 1
  | .nil => 1
  | .ptr d => uptoBulk d + 1
  | .slice elems spare => uptoBulkAll elems + uptoBulkAll spare + 1
  | .agg parts => uptoBulkAll parts + 1
  | .iface _ d => uptoBulk d + 1
  | .map entries => uptoBulkEntries entries + 1
  | .held _ => 1
def uptoBulkAll {H : Type} : List (DataW H) → Nat
  | [] => 0
  | d :: r => uptoBulk d + uptoBulkAll r
def uptoBulkEntries {H : Type} : List (Lit × DataW H) → Nat
  | [] => 0
  | x :: r => uptoBulkEntry x + uptoBulkEntries r
def uptoBulkEntry {H : Type} : Lit × DataW H → Nat
  | (.string bytes, d) => bytes.length + uptoBulk d + 1
  | (_, d) => uptoBulk d + 1
 end
def uptoSmall : (H : Type) → List (DataW H) → Bool := fun _ ds => decide (uptoBulkAll ds ≤ 1048576)
def OpenSpec.upto (s : _root_.Go.ChangeSpec) : _root_.Go.OpenSpec := { _root_.Go.OpenSpec.ofChange s with cond := some uptoSmall }

/-- 'chirographlaw18.WindowOnce', WHERE WHAT IT READS IS OF BULK AT MOST 1048576: true; the input reads as it did. -/
def windowOnceUptoRow : OpenClaim := { program := "ytechabbdobbooaa", sum := "18425c05eead7de5c3c10c9b7a8cc516c51ae07d9362bd335ef35e559db62481", func := "chirograph/chirographlaw18.WindowOnce", spec := "windowOnce", unfollowed := true, recurses := true, apart := false, narrowed := true }
def WindowOnceUptoSaid : Prop := windowOnceUptoRow.holds Try.pinned (OpenSpec.upto windowOnceSpec)

/-- 'chirographlaw19.PeerOnce', WHERE WHAT IT READS IS OF BULK AT MOST 1048576: true; the input reads as it did. -/
def peerOnceUptoRow : OpenClaim := { program := "ytechabbdobbooaa", sum := "18425c05eead7de5c3c10c9b7a8cc516c51ae07d9362bd335ef35e559db62481", func := "chirograph/chirographlaw19.PeerOnce", spec := "peerOnce", unfollowed := true, recurses := true, apart := false, narrowed := true }
def PeerOnceUptoSaid : Prop := peerOnceUptoRow.holds Try.pinned (OpenSpec.upto peerOnceSpec)

/-- 'chirographlaw19.PeerTalks', WHERE WHAT IT READS IS OF BULK AT MOST 1048576: true; the input reads as it did. -/
def peerTalksUptoRow : OpenClaim := { program := "ytechabbdobbooaa", sum := "18425c05eead7de5c3c10c9b7a8cc516c51ae07d9362bd335ef35e559db62481", func := "chirograph/chirographlaw19.PeerTalks", spec := "peerTalks", unfollowed := true, recurses := true, apart := false, narrowed := true }
def PeerTalksUptoSaid : Prop := peerTalksUptoRow.holds Try.pinned (OpenSpec.upto peerTalksSpec)

/-- 'chirographlaw19.PeerPlays', WHERE WHAT IT READS IS OF BULK AT MOST 1048576: true; the input reads as it did. -/
def peerPlaysUptoRow : OpenClaim := { program := "ytechabbdobbooaa", sum := "18425c05eead7de5c3c10c9b7a8cc516c51ae07d9362bd335ef35e559db62481", func := "chirograph/chirographlaw19.PeerPlays", spec := "peerPlays", unfollowed := true, recurses := true, apart := false, narrowed := true }
def PeerPlaysUptoSaid : Prop := peerPlaysUptoRow.holds Try.pinned (OpenSpec.upto peerPlaysSpec)

end Rows
end Go.Proofs.Ytechabbdobbooaa
