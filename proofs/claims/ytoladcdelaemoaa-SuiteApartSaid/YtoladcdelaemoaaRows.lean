/-
  No cell of these rows narrows 'for every input' (looked for: loops, veiled, ifaces, maps, wideKeys, modest, calm, conditions, laid).
  DERIVED. THE GIVEN ROWS OF THIS SEAT. 5 by the template 'for every input the law returns true; each argument reads behind the call as it read before'; 0 by the template 'total and deterministic' (their statements: YtoladcdelaemoaaTotals.lean).
  GIVEN WITH THE SEED: the statements are not yours to turn. If you find one false, say at which input.
  Laid BY PROGRAM, IN A SANDBOX (cutbox-rows.mjs): the forced cells as the released guide's own fill.sh prints them over the translation c46e539de4673615… (all of the seat's roots in one cut). By AI agents, Wed Nov 11 2026. No macro, syntax, notation, axiom, sorry.
-/
import Derived.Test.YtoladcdelaemoaaChecked
import GoSem.Claim
import GoSem.ClaimJoined
import GoSem.ClaimMapViews
import Derived.JoinedTies
import Derived.KernelRfl
namespace Go.Proofs.Ytoladcdelaemoaa
/- THE CELL 'sum', in the pinned program and in every row, IS THE sha256 OF THE DUMP (.gsa) THAT YtoladcdelaemoaaProg.lean LOADS. Nothing in Lean hashes anything: it is a label: what it is worth is what the hold of that sum in a sandbox is worth. -/
noncomputable def Try.pinned : Pinned := { name := "ytoladcdelaemoaa", sum := "c46e539de46736153a77fd1b00999fc3e62430468c25d7f5742cb282a491c177", checked := Try.checked }
namespace Rows
def none {H : Type} : Left H := { results := [], args := [] }

/-- 'chirographlaw11.ForgeFinds': WHATEVER THE INPUT: true; the input reads as it did. -/
def forgeFindsSpec : ChangeSpec := { name := "forgeFinds", fn := fun _ => fun
  | [d1, d2] => { results := [.lit (.bool true)], args := [d1, d2] }
  | _ => none }
def forgeFindsRow : OpenClaim := { program := "ytoladcdelaemoaa", sum := "c46e539de46736153a77fd1b00999fc3e62430468c25d7f5742cb282a491c177", func := "chirograph/chirographlaw11.ForgeFinds", spec := "forgeFinds", inPlace := ["internal/bytealg.IndexByteString", "internal/bytealg.IndexString", "internal/abi.NoEscape", "maps.clone"], unfollowed := true, recurses := true, named := ["internal/bytealg.MaxLen"], apart := false }
def ForgeFindsSaid : Prop := forgeFindsRow.holds Try.pinned (OpenSpec.ofChange forgeFindsSpec)

/-- ITS FALSE NEIGHBOUR: 'it returns false'. Refute it at one input. -/
def forgeFindsWrong : ChangeSpec := { name := "forgeFinds", fn := fun _ => fun
  | [d1, d2] => { results := [.lit (.bool false)], args := [d1, d2] }
  | _ => none }
def ForgeFindsWrongFalsely : Prop := forgeFindsRow.holds Try.pinned (OpenSpec.ofChange forgeFindsWrong)

/-- 'chirographlaw08.SuiteNonces': WHATEVER THE INPUT: true; the input reads as it did. -/
def suiteNoncesSpec : ChangeSpec := { name := "suiteNonces", fn := fun _ => fun
  | [d1, d2, d3, d4, d5, d6] => { results := [.lit (.bool true)], args := [d1, d2, d3, d4, d5, d6] }
  | _ => none }
def suiteNoncesRow : OpenClaim := { program := "ytoladcdelaemoaa", sum := "c46e539de46736153a77fd1b00999fc3e62430468c25d7f5742cb282a491c177", func := "chirograph/chirographlaw08.SuiteNonces", spec := "suiteNonces", inPlace := ["internal/bytealg.IndexByteString", "internal/bytealg.IndexString"], unfollowed := true, recurses := true, named := ["internal/bytealg.MaxLen"], apart := false }
def SuiteNoncesSaid : Prop := suiteNoncesRow.holds Try.pinned (OpenSpec.ofChange suiteNoncesSpec)

/-- ITS FALSE NEIGHBOUR: 'it returns false'. Refute it at one input. -/
def suiteNoncesWrong : ChangeSpec := { name := "suiteNonces", fn := fun _ => fun
  | [d1, d2, d3, d4, d5, d6] => { results := [.lit (.bool false)], args := [d1, d2, d3, d4, d5, d6] }
  | _ => none }
def SuiteNoncesWrongFalsely : Prop := suiteNoncesRow.holds Try.pinned (OpenSpec.ofChange suiteNoncesWrong)

/-- 'chirographlaw08.SuiteApart': WHATEVER THE INPUT: true; the input reads as it did. -/
def suiteApartSpec : ChangeSpec := { name := "suiteApart", fn := fun _ => fun
  | [d1, d2, d3, d4, d5, d6, d7, d8] => { results := [.lit (.bool true)], args := [d1, d2, d3, d4, d5, d6, d7, d8] }
  | _ => none }
def suiteApartRow : OpenClaim := { program := "ytoladcdelaemoaa", sum := "c46e539de46736153a77fd1b00999fc3e62430468c25d7f5742cb282a491c177", func := "chirograph/chirographlaw08.SuiteApart", spec := "suiteApart", inPlace := ["internal/bytealg.IndexByteString", "internal/bytealg.IndexString"], unfollowed := true, recurses := true, named := ["internal/bytealg.MaxLen"], apart := false }
def SuiteApartSaid : Prop := suiteApartRow.holds Try.pinned (OpenSpec.ofChange suiteApartSpec)

/-- ITS FALSE NEIGHBOUR: 'it returns false'. Refute it at one input. -/
def suiteApartWrong : ChangeSpec := { name := "suiteApart", fn := fun _ => fun
  | [d1, d2, d3, d4, d5, d6, d7, d8] => { results := [.lit (.bool false)], args := [d1, d2, d3, d4, d5, d6, d7, d8] }
  | _ => none }
def SuiteApartWrongFalsely : Prop := suiteApartRow.holds Try.pinned (OpenSpec.ofChange suiteApartWrong)

/-- 'chirographlaw08.SuiteBack': WHATEVER THE INPUT: true; the input reads as it did. -/
def suiteBackSpec : ChangeSpec := { name := "suiteBack", fn := fun _ => fun
  | [d1, d2, d3, d4, d5, d6] => { results := [.lit (.bool true)], args := [d1, d2, d3, d4, d5, d6] }
  | _ => none }
def suiteBackRow : OpenClaim := { program := "ytoladcdelaemoaa", sum := "c46e539de46736153a77fd1b00999fc3e62430468c25d7f5742cb282a491c177", func := "chirograph/chirographlaw08.SuiteBack", spec := "suiteBack", inPlace := ["internal/bytealg.IndexByteString", "internal/bytealg.IndexString"], unfollowed := true, recurses := true, named := ["internal/bytealg.MaxLen"], apart := false }
def SuiteBackSaid : Prop := suiteBackRow.holds Try.pinned (OpenSpec.ofChange suiteBackSpec)

/-- ITS FALSE NEIGHBOUR: 'it returns false'. Refute it at one input. -/
def suiteBackWrong : ChangeSpec := { name := "suiteBack", fn := fun _ => fun
  | [d1, d2, d3, d4, d5, d6] => { results := [.lit (.bool false)], args := [d1, d2, d3, d4, d5, d6] }
  | _ => none }
def SuiteBackWrongFalsely : Prop := suiteBackRow.holds Try.pinned (OpenSpec.ofChange suiteBackWrong)

/-- 'chirographlaw08.SuiteImages': WHATEVER THE INPUT: true; the input reads as it did. -/
def suiteImagesSpec : ChangeSpec := { name := "suiteImages", fn := fun _ => fun
  | [d1, d2, d3, d4, d5] => { results := [.lit (.bool true)], args := [d1, d2, d3, d4, d5] }
  | _ => none }
def suiteImagesRow : OpenClaim := { program := "ytoladcdelaemoaa", sum := "c46e539de46736153a77fd1b00999fc3e62430468c25d7f5742cb282a491c177", func := "chirograph/chirographlaw08.SuiteImages", spec := "suiteImages", inPlace := ["internal/bytealg.IndexByteString", "internal/bytealg.IndexString", "internal/abi.NoEscape"], unfollowed := true, recurses := true, named := ["internal/bytealg.MaxLen"], apart := false }
def SuiteImagesSaid : Prop := suiteImagesRow.holds Try.pinned (OpenSpec.ofChange suiteImagesSpec)

/-- ITS FALSE NEIGHBOUR: 'it returns false'. Refute it at one input. -/
def suiteImagesWrong : ChangeSpec := { name := "suiteImages", fn := fun _ => fun
  | [d1, d2, d3, d4, d5] => { results := [.lit (.bool false)], args := [d1, d2, d3, d4, d5] }
  | _ => none }
def SuiteImagesWrongFalsely : Prop := suiteImagesRow.holds Try.pinned (OpenSpec.ofChange suiteImagesWrong)

/- THE SECOND FORM. 'bulk': how many values and letters a reading holds, each counted each time it is reached (what is shared counts as often as it is met; a slice's spare places count too). A statement '..UptoSaid' is the law's where the arguments, and the package variables that the reading takes, are together of bulk at most 1048576: NARROWER than '..Said'. Prove '..Said' where nothing that the law and all that it calls make is longer than what came in: it says more and counts as full. Else prove '..UptoSaid'. A law counts once. -/
mutual
def uptoBulk {H : Type} : DataW H → Nat
  | .lit (.string bytes) => bytes.length + 1
  | .lit _ => 1
  | .nil => 1
  | .ptr d => uptoBulk d + 1
  | .slice elems spare => uptoBulkAll elems + uptoBulkAll spare + 1
  | .agg parts => uptoBulkAll parts + 1
  | .iface _ d => uptoBulk d + 1
  | .map entries => uptoBulkEntries entries + 1
  | .held _ => 1
def uptoBulkAll {H : Type} : List (DataW H) → Nat
  | [] => 0
  | d :: r => uptoBulk d + uptoBulkAll r
def uptoBulkEntries {H : Type} : List (Lit × DataW H) → Nat
  | [] => 0
  | x :: r => uptoBulkEntry x + uptoBulkEntries r
def uptoBulkEntry {H : Type} : Lit × DataW H → Nat
  | (.string bytes, d) => bytes.length + uptoBulk d + 1
  | (_, d) => uptoBulk d + 1
 end
def uptoSmall : (H : Type) → List (DataW H) → Bool := fun _ ds => decide (uptoBulkAll ds ≤ 1048576)
def OpenSpec.upto (s : _root_.Go.ChangeSpec) : _root_.Go.OpenSpec := { _root_.Go.OpenSpec.ofChange s with cond := some uptoSmall }

/-- 'chirographlaw11.ForgeFinds', WHERE WHAT IT READS IS OF BULK AT MOST 1048576: true; the input reads as it did. -/
def forgeFindsUptoRow : OpenClaim := { program := "ytoladcdelaemoaa", sum := "c46e539de46736153a77fd1b00999fc3e62430468c25d7f5742cb282a491c177", func := "chirograph/chirographlaw11.ForgeFinds", spec := "forgeFinds", inPlace := ["internal/bytealg.IndexByteString", "internal/bytealg.IndexString", "internal/abi.NoEscape", "maps.clone"], unfollowed := true, recurses := true, named := ["internal/bytealg.MaxLen"], apart := false, narrowed := true }
def ForgeFindsUptoSaid : Prop := forgeFindsUptoRow.holds Try.pinned (OpenSpec.upto forgeFindsSpec)

/-- 'chirographlaw08.SuiteNonces', WHERE WHAT IT READS IS OF BULK AT MOST 1048576: true; the input reads as it did. -/
def suiteNoncesUptoRow : OpenClaim := { program := "ytoladcdelaemoaa", sum := "c46e539de46736153a77fd1b00999fc3e62430468c25d7f5742cb282a491c177", func := "chirograph/chirographlaw08.SuiteNonces", spec := "suiteNonces", inPlace := ["internal/bytealg.IndexByteString", "internal/bytealg.IndexString"], unfollowed := true, recurses := true, named := ["internal/bytealg.MaxLen"], apart := false, narrowed := true }
def SuiteNoncesUptoSaid : Prop := suiteNoncesUptoRow.holds Try.pinned (OpenSpec.upto suiteNoncesSpec)

/-- 'chirographlaw08.SuiteApart', WHERE WHAT IT READS IS OF BULK AT MOST 1048576: true; the input reads as it did. -/
def suiteApartUptoRow : OpenClaim := { program := "ytoladcdelaemoaa", sum := "c46e539de46736153a77fd1b00999fc3e62430468c25d7f5742cb282a491c177", func := "chirograph/chirographlaw08.SuiteApart", spec := "suiteApart", inPlace := ["internal/bytealg.IndexByteString", "internal/bytealg.IndexString"], unfollowed := true, recurses := true, named := ["internal/bytealg.MaxLen"], apart := false, narrowed := true }
def SuiteApartUptoSaid : Prop := suiteApartUptoRow.holds Try.pinned (OpenSpec.upto suiteApartSpec)

/-- 'chirographlaw08.SuiteBack', WHERE WHAT IT READS IS OF BULK AT MOST 1048576: true; the input reads as it did. -/
def suiteBackUptoRow : OpenClaim := { program := "ytoladcdelaemoaa", sum := "c46e539de46736153a77fd1b00999fc3e62430468c25d7f5742cb282a491c177", func := "chirograph/chirographlaw08.SuiteBack", spec := "suiteBack", inPlace := ["internal/bytealg.IndexByteString", "internal/bytealg.IndexString"], unfollowed := true, recurses := true, named := ["internal/bytealg.MaxLen"], apart := false, narrowed := true }
def SuiteBackUptoSaid : Prop := suiteBackUptoRow.holds Try.pinned (OpenSpec.upto suiteBackSpec)

/-- 'chirographlaw08.SuiteImages', WHERE WHAT IT READS IS OF BULK AT MOST 1048576: true; the input reads as it did. -/
def suiteImagesUptoRow : OpenClaim := { program := "ytoladcdelaemoaa", sum := "c46e539de46736153a77fd1b00999fc3e62430468c25d7f5742cb282a491c177", func := "chirograph/chirographlaw08.SuiteImages", spec := "suiteImages", inPlace := ["internal/bytealg.IndexByteString", "internal/bytealg.IndexString", "internal/abi.NoEscape"], unfollowed := true, recurses := true, named := ["internal/bytealg.MaxLen"], apart := false, narrowed := true }
def SuiteImagesUptoSaid : Prop := suiteImagesUptoRow.holds Try.pinned (OpenSpec.upto suiteImagesSpec)

end Rows
end Go.Proofs.Ytoladcdelaemoaa
