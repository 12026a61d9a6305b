/-
  No cell of these rows narrows 'for every input' (looked for: loops, veiled, ifaces, maps, wideKeys, modest, calm, conditions, laid).
  DERIVED. THE GIVEN ROWS OF THIS SEAT. 7 by the template 'for every input the law returns true; each argument reads behind the call as it read before'; 0 by the template 'total and deterministic' (their statements: YtpcilobbohokcaaGreatTotals.lean).
  GIVEN WITH THE SEED: the statements are not yours to turn. If you find one false, say at which input.
  Laid BY PROGRAM, IN A SANDBOX (cutbox-rows.mjs): the forced cells as the released guide's own fill.sh prints them over the translation 73484243586161a6… (all of the seat's roots in one cut). By AI agents, Wed Nov 11 2026. No macro, syntax, notation, axiom, sorry.
-/
import Derived.Test.YtpcilobbohokcaaGreatChecked
import GoSem.Claim
import GoSem.ClaimJoined
import GoSem.ClaimMapViews
import Derived.JoinedTies
import Derived.KernelRfl
namespace Go.Proofs.YtpcilobbohokcaaGreat
/- THE CELL 'sum', in the pinned program and in every row, IS THE sha256 OF THE DUMP (.gsa) THAT YtpcilobbohokcaaGreatProg.lean LOADS. Nothing in Lean hashes anything: it is a label: what it is worth is what the hold of that sum in a sandbox is worth. -/
noncomputable def Tryz.pinned : Pinned := { name := "ytpcilobbohokcaagreat", sum := "73484243586161a699f8c607127f553a6a48bc76daecb9034e8c324e7cf27353", checked := Tryz.checked }
namespace Rows
def none {H : Type} : Left H := { results := [], args := [] }

/-- 'chirographlaw26.ReceiptReads': WHATEVER THE INPUT: true; the input reads as it did. -/
def receiptReadsSpec : ChangeSpec := { name := "receiptReads", fn := fun _ => fun
  | [d] => { results := [.lit (.bool true)], args := [d] }
  | _ => none }
def receiptReadsRow : OpenClaim := { program := "ytpcilobbohokcaagreat", sum := "73484243586161a699f8c607127f553a6a48bc76daecb9034e8c324e7cf27353", func := "chirograph/chirographlaw26.ReceiptReads", spec := "receiptReads", inPlace := ["internal/bytealg.IndexByteString", "internal/bytealg.IndexString", "internal/abi.NoEscape"], unfollowed := true, recurses := true, named := ["internal/bytealg.MaxLen"], apart := false }
def ReceiptReadsSaid : Prop := receiptReadsRow.holds Tryz.pinned (OpenSpec.ofChange receiptReadsSpec)

/-- ITS FALSE NEIGHBOUR: 'it returns false'. Refute it at one input. -/
def receiptReadsWrong : ChangeSpec := { name := "receiptReads", fn := fun _ => fun
  | [d] => { results := [.lit (.bool false)], args := [d] }
  | _ => none }
def ReceiptReadsWrongFalsely : Prop := receiptReadsRow.holds Tryz.pinned (OpenSpec.ofChange receiptReadsWrong)

/-- 'chirographlaw12.WireTells': WHATEVER THE INPUT: true; the input reads as it did. -/
def wireTellsSpec : ChangeSpec := { name := "wireTells", fn := fun _ => fun
  | [d1, d2] => { results := [.lit (.bool true)], args := [d1, d2] }
  | _ => none }
def wireTellsRow : OpenClaim := { program := "ytpcilobbohokcaagreat", sum := "73484243586161a699f8c607127f553a6a48bc76daecb9034e8c324e7cf27353", func := "chirograph/chirographlaw12.WireTells", spec := "wireTells", inPlace := ["internal/bytealg.IndexByteString", "internal/bytealg.IndexString", "internal/abi.NoEscape"], unfollowed := true, recurses := true, named := ["internal/bytealg.MaxLen"], apart := false }
def WireTellsSaid : Prop := wireTellsRow.holds Tryz.pinned (OpenSpec.ofChange wireTellsSpec)

/-- ITS FALSE NEIGHBOUR: 'it returns false'. Refute it at one input. -/
def wireTellsWrong : ChangeSpec := { name := "wireTells", fn := fun _ => fun
  | [d1, d2] => { results := [.lit (.bool false)], args := [d1, d2] }
  | _ => none }
def WireTellsWrongFalsely : Prop := wireTellsRow.holds Tryz.pinned (OpenSpec.ofChange wireTellsWrong)

/-- 'chirographlaw12.WireReads': WHATEVER THE INPUT: true; the input reads as it did. -/
def wireReadsSpec : ChangeSpec := { name := "wireReads", fn := fun _ => fun
  | [d] => { results := [.lit (.bool true)], args := [d] }
  | _ => none }
def wireReadsRow : OpenClaim := { program := "ytpcilobbohokcaagreat", sum := "73484243586161a699f8c607127f553a6a48bc76daecb9034e8c324e7cf27353", func := "chirograph/chirographlaw12.WireReads", spec := "wireReads", inPlace := ["internal/bytealg.IndexByteString", "internal/bytealg.IndexString", "internal/abi.NoEscape"], unfollowed := true, recurses := true, named := ["internal/bytealg.MaxLen"], apart := false }
def WireReadsSaid : Prop := wireReadsRow.holds Tryz.pinned (OpenSpec.ofChange wireReadsSpec)

/-- ITS FALSE NEIGHBOUR: 'it returns false'. Refute it at one input. -/
def wireReadsWrong : ChangeSpec := { name := "wireReads", fn := fun _ => fun
  | [d] => { results := [.lit (.bool false)], args := [d] }
  | _ => none }
def WireReadsWrongFalsely : Prop := wireReadsRow.holds Tryz.pinned (OpenSpec.ofChange wireReadsWrong)

/-- 'chirographlaw26.ReceiptTells': WHATEVER THE INPUT: true; the input reads as it did. -/
def receiptTellsSpec : ChangeSpec := { name := "receiptTells", fn := fun _ => fun
  | [d1, d2] => { results := [.lit (.bool true)], args := [d1, d2] }
  | _ => none }
def receiptTellsRow : OpenClaim := { program := "ytpcilobbohokcaagreat", sum := "73484243586161a699f8c607127f553a6a48bc76daecb9034e8c324e7cf27353", func := "chirograph/chirographlaw26.ReceiptTells", spec := "receiptTells", inPlace := ["internal/bytealg.IndexByteString", "internal/bytealg.IndexString", "internal/abi.NoEscape"], unfollowed := true, recurses := true, named := ["internal/bytealg.MaxLen"], apart := false }
def ReceiptTellsSaid : Prop := receiptTellsRow.holds Tryz.pinned (OpenSpec.ofChange receiptTellsSpec)

/-- ITS FALSE NEIGHBOUR: 'it returns false'. Refute it at one input. -/
def receiptTellsWrong : ChangeSpec := { name := "receiptTells", fn := fun _ => fun
  | [d1, d2] => { results := [.lit (.bool false)], args := [d1, d2] }
  | _ => none }
def ReceiptTellsWrongFalsely : Prop := receiptTellsRow.holds Tryz.pinned (OpenSpec.ofChange receiptTellsWrong)

/-- 'chirographlaw12.WireParts': WHATEVER THE INPUT: true; the input reads as it did. -/
def wirePartsSpec : ChangeSpec := { name := "wireParts", fn := fun _ => fun
  | [d1, d2, d3] => { results := [.lit (.bool true)], args := [d1, d2, d3] }
  | _ => none }
def wirePartsRow : OpenClaim := { program := "ytpcilobbohokcaagreat", sum := "73484243586161a699f8c607127f553a6a48bc76daecb9034e8c324e7cf27353", func := "chirograph/chirographlaw12.WireParts", spec := "wireParts", inPlace := ["internal/bytealg.IndexByteString", "internal/bytealg.IndexString", "internal/abi.NoEscape"], unfollowed := true, recurses := true, named := ["internal/bytealg.MaxLen"], apart := false }
def WirePartsSaid : Prop := wirePartsRow.holds Tryz.pinned (OpenSpec.ofChange wirePartsSpec)

/-- ITS FALSE NEIGHBOUR: 'it returns false'. Refute it at one input. -/
def wirePartsWrong : ChangeSpec := { name := "wireParts", fn := fun _ => fun
  | [d1, d2, d3] => { results := [.lit (.bool false)], args := [d1, d2, d3] }
  | _ => none }
def WirePartsWrongFalsely : Prop := wirePartsRow.holds Tryz.pinned (OpenSpec.ofChange wirePartsWrong)

/-- 'chirographlaw23.PartSteps': WHATEVER THE INPUT: true; the input reads as it did. -/
def partStepsSpec : ChangeSpec := { name := "partSteps", fn := fun _ => fun
  | [d1, d2, d3, d4, d5] => { results := [.lit (.bool true)], args := [d1, d2, d3, d4, d5] }
  | _ => none }
def partStepsRow : OpenClaim := { program := "ytpcilobbohokcaagreat", sum := "73484243586161a699f8c607127f553a6a48bc76daecb9034e8c324e7cf27353", func := "chirograph/chirographlaw23.PartSteps", spec := "partSteps", inPlace := ["internal/bytealg.IndexByteString", "internal/bytealg.IndexString", "internal/abi.NoEscape"], unfollowed := true, recurses := true, named := ["internal/bytealg.MaxLen"], apart := false }
def PartStepsSaid : Prop := partStepsRow.holds Tryz.pinned (OpenSpec.ofChange partStepsSpec)

/-- ITS FALSE NEIGHBOUR: 'it returns false'. Refute it at one input. -/
def partStepsWrong : ChangeSpec := { name := "partSteps", fn := fun _ => fun
  | [d1, d2, d3, d4, d5] => { results := [.lit (.bool false)], args := [d1, d2, d3, d4, d5] }
  | _ => none }
def PartStepsWrongFalsely : Prop := partStepsRow.holds Tryz.pinned (OpenSpec.ofChange partStepsWrong)

/-- 'chirographlaw23.PartBegins': WHATEVER THE INPUT: true; the input reads as it did. -/
def partBeginsSpec : ChangeSpec := { name := "partBegins", fn := fun _ => fun
  | [d1, d2, d3, d4] => { results := [.lit (.bool true)], args := [d1, d2, d3, d4] }
  | _ => none }
def partBeginsRow : OpenClaim := { program := "ytpcilobbohokcaagreat", sum := "73484243586161a699f8c607127f553a6a48bc76daecb9034e8c324e7cf27353", func := "chirograph/chirographlaw23.PartBegins", spec := "partBegins", inPlace := ["internal/bytealg.IndexByteString", "internal/bytealg.IndexString", "internal/abi.NoEscape"], unfollowed := true, recurses := true, named := ["internal/bytealg.MaxLen"], apart := false }
def PartBeginsSaid : Prop := partBeginsRow.holds Tryz.pinned (OpenSpec.ofChange partBeginsSpec)

/-- ITS FALSE NEIGHBOUR: 'it returns false'. Refute it at one input. -/
def partBeginsWrong : ChangeSpec := { name := "partBegins", fn := fun _ => fun
  | [d1, d2, d3, d4] => { results := [.lit (.bool false)], args := [d1, d2, d3, d4] }
  | _ => none }
def PartBeginsWrongFalsely : Prop := partBeginsRow.holds Tryz.pinned (OpenSpec.ofChange partBeginsWrong)

/- THE SECOND FORM. 'bulk': how many values and letters a reading holds, each counted each time it is reached (what is shared counts as often as it is met; a slice's spare places count too). A statement '..UptoSaid' is the law's where the arguments, and the package variables that the reading takes, are together of bulk at most 1048576: NARROWER than '..Said'. Prove '..Said' where nothing that the law and all that it calls make is longer than what came in: it says more and counts as full. Else prove '..UptoSaid'. A law counts once. -/
mutual
def uptoBulk {H : Type} : DataW H → Nat
  | .lit (.string bytes) => bytes.length + 1
  | .lit _ => 1
  | .nil => 1
  | .ptr d => uptoBulk d + 1
  | .slice elems spare => uptoBulkAll elems + uptoBulkAll spare + 1
  | .agg parts => uptoBulkAll parts + 1
  | .iface _ d => uptoBulk d + 1
  | .map entries => uptoBulkEntries entries + 1
  | .held _ => 1
def uptoBulkAll {H : Type} : List (DataW H) → Nat
  | [] => 0
  | d :: r => uptoBulk d + uptoBulkAll r
def uptoBulkEntries {H : Type} : List (Lit × DataW H) → Nat
  | [] => 0
  | x :: r => uptoBulkEntry x + uptoBulkEntries r
def uptoBulkEntry {H : Type} : Lit × DataW H → Nat
  | (.string bytes, d) => bytes.length + uptoBulk d + 1
  | (_, d) => uptoBulk d + 1
 end
def uptoSmall : (H : Type) → List (DataW H) → Bool := fun _ ds => decide (uptoBulkAll ds ≤ 1048576)
def OpenSpec.upto (s : _root_.Go.ChangeSpec) : _root_.Go.OpenSpec := { _root_.Go.OpenSpec.ofChange s with cond := some uptoSmall }

/-- 'chirographlaw26.ReceiptReads', WHERE WHAT IT READS IS OF BULK AT MOST 1048576: true; the input reads as it did. -/
def receiptReadsUptoRow : OpenClaim := { program := "ytpcilobbohokcaagreat", sum := "73484243586161a699f8c607127f553a6a48bc76daecb9034e8c324e7cf27353", func := "chirograph/chirographlaw26.ReceiptReads", spec := "receiptReads", inPlace := ["internal/bytealg.IndexByteString", "internal/bytealg.IndexString", "internal/abi.NoEscape"], unfollowed := true, recurses := true, named := ["internal/bytealg.MaxLen"], apart := false, narrowed := true }
def ReceiptReadsUptoSaid : Prop := receiptReadsUptoRow.holds Tryz.pinned (OpenSpec.upto receiptReadsSpec)

/-- 'chirographlaw12.WireTells', WHERE WHAT IT READS IS OF BULK AT MOST 1048576: true; the input reads as it did. -/
def wireTellsUptoRow : OpenClaim := { program := "ytpcilobbohokcaagreat", sum := "73484243586161a699f8c607127f553a6a48bc76daecb9034e8c324e7cf27353", func := "chirograph/chirographlaw12.WireTells", spec := "wireTells", inPlace := ["internal/bytealg.IndexByteString", "internal/bytealg.IndexString", "internal/abi.NoEscape"], unfollowed := true, recurses := true, named := ["internal/bytealg.MaxLen"], apart := false, narrowed := true }
def WireTellsUptoSaid : Prop := wireTellsUptoRow.holds Tryz.pinned (OpenSpec.upto wireTellsSpec)

/-- 'chirographlaw12.WireReads', WHERE WHAT IT READS IS OF BULK AT MOST 1048576: true; the input reads as it did. -/
def wireReadsUptoRow : OpenClaim := { program := "ytpcilobbohokcaagreat", sum := "73484243586161a699f8c607127f553a6a48bc76daecb9034e8c324e7cf27353", func := "chirograph/chirographlaw12.WireReads", spec := "wireReads", inPlace := ["internal/bytealg.IndexByteString", "internal/bytealg.IndexString", "internal/abi.NoEscape"], unfollowed := true, recurses := true, named := ["internal/bytealg.MaxLen"], apart := false, narrowed := true }
def WireReadsUptoSaid : Prop := wireReadsUptoRow.holds Tryz.pinned (OpenSpec.upto wireReadsSpec)

/-- 'chirographlaw26.ReceiptTells', WHERE WHAT IT READS IS OF BULK AT MOST 1048576: true; the input reads as it did. -/
def receiptTellsUptoRow : OpenClaim := { program := "ytpcilobbohokcaagreat", sum := "73484243586161a699f8c607127f553a6a48bc76daecb9034e8c324e7cf27353", func := "chirograph/chirographlaw26.ReceiptTells", spec := "receiptTells", inPlace := ["internal/bytealg.IndexByteString", "internal/bytealg.IndexString", "internal/abi.NoEscape"], unfollowed := true, recurses := true, named := ["internal/bytealg.MaxLen"], apart := false, narrowed := true }
def ReceiptTellsUptoSaid : Prop := receiptTellsUptoRow.holds Tryz.pinned (OpenSpec.upto receiptTellsSpec)

/-- 'chirographlaw12.WireParts', WHERE WHAT IT READS IS OF BULK AT MOST 1048576: true; the input reads as it did. -/
def wirePartsUptoRow : OpenClaim := { program := "ytpcilobbohokcaagreat", sum := "73484243586161a699f8c607127f553a6a48bc76daecb9034e8c324e7cf27353", func := "chirograph/chirographlaw12.WireParts", spec := "wireParts", inPlace := ["internal/bytealg.IndexByteString", "internal/bytealg.IndexString", "internal/abi.NoEscape"], unfollowed := true, recurses := true, named := ["internal/bytealg.MaxLen"], apart := false, narrowed := true }
def WirePartsUptoSaid : Prop := wirePartsUptoRow.holds Tryz.pinned (OpenSpec.upto wirePartsSpec)

/-- 'chirographlaw23.PartSteps', WHERE WHAT IT READS IS OF BULK AT MOST 1048576: true; the input reads as it did. -/
def partStepsUptoRow : OpenClaim := { program := "ytpcilobbohokcaagreat", sum := "73484243586161a699f8c607127f553a6a48bc76daecb9034e8c324e7cf27353", func := "chirograph/chirographlaw23.PartSteps", spec := "partSteps", inPlace := ["internal/bytealg.IndexByteString", "internal/bytealg.IndexString", "internal/abi.NoEscape"], unfollowed := true, recurses := true, named := ["internal/bytealg.MaxLen"], apart := false, narrowed := true }
def PartStepsUptoSaid : Prop := partStepsUptoRow.holds Tryz.pinned (OpenSpec.upto partStepsSpec)

/-- 'chirographlaw23.PartBegins', WHERE WHAT IT READS IS OF BULK AT MOST 1048576: true; the input reads as it did. -/
def partBeginsUptoRow : OpenClaim := { program := "ytpcilobbohokcaagreat", sum := "73484243586161a699f8c607127f553a6a48bc76daecb9034e8c324e7cf27353", func := "chirograph/chirographlaw23.PartBegins", spec := "partBegins", inPlace := ["internal/bytealg.IndexByteString", "internal/bytealg.IndexString", "internal/abi.NoEscape"], unfollowed := true, recurses := true, named := ["internal/bytealg.MaxLen"], apart := false, narrowed := true }
def PartBeginsUptoSaid : Prop := partBeginsUptoRow.holds Tryz.pinned (OpenSpec.upto partBeginsSpec)

end Rows
end Go.Proofs.YtpcilobbohokcaaGreat
