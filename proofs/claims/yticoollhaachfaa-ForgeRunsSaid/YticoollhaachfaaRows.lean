/-
  No cell of these rows narrows 'for every input' (looked for: loops, veiled, ifaces, maps, wideKeys, modest, calm, conditions, laid).
  DERIVED. THE GIVEN ROWS OF THIS SEAT. 4 by the template 'for every input the law returns true; each argument reads behind the call as it read before'; 0 by the template 'total and deterministic' (their statements: YticoollhaachfaaTotals.lean).
  GIVEN WITH THE SEED: the statements are not yours to turn. If you find one false, say at which input.
  Laid BY PROGRAM, IN A SANDBOX (cutbox-rows.mjs): the forced cells as the released guide's own fill.sh prints them over the translation a6f3dfe3c45fbaa0… (all of the seat's roots in one cut). By AI agents, Wed Nov 11 2026. No macro, syntax, notation, axiom, sorry.
-/
import Derived.Test.YticoollhaachfaaChecked
import GoSem.Claim
import GoSem.ClaimJoined
import GoSem.ClaimMapViews
import Derived.JoinedTies
import Derived.KernelRfl
namespace Go.Proofs.Yticoollhaachfaa
/- THE CELL 'sum', in the pinned program and in every row, IS THE sha256 OF THE DUMP (.gsa) THAT YticoollhaachfaaProg.lean LOADS. Nothing in Lean hashes anything: it is a label: what it is worth is what the hold of that sum in a sandbox is worth. -/
noncomputable def Try.pinned : Pinned := { name := "yticoollhaachfaa", sum := "a6f3dfe3c45fbaa0c71edfcd2278b056f1b3751bd21e749462163067214122c1", checked := Try.checked }
namespace Rows
def none {H : Type} : Left H := { results := [], args := [] }

/-- 'chirographlaw11.ForgeRuns': WHATEVER THE INPUT: true; the input reads as it did. -/
def forgeRunsSpec : ChangeSpec := { name := "forgeRuns", fn := fun _ => fun
  | [d1, d2] => { results := [.lit (.bool true)], args := [d1, d2] }
  | _ => none }
def forgeRunsRow : OpenClaim := { program := "yticoollhaachfaa", sum := "a6f3dfe3c45fbaa0c71edfcd2278b056f1b3751bd21e749462163067214122c1", func := "chirograph/chirographlaw11.ForgeRuns", spec := "forgeRuns", inPlace := ["internal/bytealg.IndexByteString", "internal/bytealg.IndexString", "internal/abi.NoEscape"], unfollowed := true, recurses := true, named := ["internal/bytealg.MaxLen"], apart := false }
def ForgeRunsSaid : Prop := forgeRunsRow.holds Try.pinned (OpenSpec.ofChange forgeRunsSpec)

/-- ITS FALSE NEIGHBOUR: 'it returns false'. Refute it at one input. -/
def forgeRunsWrong : ChangeSpec := { name := "forgeRuns", fn := fun _ => fun
  | [d1, d2] => { results := [.lit (.bool false)], args := [d1, d2] }
  | _ => none }
def ForgeRunsWrongFalsely : Prop := forgeRunsRow.holds Try.pinned (OpenSpec.ofChange forgeRunsWrong)

/-- 'chirographlaw11.ForgeMore': WHATEVER THE INPUT: true; the input reads as it did. -/
def forgeMoreSpec : ChangeSpec := { name := "forgeMore", fn := fun _ => fun
  | [d1, d2, d3, d4] => { results := [.lit (.bool true)], args := [d1, d2, d3, d4] }
  | _ => none }
def forgeMoreRow : OpenClaim := { program := "yticoollhaachfaa", sum := "a6f3dfe3c45fbaa0c71edfcd2278b056f1b3751bd21e749462163067214122c1", func := "chirograph/chirographlaw11.ForgeMore", spec := "forgeMore", inPlace := ["internal/bytealg.IndexByteString", "internal/bytealg.IndexString", "internal/abi.NoEscape"], unfollowed := true, recurses := true, named := ["internal/bytealg.MaxLen"], apart := false }
def ForgeMoreSaid : Prop := forgeMoreRow.holds Try.pinned (OpenSpec.ofChange forgeMoreSpec)

/-- ITS FALSE NEIGHBOUR: 'it returns false'. Refute it at one input. -/
def forgeMoreWrong : ChangeSpec := { name := "forgeMore", fn := fun _ => fun
  | [d1, d2, d3, d4] => { results := [.lit (.bool false)], args := [d1, d2, d3, d4] }
  | _ => none }
def ForgeMoreWrongFalsely : Prop := forgeMoreRow.holds Try.pinned (OpenSpec.ofChange forgeMoreWrong)

/-- 'chirographlaw11.ForgeSound': WHATEVER THE INPUT: true; the input reads as it did. -/
def forgeSoundSpec : ChangeSpec := { name := "forgeSound", fn := fun _ => fun
  | [d1, d2] => { results := [.lit (.bool true)], args := [d1, d2] }
  | _ => none }
def forgeSoundRow : OpenClaim := { program := "yticoollhaachfaa", sum := "a6f3dfe3c45fbaa0c71edfcd2278b056f1b3751bd21e749462163067214122c1", func := "chirograph/chirographlaw11.ForgeSound", spec := "forgeSound", inPlace := ["internal/bytealg.IndexByteString", "internal/bytealg.IndexString", "internal/abi.NoEscape", "maps.clone"], unfollowed := true, recurses := true, named := ["internal/bytealg.MaxLen"], apart := false }
def ForgeSoundSaid : Prop := forgeSoundRow.holds Try.pinned (OpenSpec.ofChange forgeSoundSpec)

/-- ITS FALSE NEIGHBOUR: 'it returns false'. Refute it at one input. -/
def forgeSoundWrong : ChangeSpec := { name := "forgeSound", fn := fun _ => fun
  | [d1, d2] => { results := [.lit (.bool false)], args := [d1, d2] }
  | _ => none }
def ForgeSoundWrongFalsely : Prop := forgeSoundRow.holds Try.pinned (OpenSpec.ofChange forgeSoundWrong)

/-- 'chirographlaw11.ForgeFinds': WHATEVER THE INPUT: true; the input reads as it did. -/
def forgeFindsSpec : ChangeSpec := { name := "forgeFinds", fn := fun _ => fun
  | [d1, d2] => { results := [.lit (.bool true)], args := [d1, d2] }
  | _ => none }
def forgeFindsRow : OpenClaim := { program := "yticoollhaachfaa", sum := "a6f3dfe3c45fbaa0c71edfcd2278b056f1b3751bd21e749462163067214122c1", func := "chirograph/chirographlaw11.ForgeFinds", spec := "forgeFinds", inPlace := ["internal/bytealg.IndexByteString", "internal/bytealg.IndexString", "internal/abi.NoEscape", "maps.clone"], unfollowed := true, recurses := true, named := ["internal/bytealg.MaxLen"], apart := false }
def ForgeFindsSaid : Prop := forgeFindsRow.holds Try.pinned (OpenSpec.ofChange forgeFindsSpec)

/-- ITS FALSE NEIGHBOUR: 'it returns false'. Refute it at one input. -/
def forgeFindsWrong : ChangeSpec := { name := "forgeFinds", fn := fun _ => fun
  | [d1, d2] => { results := [.lit (.bool false)], args := [d1, d2] }
  | _ => none }
def ForgeFindsWrongFalsely : Prop := forgeFindsRow.holds Try.pinned (OpenSpec.ofChange forgeFindsWrong)

/- THE SECOND FORM. 'bulk': how many values and letters a reading holds, each counted each time it is reached (what is shared counts as often as it is met; a slice's spare places count too). A statement '..UptoSaid' is the law's where the arguments, and the package variables that the reading takes, are together of bulk at most 1048576: NARROWER than '..Said'. Prove '..Said' where nothing that the law and all that it calls make is longer than what came in: it says more and counts as full. Else prove '..UptoSaid'. A law counts once. -/
mutual
def uptoBulk {H : Type} : DataW H → Nat
  | .lit (.string bytes) => bytes.length + 1
  | .lit _ => 1
  | .nil => 1
  | .ptr d => uptoBulk d + 1
  | .slice elems spare => uptoBulkAll elems + uptoBulkAll spare + 1
  | .agg parts => uptoBulkAll parts + 1
  | .iface _ d => uptoBulk d + 1
  | .map entries => uptoBulkEntries entries + 1
  | .held _ => 1
def uptoBulkAll {H : Type} : List (DataW H) → Nat
  | [] => 0
  | d :: r => uptoBulk d + uptoBulkAll r
def uptoBulkEntries {H : Type} : List (Lit × DataW H) → Nat
  | [] => 0
  | x :: r => uptoBulkEntry x + uptoBulkEntries r
def uptoBulkEntry {H : Type} : Lit × DataW H → Nat
  | (.string bytes, d) => bytes.length + uptoBulk d + 1
  | (_, d) => uptoBulk d + 1
 end
def uptoSmall : (H : Type) → List (DataW H) → Bool := fun _ ds => decide (uptoBulkAll ds ≤ 1048576)
def OpenSpec.upto (s : _root_.Go.ChangeSpec) : _root_.Go.OpenSpec := { _root_.Go.OpenSpec.ofChange s with cond := some uptoSmall }

/-- 'chirographlaw11.ForgeRuns', WHERE WHAT IT READS IS OF BULK AT MOST 1048576: true; the input reads as it did. -/
def forgeRunsUptoRow : OpenClaim := { program := "yticoollhaachfaa", sum := "a6f3dfe3c45fbaa0c71edfcd2278b056f1b3751bd21e749462163067214122c1", func := "chirograph/chirographlaw11.ForgeRuns", spec := "forgeRuns", inPlace := ["internal/bytealg.IndexByteString", "internal/bytealg.IndexString", "internal/abi.NoEscape"], unfollowed := true, recurses := true, named := ["internal/bytealg.MaxLen"], apart := false, narrowed := true }
def ForgeRunsUptoSaid : Prop := forgeRunsUptoRow.holds Try.pinned (OpenSpec.upto forgeRunsSpec)

/-- 'chirographlaw11.ForgeMore', WHERE WHAT IT READS IS OF BULK AT MOST 1048576: true; the input reads as it did. -/
def forgeMoreUptoRow : OpenClaim := { program := "yticoollhaachfaa", sum := "a6f3dfe3c45fbaa0c71edfcd2278b056f1b3751bd21e749462163067214122c1", func := "chirograph/chirographlaw11.ForgeMore", spec := "forgeMore", inPlace := ["internal/bytealg.IndexByteString", "internal/bytealg.IndexString", "internal/abi.NoEscape"], unfollowed := true, recurses := true, named := ["internal/bytealg.MaxLen"], apart := false, narrowed := true }
def ForgeMoreUptoSaid : Prop := forgeMoreUptoRow.holds Try.pinned (OpenSpec.upto forgeMoreSpec)

/-- 'chirographlaw11.ForgeSound', WHERE WHAT IT READS IS OF BULK AT MOST 1048576: true; the input reads as it did. -/
def forgeSoundUptoRow : OpenClaim := { program := "yticoollhaachfaa", sum := "a6f3dfe3c45fbaa0c71edfcd2278b056f1b3751bd21e749462163067214122c1", func := "chirograph/chirographlaw11.ForgeSound", spec := "forgeSound", inPlace := ["internal/bytealg.IndexByteString", "internal/bytealg.IndexString", "internal/abi.NoEscape", "maps.clone"], unfollowed := true, recurses := true, named := ["internal/bytealg.MaxLen"], apart := false, narrowed := true }
def ForgeSoundUptoSaid : Prop := forgeSoundUptoRow.holds Try.pinned (OpenSpec.upto forgeSoundSpec)

/-- 'chirographlaw11.ForgeFinds', WHERE WHAT IT READS IS OF BULK AT MOST 1048576: true; the input reads as it did. -/
def forgeFindsUptoRow : OpenClaim := { program := "yticoollhaachfaa", sum := "a6f3dfe3c45fbaa0c71edfcd2278b056f1b3751bd21e749462163067214122c1", func := "chirograph/chirographlaw11.ForgeFinds", spec := "forgeFinds", inPlace := ["internal/bytealg.IndexByteString", "internal/bytealg.IndexString", "internal/abi.NoEscape", "maps.clone"], unfollowed := true, recurses := true, named := ["internal/bytealg.MaxLen"], apart := false, narrowed := true }
def ForgeFindsUptoSaid : Prop := forgeFindsUptoRow.holds Try.pinned (OpenSpec.upto forgeFindsSpec)

end Rows
end Go.Proofs.Yticoollhaachfaa
