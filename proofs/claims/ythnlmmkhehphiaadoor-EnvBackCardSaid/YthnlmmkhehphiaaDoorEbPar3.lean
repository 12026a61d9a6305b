/-
  ballot.Check, the reference's May of a ballot; part: the ballot of a transaction (walks).
-/
import Derived.Test.YthnlmmkhehphiaaDoorEbW2
import Derived.Test.YthnlmmkhehphiaaDoorEbRefC
set_option linter.unusedSimpArgs false
set_option linter.unusedVariables false
set_option maxRecDepth 20000
namespace Go.Proofs.YthnlmmkhehphiaaDoor
open Go Go.Wk Go.RowKit
attribute [local irreducible] go Hold
open Go.Lib
/-- A transaction at a member. -/
structure Pt where
  tx : Tx
  aud : Int
  mbs : List Mb
  org : Int
  body : List UInt8
  st : Nat
  tag : List UInt8
  sent : Int
/-- What is known of one that is read. -/
structure PtIn (w : World) (p : Pt) (ms : Value) : Prop where
  st : p.st < 256
  sent : I64 p.sent
  len : p.mbs.length ≤ 1000000
  dig : ∀ m ∈ p.mbs, m.2.length ≤ maxLen
  rd : Rd w 2 ms p.mbs.length (p.mbs.flatMap mbC)
  body : p.body.length ≤ maxLen
  tag : p.tag.length ≤ maxLen
theorem PtIn.mod {w w' : World} {p : Pt} {ms : Value} (h : PtIn w p ms) (hM : Mod [] w w') : PtIn w' p ms := ⟨h.st, h.sent, h.len, h.dig, h.rd.mod hM (by simp), h.body, h.tag⟩
theorem PtIn.new {w w' : World} {p : Pt} {ms ms' : Value} (h : PtIn w p ms) (hr : Rd w' 2 ms' p.mbs.length (p.mbs.flatMap mbC)) : PtIn w' p ms' := ⟨h.st, h.sent, h.len, h.dig, hr, h.body, h.tag⟩
end Go.Proofs.YthnlmmkhehphiaaDoor
