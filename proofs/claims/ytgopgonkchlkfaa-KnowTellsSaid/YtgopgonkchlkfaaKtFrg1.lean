/-
  Steps: what each comes to (walks).
-/
import Derived.Test.YtgopgonkchlkfaaKtB5
import Derived.Test.YtgopgonkchlkfaaKtB1
set_option linter.unusedSimpArgs false
set_option linter.unusedVariables false
set_option maxRecDepth 20000
namespace Go.Proofs.Ytgopgonkchlkfaa
open Go Go.Wk Go.RowKit
attribute [local irreducible] go Hold
open Go.Lib
/-- A step; the slice that its row lies in. -/
structure Stp where
  d : Nat
  a : Int
  b : Int
  c : Int
  n : Int
  text : List UInt8
  list : List Int
  sv : Value
def stpC (x : Stp) : List Value := [.int .u8 x.d, .int .i64 x.a, .int .i64 x.b, .int .i64 x.c, .int .i64 x.n, .string ⟨x.text.toArray⟩, x.sv]
/-- A step that may come in. -/
structure StpIn (w : World) (x : Stp) : Prop where
  d : x.d < 256
  a : -9223372036854775808 ≤ x.a ∧ x.a ≤ 9223372036854775807
  b : -9223372036854775808 ≤ x.b ∧ x.b ≤ 9223372036854775807
  c : -9223372036854775808 ≤ x.c ∧ x.c ≤ 9223372036854775807
  n : -9223372036854775808 ≤ x.n ∧ x.n ≤ 9223372036854775807
  text : x.text.length ≤ maxLen
  len : x.list.length ≤ 9223372036854775807
  list : ∀ v ∈ x.list, -9223372036854775808 ≤ v ∧ v ≤ 9223372036854775807
  rd : Rd w 1 x.sv x.list.length (x.list.map (Value.int .i64))
theorem StpIn.mod {w w' : World} {x : Stp} (h : StpIn w x) {S : List Nat} (hm : Mod S w w') (hS : ∀ b, blkOf x.sv = some b → b ∉ S) : StpIn w' x := ⟨h.d, h.a, h.b, h.c, h.n, h.text, h.len, h.list, h.rd.mod hm hS⟩
/-- Steps that are being done. -/
structure RunOk (w : World) (rp : Nat) (sv lv : Value) (seen l : List (List UInt8)) : Prop where
  hp : w.heap[rp]? = some (.cells #[sv, lv] 121 (0, 0))
  rs : Rd w 1 sv seen.length (seen.map strV)
  rl : Rd w 1 lv l.length (l.map strV)
  hs : ∀ s ∈ seen, s.length ≤ maxLen
  ls : seen.length ≤ 9223372036854775807
  hl : ∀ s ∈ l, checkS s = 0
  ll : l.length ≤ 100000
theorem RunOk.mod {w w' : World} {rp : Nat} {sv lv : Value} {seen l : List (List UInt8)} (h : RunOk w rp sv lv seen l) (hm : Mod [] w w') : RunOk w' rp sv lv seen l :=
  ⟨hm.get h.hp (by simp), h.rs.mod hm (by simp), h.rl.mod hm (by simp), h.hs, h.ls, h.hl, h.ll⟩
theorem RunOk.len {w : World} {rp : Nat} {sv lv : Value} {seen l : List (List UInt8)} (h : RunOk w rp sv lv seen l) {s : List UInt8} (hs : s ∈ l) : s.length ≤ 16384 := (check0 (h.hl s hs)).2.2.1
/-- What is made, or that it is too long. -/
def mk5 (p : List UInt8 × Int) : List UInt8 × Int := if p.2 = 0 then p else ([], 5)
theorem st1 {x : Stp} : (stpC x).toArray[1]? = some (.int .i64 x.a) := rfl
/-- Steps that are being done, and a step that lies boxed. -/
structure FX (w : World) (bx rp : Nat) (sv lv : Value) (seen l : List (List UInt8)) (x : Stp) : Prop where
  run : RunOk w rp sv lv seen l
  inp : StpIn w x
  bx : w.heap[bx]? = some (.cells (stpC x).toArray 71 (0, 0))
theorem FX.mod {w w' : World} {bx rp : Nat} {sv lv : Value} {seen l : List (List UInt8)} {x : Stp} (h : FX w bx rp sv lv seen l x) (hm : Mod [] w w') : FX w' bx rp sv lv seen l x := ⟨h.run.mod hm, h.inp.mod hm (by simp), hm.get h.bx (by simp)⟩
section
variable {w : World} {bx rp : Nat} {sv lv : Value} {seen l : List (List UInt8)} {x : Stp}
theorem FX.ca (h : FX w bx rp sv lv seen l x) : w.cell? ⟨bx, 1, none⟩ = some (.int .i64 x.a) := by rw [cellOf h.bx]; rfl
theorem FX.cb (h : FX w bx rp sv lv seen l x) : w.cell? ⟨bx, 2, none⟩ = some (.int .i64 x.b) := by rw [cellOf h.bx]; rfl
theorem FX.cc (h : FX w bx rp sv lv seen l x) : w.cell? ⟨bx, 3, none⟩ = some (.int .i64 x.c) := by rw [cellOf h.bx]; rfl
theorem FX.cl (h : FX w bx rp sv lv seen l x) : w.cell? ⟨bx, 6, none⟩ = some x.sv := by rw [cellOf h.bx]; rfl
theorem FX.r0 (h : FX w bx rp sv lv seen l x) : w.cell? ⟨rp, 0, none⟩ = some sv := by rw [cellOf h.run.hp]; rfl
theorem FX.r1 (h : FX w bx rp sv lv seen l x) : w.cell? ⟨rp, 1, none⟩ = some lv := by rw [cellOf h.run.hp]; rfl
end
end Go.Proofs.Ytgopgonkchlkfaa
