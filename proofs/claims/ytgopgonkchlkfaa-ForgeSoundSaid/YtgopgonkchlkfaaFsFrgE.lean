/-
  A row of steps that comes in.
-/
import Derived.Test.YtgopgonkchlkfaaFsFrg1
import Derived.Test.YtgopgonkchlkfaaFsRd
set_option linter.unusedSimpArgs false
set_option linter.unusedVariables false
set_option maxRecDepth 20000
namespace Go.Proofs.Ytgopgonkchlkfaa
open Go Go.Wk Go.RowKit
attribute [local irreducible] go Hold
instance : Inhabited Stp := ⟨⟨0, 0, 0, 0, 0, [], [], .slice none 0 0⟩⟩
theorem seven {cs : List Value} (hl : cs.length = 7) : ∃ k0 k1 k2 k3 k4 k5 k6, cs = [k0, k1, k2, k3, k4, k5, k6] := by
  match cs, hl with
  | [k0, k1, k2, k3, k4, k5, k6], _ => exact ⟨_, _, _, _, _, _, _, rfl⟩
theorem stp_el {H : Type} {enc : TypeId × Value → H} {w : World} {base : Nat} {spare : Nat → Bool} {held : Bool} : ∀ n cs y, DataW.trod enc Try.prog w base spare held n 71 cs = some y → ∃ a : Stp, cs = stpC a ∧ StpIn w a := by
  intro n cs y h
  obtain ⟨hl, hf⟩ := el_field Try.underlying71 h
  rw [show Try.prog.cellsOf 71 = 7 from by kernel_rfl] at hl
  obtain ⟨m0, z0, e0⟩ := hf 0 _ rfl
  obtain ⟨m1, z1, e1⟩ := hf 1 _ rfl
  obtain ⟨m2, z2, e2⟩ := hf 2 _ rfl
  obtain ⟨m3, z3, e3⟩ := hf 3 _ rfl
  obtain ⟨m4, z4, e4⟩ := hf 4 _ rfl
  obtain ⟨m5, z5, e5⟩ := hf 5 _ rfl
  obtain ⟨m6, z6, e6⟩ := hf 6 _ rfl
  obtain ⟨a0, f0, _, g0⟩ := DataW.trod_int Try.underlying5 e0
  obtain ⟨a1, f1, _, g1⟩ := DataW.trod_int Try.underlying3 e1
  obtain ⟨a2, f2, _, g2⟩ := DataW.trod_int Try.underlying3 e2
  obtain ⟨a3, f3, _, g3⟩ := DataW.trod_int Try.underlying3 e3
  obtain ⟨a4, f4, _, g4⟩ := DataW.trod_int Try.underlying3 e4
  obtain ⟨a5, f5, _, g5⟩ := DataW.trod_string Try.underlying9 e5
  obtain ⟨aa, al, ac, f6⟩ : ∃ a l c, List.take (Try.prog.cellsOf 69) (List.drop 6 cs) = [Value.slice a l c] := by
    rcases Go.Deep.open_slice Try.underlying69 e6 with ⟨h0, _⟩ | ⟨a, len, cap, m, n, D, Pl, h0, _⟩
    · exact ⟨_, _, _, h0⟩
    · exact ⟨_, _, _, h0⟩
  have e6 : DataW.trod enc Try.prog w base spare held m6 69 (List.take (Try.prog.cellsOf 69) (List.drop 6 cs)) = some z6 := e6
  rw [f6] at e6
  obtain ⟨l, hr, hll, hg⟩ := rd_open (fun z => [Value.int .i64 z]) 1 (fun _ => rfl) (by decide) (a0 := aa) (len0 := al) (cap0 := ac) Try.underlying69 (by kernel_rfl) e6 (el_int Try.underlying3)
  rw [flat1] at hr
  have c5 : Try.prog.cellsOf 5 = 1 := by kernel_rfl
  have c3 : Try.prog.cellsOf 3 = 1 := by kernel_rfl
  have c9 : Try.prog.cellsOf 9 = 1 := by kernel_rfl
  have c6 : Try.prog.cellsOf 69 = 1 := by kernel_rfl
  have f0 : List.take (Try.prog.cellsOf 5) (List.drop 0 cs) = _ := f0
  have f1 : List.take (Try.prog.cellsOf 3) (List.drop 1 cs) = _ := f1
  have f2 : List.take (Try.prog.cellsOf 3) (List.drop 2 cs) = _ := f2
  have f3 : List.take (Try.prog.cellsOf 3) (List.drop 3 cs) = _ := f3
  have f4 : List.take (Try.prog.cellsOf 3) (List.drop 4 cs) = _ := f4
  have f5 : List.take (Try.prog.cellsOf 9) (List.drop 5 cs) = _ := f5
  rw [c5] at f0
  rw [c3] at f1 f2 f3 f4
  rw [c9] at f5
  rw [c6] at f6
  obtain ⟨k0, k1, k2, k3, k4, k5, k6, rfl⟩ : ∃ k0 k1 k2 k3 k4 k5 k6, cs = [k0, k1, k2, k3, k4, k5, k6] := seven hl
  clear e0 e1 e2 e3 e4 e5 e6 hf h c5 c3 c9 c6
  simp only [List.drop_succ_cons, List.drop_zero, List.take_succ_cons, List.take_zero, List.cons.injEq, and_true] at f0 f1 f2 f3 f4 f5 f6
  have q0 := wf_u8 g0
  refine ⟨⟨a0.toNat, a1, a2, a3, a4, a5.data.toList, l, .slice aa al ac⟩, ?_, ⟨by simp only; omega, wf_i64 g1, wf_i64 g2, wf_i64 g3, wf_i64 g4, ?_, hll, fun v hv => wf_i64 (hg v hv), ?_⟩⟩
  · have e0 : ((a0.toNat : Nat) : Int) = a0 := Int.toNat_of_nonneg q0.1
    have e5 : (⟨a5.data.toList.toArray⟩ : ByteArray) = a5 := by cases a5; rw [Array.toArray_toList]
    show _ = [Value.int .u8 ((a0.toNat : Nat) : Int), _, _, _, _, Value.string ⟨a5.data.toList.toArray⟩, _]
    rw [e0, e5, f0, f1, f2, f3, f4, f5, f6]
  · show a5.data.toList.length ≤ maxLen
    rw [Array.length_toList]
    exact g5
  · have := hr.slice
    obtain ⟨a', c', e⟩ := this
    rw [Value.slice.injEq] at e
    obtain ⟨-, rfl, -⟩ := e
    exact hr
/-- A row of strings that comes in, as lists of bytes. -/
theorem strB (z : ByteArray) : Value.string z = strV z.data.toList := by cases z; simp [strV]
theorem rdB {w : World} {v : Value} {l : List ByteArray} (h : Rd w 1 v l.length (l.map fun z => Value.string z)) : Rd w 1 v (l.map fun z => z.data.toList).length ((l.map fun z => z.data.toList).map strV) := by
  rw [List.length_map, List.map_map]
  have : (strV ∘ fun z : ByteArray => z.data.toList) = fun z => Value.string z := funext fun z => (strB z).symm
  rw [this]; exact h
theorem smB {l : List ByteArray} (h : ∀ z ∈ l, z.size ≤ maxLen) : ∀ s ∈ l.map (fun z => z.data.toList), s.length ≤ maxLen := by
  intro s hs
  obtain ⟨z, hz, rfl⟩ := List.mem_map.1 hs
  rw [Array.length_toList]
  exact h z hz
end Go.Proofs.Ytgopgonkchlkfaa
