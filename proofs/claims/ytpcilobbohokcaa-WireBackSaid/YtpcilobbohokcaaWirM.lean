/-
  wire: a message that comes in.
-/
import Derived.Test.YtpcilobbohokcaaWirQ
import Derived.Test.YtpcilobbohokcaaRd
set_option linter.unusedSimpArgs false
set_option linter.unusedVariables false
namespace Go.Proofs.Ytpcilobbohokcaa
open Go Go.Wk Go.RowKit
attribute [local irreducible] go Hold
open Go.Lib
instance : Inhabited Mb := ⟨(0, [])⟩
def I64 (v : Int) : Prop := -9223372036854775808 ≤ v ∧ v ≤ 9223372036854775807
/-- What is known of members that come in. -/
structure MbsIn (w : World) (sa : Value) (l : List Mb) : Prop where
  rd : Rd w 2 sa l.length (l.flatMap mbC)
  len : l.length ≤ 9223372036854775807
  dig : ∀ x ∈ l, x.2.length ≤ maxLen
  org : ∀ x ∈ l, I64 x.1
/-- What is known of a message that comes in. -/
structure MsgIn (w : World) (m : Msg) (sa : Value) : Prop where
  kind : ∃ k : Nat, m.k = k ∧ k < 256
  t1 : I64 m.tx.1
  t2 : I64 m.tx.2.1
  t3 : I64 m.tx.2.2
  aud : I64 m.aud
  mbs : MbsIn w sa m.mbs
  body : m.body.length ≤ maxLen
  tag : m.tag.length ≤ maxLen
theorem byL (a : ByteArray) : (⟨a.data.toList.toArray⟩ : ByteArray) = a := by cases a; rw [Array.toArray_toList]
section
variable {H : Type} {enc : TypeId × Value → H} {w : World} {base : Nat} {spare : Nat → Bool} {held : Bool}
theorem cells2 {cs : List Value} (hl : cs.length = 2) : ∃ k0 k1, cs = [k0, k1] := by
  match cs, hl with
  | [k0, k1], _ => exact ⟨_, _, rfl⟩
theorem cells3 {cs : List Value} (hl : cs.length = 3) : ∃ k0 k1 k2, cs = [k0, k1, k2] := by
  match cs, hl with
  | [k0, k1, k2], _ => exact ⟨_, _, _, rfl⟩
theorem cells9 {cs : List Value} (hl : cs.length = 9) : ∃ k0 k1 k2 k3 k4 k5 k6 k7 k8, cs = [k0, k1, k2, k3, k4, k5, k6, k7, k8] := by
  match cs, hl with
  | [k0, k1, k2, k3, k4, k5, k6, k7, k8], _ => exact ⟨_, _, _, _, _, _, _, _, _, rfl⟩
theorem tx_el : ∀ n cs y, DataW.trod enc Try.prog w base spare held n 23 cs = some y → ∃ a : Tx, cs = txC a ∧ I64 a.1 ∧ I64 a.2.1 ∧ I64 a.2.2 := by
  intro n cs y h
  obtain ⟨hl, hf⟩ := el_field Try.underlying23 h
  rw [show Try.prog.cellsOf 23 = 3 from by kernel_rfl] at hl
  obtain ⟨m0, z0, e0⟩ := hf 0 _ rfl
  obtain ⟨m1, z1, e1⟩ := hf 1 _ rfl
  obtain ⟨m2, z2, e2⟩ := hf 2 _ rfl
  obtain ⟨a0, f0, _, g0⟩ := DataW.trod_int Try.underlying3 e0
  obtain ⟨a1, f1, _, g1⟩ := DataW.trod_int Try.underlying3 e1
  obtain ⟨a2, f2, _, g2⟩ := DataW.trod_int Try.underlying3 e2
  have f0 : List.take (Try.prog.cellsOf 3) (List.drop 0 cs) = _ := f0
  have f1 : List.take (Try.prog.cellsOf 3) (List.drop 1 cs) = _ := f1
  have f2 : List.take (Try.prog.cellsOf 3) (List.drop 2 cs) = _ := f2
  have c3 : Try.prog.cellsOf 3 = 1 := by kernel_rfl
  rw [c3] at f0 f1 f2
  obtain ⟨k0, k1, k2, rfl⟩ := cells3 hl
  clear e0 e1 e2 hf h c3
  simp only [List.drop_succ_cons, List.drop_zero, List.take_succ_cons, List.take_zero, List.cons.injEq, and_true] at f0 f1 f2
  exact ⟨(a0, a1, a2), by rw [f0, f1, f2]; rfl, wf_i64 g0, wf_i64 g1, wf_i64 g2⟩
theorem mb_el : ∀ n cs y, DataW.trod enc Try.prog w base spare held n 59 cs = some y → ∃ a : Mb, cs = mbC a ∧ (I64 a.1 ∧ a.2.length ≤ maxLen) := by
  intro n cs y h
  obtain ⟨hl, hf⟩ := el_field Try.underlying59 h
  rw [show Try.prog.cellsOf 59 = 2 from by kernel_rfl] at hl
  obtain ⟨m0, z0, e0⟩ := hf 0 _ rfl
  obtain ⟨m1, z1, e1⟩ := hf 1 _ rfl
  obtain ⟨a0, f0, _, g0⟩ := DataW.trod_int Try.underlying3 e0
  obtain ⟨a1, f1, _, g1⟩ := DataW.trod_string Try.underlying9 e1
  have f0 : List.take (Try.prog.cellsOf 3) (List.drop 0 cs) = _ := f0
  have f1 : List.take (Try.prog.cellsOf 9) (List.drop 1 cs) = _ := f1
  have c3 : Try.prog.cellsOf 3 = 1 := by kernel_rfl
  have c9 : Try.prog.cellsOf 9 = 1 := by kernel_rfl
  rw [c3] at f0
  rw [c9] at f1
  obtain ⟨k0, k1, rfl⟩ := cells2 hl
  clear e0 e1 hf h c3 c9
  simp only [List.drop_succ_cons, List.drop_zero, List.take_succ_cons, List.take_zero, List.cons.injEq, and_true] at f0 f1
  refine ⟨(a0, a1.data.toList), ?_, wf_i64 g0, ?_⟩
  · show _ = [Value.int .i64 a0, Value.string ⟨a1.data.toList.toArray⟩]
    rw [byL, f0, f1]
  · show a1.data.toList.length ≤ maxLen
    rw [Array.length_toList]
    exact g1
theorem mbs_in {n : Nat} {cs : List Value} {y : DataW H × List MemPlace} (e3 : DataW.trod enc Try.prog w base spare held n 24 cs = some y) : ∃ (sa : Value) (l : List Mb), cs = [sa] ∧ MbsIn w sa l := by
  obtain ⟨aa, al, ac, f3⟩ : ∃ a l c, cs = [Value.slice a l c] := by
    rcases Go.Deep.open_slice Try.underlying24 e3 with ⟨h0, _⟩ | ⟨a, len, cap, m, n, D, Pl, h0, _⟩
    · exact ⟨_, _, _, h0⟩
    · exact ⟨_, _, _, h0⟩
  rw [f3] at e3
  obtain ⟨l, hr, hll, hg⟩ := rd_open mbC 2 mbC_len (by decide) (a0 := aa) (len0 := al) (cap0 := ac) Try.underlying24 (by kernel_rfl) e3 mb_el
  exact ⟨.slice aa al ac, l, f3, ⟨hr, hll, fun x hx => (hg x hx).2, fun x hx => (hg x hx).1⟩⟩
set_option maxHeartbeats 2000000 in
theorem msg_el : ∀ n cs y, DataW.trod enc Try.prog w base spare held n 42 cs = some y → ∃ (m : Msg) (sa : Value), cs = msgC m sa ∧ MsgIn w m sa := by
  intro n cs y h
  obtain ⟨hl, hf⟩ := el_field Try.underlying42 h
  rw [show Try.prog.cellsOf 42 = 9 from by kernel_rfl] at hl
  obtain ⟨m0, z0, e0⟩ := hf 0 _ rfl
  obtain ⟨m1, z1, e1⟩ := hf 1 _ rfl
  obtain ⟨m2, z2, e2⟩ := hf 2 _ rfl
  obtain ⟨m3, z3, e3⟩ := hf 3 _ rfl
  obtain ⟨m4, z4, e4⟩ := hf 4 _ rfl
  obtain ⟨m5, z5, e5⟩ := hf 5 _ rfl
  obtain ⟨m6, z6, e6⟩ := hf 6 _ rfl
  obtain ⟨a0, f0, _, g0⟩ := DataW.trod_int Try.underlying5 e0
  obtain ⟨a1, f1, t1, t2, t3⟩ := tx_el _ _ _ e1
  obtain ⟨a2, f2, _, g2⟩ := DataW.trod_int Try.underlying3 e2
  obtain ⟨sa, l, f3, hm⟩ := mbs_in e3
  obtain ⟨a4, f4, _, g4⟩ := DataW.trod_string Try.underlying9 e4
  obtain ⟨a5, f5, _⟩ := DataW.trod_bool Try.underlying4 e5
  obtain ⟨a6, f6, _, g6⟩ := DataW.trod_string Try.underlying9 e6
  have f0 : List.take (Try.prog.cellsOf 5) (List.drop 0 cs) = _ := f0
  have f1 : List.take (Try.prog.cellsOf 23) (List.drop 1 cs) = _ := f1
  have f2 : List.take (Try.prog.cellsOf 3) (List.drop 4 cs) = _ := f2
  have f3 : List.take (Try.prog.cellsOf 24) (List.drop 5 cs) = _ := f3
  have f4 : List.take (Try.prog.cellsOf 9) (List.drop 6 cs) = _ := f4
  have f5 : List.take (Try.prog.cellsOf 4) (List.drop 7 cs) = _ := f5
  have f6 : List.take (Try.prog.cellsOf 9) (List.drop 8 cs) = _ := f6
  rw [show Try.prog.cellsOf 5 = 1 from by kernel_rfl] at f0
  rw [show Try.prog.cellsOf 23 = 3 from by kernel_rfl] at f1
  rw [show Try.prog.cellsOf 3 = 1 from by kernel_rfl] at f2
  rw [show Try.prog.cellsOf 24 = 1 from by kernel_rfl] at f3
  rw [show Try.prog.cellsOf 9 = 1 from by kernel_rfl] at f4 f6
  rw [show Try.prog.cellsOf 4 = 1 from by kernel_rfl] at f5
  obtain ⟨k0, k1, k2, k3, k4, k5, k6, k7, k8, rfl⟩ := cells9 hl
  clear e0 e1 e2 e3 e4 e5 e6 hf h
  unfold txC at f1
  simp only [List.drop_succ_cons, List.drop_zero, List.take_succ_cons, List.take_zero, List.cons.injEq, and_true] at f0 f1 f2 f3 f4 f5 f6
  have q0 := wf_u8 g0
  refine ⟨⟨((a0.toNat : Nat) : Int), a1, a2, l, a4.data.toList, a5, a6.data.toList⟩, sa, ?_, ⟨⟨a0.toNat, rfl, by omega⟩, t1, t2, t3, wf_i64 g2, hm, ?_, ?_⟩⟩
  · have e0 : ((a0.toNat : Nat) : Int) = a0 := Int.toNat_of_nonneg q0.1
    unfold msgC
    simp only
    rw [e0, byL, byL, f0, f1.1, f1.2.1, f1.2.2, f2, f3, f4, f5, f6]
  · show a4.data.toList.length ≤ maxLen
    rw [Array.length_toList]
    exact g4
  · show a6.data.toList.length ≤ maxLen
    rw [Array.length_toList]
    exact g6
end
end Go.Proofs.Ytpcilobbohokcaa
