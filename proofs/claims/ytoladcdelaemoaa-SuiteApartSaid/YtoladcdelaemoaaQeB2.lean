/-
  strings.IndexByte, strings.ContainsRune (walks). Names (walks).
-/
import Derived.Test.YtoladcdelaemoaaQeB1
import Derived.Lib.Strings
import Derived.Lib.Slices
import Derived.Lib.Walk
import Derived.Lib.Bytealg
import Derived.Lib.IndexLaws
import Derived.Laws.RangeString
import Derived.Laws.RangeAny
import Derived.Lib.IndexAny
set_option linter.unusedSimpArgs false
set_option linter.unusedVariables false
set_option maxRecDepth 20000
namespace Go.Proofs.Ytoladcdelaemoaa
open Go Go.Wk Go.RowKit
attribute [local irreducible] go Hold
set_option maxHeartbeats 1000000 in
set_option maxRecDepth 100000 in
theorem slIndexByte (s : ByteArray) (c : Int) (w : World) :
    Calls Try.prog 67 #[.string s, .int .u8 c] w fun e w' => e = .returned (.int .i64 (Lib.indexByte s.data.toList c.toNat.toUInt8)) ∧ w' = w := by
  go_enter Try.func67, Try.ntmps67
  go_wp2
  rw [run_callFunc_extern Try.func80 (by kernel_rfl) (by kernel_rfl) (by kernel_rfl) (e := Extern.BytealgIndexByte.indexByte) (by kernel_rfl), Lib.run_indexByteString]
  simp only [Result.andThen]
  rw [Oper.upon_value]
  go_wp2
  go_ret
  exact ⟨rfl, rfl⟩
theorem sIndexByte_cps (s : List UInt8) (c : UInt8) (w : World) (R : Ending → World → Prop) (hR : R (.returned (.int .i64 (Lib.indexByte s c))) w) :
    Calls Try.prog 48 #[.string ⟨s.toArray⟩, .int .u8 c.toNat] w R := by
  refine calls_go 4000 okT Try.func48 rfl (rs := [.tmp 4]) rfl Try.ntmps48 (args := [.string ⟨s.toArray⟩, .int .u8 c.toNat]) ?_
  simp (maxSteps := 1000000) (disch := first | omega | (simp only [sizeAlloc, sizeDrew, sizeSet, sizePut] <;> omega) | fail) only [GS, TT_eq, TTl, Nat.reduceAdd, Nat.reduceMul, Nat.reduceSub, Nat.reduceDiv, Nat.reduceMod, Nat.reducePow, Nat.reduceEqDiff, ↓reduceIte, reduceCtorEq, Int.reduceToNat, Int.reduceAdd, Int.reduceSub, Int.reduceMul]
  refine ⟨fok67, Calls.mono (slIndexByte _ _ _) ?_⟩
  rintro e w' ⟨rfl, rfl⟩
  refine .inl ⟨_, rfl, hold_ops okT (rs := [.tmp 4]) rfl ?_⟩
  have e1 : c.toNat.toUInt8 = c := by simp
  simp (maxSteps := 1000000) (disch := first | omega | (simp only [sizeAlloc, sizeDrew, sizeSet, sizePut] <;> omega) | fail) only [GS, TT_eq, TTl, Nat.reduceAdd, Nat.reduceMul, Nat.reduceSub, Nat.reduceDiv, Nat.reduceMod, Nat.reducePow, Nat.reduceEqDiff, ↓reduceIte, reduceCtorEq, Int.reduceToNat, Int.reduceAdd, Int.reduceSub, Int.reduceMul, e1]
  exact hR
theorem vRune_cps (r : Nat) (hr : Utf8.valid r = true) (w : World) (R : Ending → World → Prop) (hR : R (.returned (.bool true)) w) :
    Calls Try.prog 94 #[.int .i32 r] w R := by
  have h : r < 55296 ∨ (57343 < r ∧ r ≤ 1114111) := by simp [Utf8.valid] at hr; omega
  refine calls_go 4000 okT Try.func94 rfl (rs := [.tmp 2]) rfl Try.ntmps94 (args := [.int .i32 r]) ?_
  rcases h with h | ⟨h1, h2⟩
  · simp (maxSteps := 1000000) (disch := first | omega | (simp only [sizeAlloc, sizeDrew, sizeSet, sizePut] <;> omega) | fail) only [GS, TT_eq, TTl, Nat.reduceAdd, Nat.reduceMul, Nat.reduceSub, Nat.reduceDiv, Nat.reduceMod, Nat.reducePow, Nat.reduceEqDiff, ↓reduceIte, reduceCtorEq, Int.reduceToNat, Int.reduceAdd, Int.reduceSub, Int.reduceMul]
    exact hR
  · simp (maxSteps := 1000000) (disch := first | omega | (simp only [sizeAlloc, sizeDrew, sizeSet, sizePut] <;> omega) | fail) only [GS, TT_eq, TTl, Nat.reduceAdd, Nat.reduceMul, Nat.reduceSub, Nat.reduceDiv, Nat.reduceMod, Nat.reducePow, Nat.reduceEqDiff, ↓reduceIte, reduceCtorEq, Int.reduceToNat, Int.reduceAdd, Int.reduceSub, Int.reduceMul]
    exact hR
theorem decode_val (s : ByteArray) (i : Nat) : Utf8.valid (Utf8.decode s i).1 = true := by
  unfold Utf8.decode
  simp only
  have hv : Utf8.valid ((65533 : Nat) : Int) = true := by decide
  split
  · rename_i h; simp only [Nat.add_zero] at h; simp [Utf8.valid]; omega
  · split
    · split
      · rename_i h; simp [Utf8.valid]; omega
      · exact hv
    · split
      · split
        · rename_i h; simp only [Bool.and_eq_true] at h; exact h.2
        · exact hv
      · split
        · split
          · rename_i h; simp only [Bool.and_eq_true] at h; exact h.2
          · exact hv
        · exact hv
theorem indexByte_high {s : List UInt8} (hA : ∀ b ∈ s, b.toNat < 128) {c : UInt8} (hc : 128 ≤ c.toNat) : Lib.indexByte s c = -1 := by
  induction s with
  | nil => rfl
  | cons b s ih =>
    have hb := hA b (List.mem_cons_self)
    have ih := ih (fun x hx => hA x (List.mem_cons_of_mem _ hx))
    have hne : (b == c) = false := by
      rw [beq_eq_false_iff_ne]; intro e; subst e; omega
    simp [Lib.indexByte, ih, hne]
/-- Where a rune stands in a text of bytes below 128. -/
def ixR (s : List UInt8) (r : Nat) : Int := if r < 128 then Lib.indexByte s (UInt8.ofNat r) else -1
set_option maxRecDepth 20000 in
set_option maxHeartbeats 4000000 in
theorem sIndexRune_cps (s : List UInt8) (hA : ∀ b ∈ s, b.toNat < 128) (hl : 4 ≤ s.length) (hl2 : s.length ≤ 1000) (r : Nat) (hr : Utf8.valid r = true) (w : World) (R : Ending → World → Prop) (hR : ∀ w', Mod [] w w' → R (.returned (.int .i64 (ixR s r))) w') :
    Calls Try.prog 81 #[.string ⟨s.toArray⟩, .int .i32 r] w R := by
  have hr1 : r ≤ 1114111 := by simp [Utf8.valid] at hr; omega
  unfold ixR at hR
  by_cases h1 : r < 128
  · rw [if_pos h1] at hR
    refine calls_go 4000 okT Try.func81 rfl (rs := [.tmp 4]) rfl Try.ntmps81 (args := [.string ⟨s.toArray⟩, .int .i32 r]) ?_
    simp (maxSteps := 1000000) (disch := first | omega | (simp only [sizeAlloc, sizeDrew, sizeSet, sizePut] <;> omega) | fail) only [GS, TT_eq, TTl, Nat.reduceAdd, Nat.reduceMul, Nat.reduceSub, Nat.reduceDiv, Nat.reduceMod, Nat.reducePow, Nat.reduceEqDiff, ↓reduceIte, reduceCtorEq, Int.reduceToNat, Int.reduceAdd, Int.reduceSub, Int.reduceMul]
    have hc : (r : Int) = ((UInt8.ofNat r).toNat : Int) := by rw [UInt8.toNat_ofNat']; omega
    rw [hc]
    refine ⟨fok48, sIndexByte_cps _ _ _ _ (.inl ⟨_, rfl, hold_ops okT (rs := [.tmp 4]) rfl ?_⟩)⟩
    simp (maxSteps := 1000000) (disch := first | omega | (simp only [sizeAlloc, sizeDrew, sizeSet, sizePut] <;> omega) | fail) only [GS, TT_eq, TTl, Nat.reduceAdd, Nat.reduceMul, Nat.reduceSub, Nat.reduceDiv, Nat.reduceMod, Nat.reducePow, Nat.reduceEqDiff, ↓reduceIte, reduceCtorEq, Int.reduceToNat, Int.reduceAdd, Int.reduceSub, Int.reduceMul]
    exact hR _ (Mod.refl _ _)
  · rw [if_neg h1] at hR
    by_cases h2 : r = 65533
    · subst h2
      refine calls_go 4000 okT Try.func81 rfl (rs := [.tmp 4]) rfl Try.ntmps81 (args := [.string ⟨s.toArray⟩, .int .i32 ((65533 : Nat) : Int)]) ?_
      simp (maxSteps := 1000000) (disch := first | omega | (simp only [sizeAlloc, sizeDrew, sizeSet, sizePut] <;> omega) | fail) only [GS, TT_eq, TTl, Nat.reduceAdd, Nat.reduceMul, Nat.reduceSub, Nat.reduceDiv, Nat.reduceMod, Nat.reducePow, Nat.reduceEqDiff, ↓reduceIte, reduceCtorEq, Int.reduceToNat, Int.reduceAdd, Int.reduceSub, Int.reduceMul]
      refine hold_range okT rfl rfl rfl (hold_ops okT (rs := [.tmp 4]) rfl ?_)
      simp (maxSteps := 1000000) (disch := first | omega | (simp only [sizeAlloc, sizeDrew, sizeSet, sizePut] <;> omega) | fail) only [GS, TT_eq, TTl, Nat.reduceAdd, Nat.reduceMul, Nat.reduceSub, Nat.reduceDiv, Nat.reduceMod, Nat.reducePow, Nat.reduceEqDiff, ↓reduceIte, reduceCtorEq, Int.reduceToNat, Int.reduceAdd, Int.reduceSub, Int.reduceMul]
      refine hold_loop okT (rs := [.tmp 4]) rfl [] [4, 5, 6, 176, 177, 178, 179, 180, 181, 182] (fun vs w' => vs = [] ∧ ∃ pos : Nat, w'.heap[w.heap.size]? = some (.stringIter ⟨s.toArray⟩ pos) ∧ Mod [] w w') (fun _ w' => match w'.heap[w.heap.size]? with | some (.stringIter _ p) => s.length - p | _ => 0) (by kernel_rfl)
        ⟨rfl, 0, heapNew, (Mod.refl _ _).alloc _⟩ ?_
      rintro vs w1 J ⟨rfl, pos, hit, hM⟩
      simp (maxSteps := 1000000) (disch := first | omega | (simp only [sizeAlloc, sizeDrew, sizeSet, sizePut] <;> omega) | fail) only [GS, TT_eq, TTl, Nat.reduceAdd, Nat.reduceMul, Nat.reduceSub, Nat.reduceDiv, Nat.reduceMod, Nat.reducePow, Nat.reduceEqDiff, ↓reduceIte, reduceCtorEq, Int.reduceToNat, Int.reduceAdd, Int.reduceSub, Int.reduceMul]
      by_cases hp : pos < s.length
      · have hd := decode_ascii (⟨s.toArray⟩ : ByteArray) pos hp (hA _ (List.getElem_mem hp))
        refine hold_next rfl rfl hit hp ?_
        rw [hd]
        have hx : ((⟨s.toArray⟩ : ByteArray)[pos]'hp).toNat < 128 := hA _ (List.getElem_mem hp)
        generalize ((⟨s.toArray⟩ : ByteArray)[pos]'hp).toNat = x at hx hd ⊢
        refine hold_ops okT (rs := [.tmp 4]) rfl ?_
        simp (maxSteps := 1000000) (disch := first | omega | (simp only [sizeAlloc, sizeDrew, sizeSet, sizePut] <;> omega) | fail) only [GS, TT_eq, TTl, Nat.reduceAdd, Nat.reduceMul, Nat.reduceSub, Nat.reduceDiv, Nat.reduceMod, Nat.reducePow, Nat.reduceEqDiff, ↓reduceIte, reduceCtorEq, Int.reduceToNat, Int.reduceAdd, Int.reduceSub, Int.reduceMul]
        have hM2 := hM.put (l := w.heap.size) (.inr (Nat.le_refl _)) (.stringIter ⟨s.toArray⟩ (pos + 1))
        have hit2 : (w1.putObj w.heap.size (.stringIter ⟨s.toArray⟩ (pos + 1))).heap[w.heap.size]? = some (.stringIter ⟨s.toArray⟩ (pos + 1)) := by
          simp only [World.putObj, Array.getElem?_setIfInBounds]; rw [if_pos trivial, if_pos (ltOf hit)]
        refine ⟨⟨pos + 1, hit2, hM2⟩, ?_⟩
        rw [hit2, hit]
        show s.length - (pos + 1) < s.length - pos
        omega
      · refine hold_over rfl rfl hit hp ?_
        refine hold_ops okT (rs := [.tmp 4]) rfl ?_
        simp (maxSteps := 1000000) (disch := first | omega | (simp only [sizeAlloc, sizeDrew, sizeSet, sizePut] <;> omega) | fail) only [GS, TT_eq, TTl, Nat.reduceAdd, Nat.reduceMul, Nat.reduceSub, Nat.reduceDiv, Nat.reduceMod, Nat.reducePow, Nat.reduceEqDiff, ↓reduceIte, reduceCtorEq, Int.reduceToNat, Int.reduceAdd, Int.reduceSub, Int.reduceMul]
        exact hR _ hM
    · refine calls_go 4000 okT Try.func81 rfl (rs := [.tmp 4]) rfl Try.ntmps81 (args := [.string ⟨s.toArray⟩, .int .i32 r]) ?_
      simp (maxSteps := 1000000) (disch := first | omega | (simp only [sizeAlloc, sizeDrew, sizeSet, sizePut] <;> omega) | fail) only [GS, TT_eq, TTl, Nat.reduceAdd, Nat.reduceMul, Nat.reduceSub, Nat.reduceDiv, Nat.reduceMod, Nat.reducePow, Nat.reduceEqDiff, ↓reduceIte, reduceCtorEq, Int.reduceToNat, Int.reduceAdd, Int.reduceSub, Int.reduceMul]
      refine ⟨fok94, vRune_cps r hr _ _ (.inl ⟨_, rfl, hold_ops okT (rs := [.tmp 4]) rfl ?_⟩)⟩
      simp (maxSteps := 1000000) (disch := first | omega | (simp only [sizeAlloc, sizeDrew, sizeSet, sizePut] <;> omega) | fail) only [GS, TT_eq, TTl, Nat.reduceAdd, Nat.reduceMul, Nat.reduceSub, Nat.reduceDiv, Nat.reduceMod, Nat.reducePow, Nat.reduceEqDiff, ↓reduceIte, reduceCtorEq, Int.reduceToNat, Int.reduceAdd, Int.reduceSub, Int.reduceMul]
      refine hold_scope rfl (hold_code okT (rs := [.tmp 4]) rfl ?_)
      have hf := encode_facts (r : Int) hr (by omega)
      obtain ⟨l, he⟩ : ∃ l : List UInt8, Utf8.encode r = ⟨l.toArray⟩ := ⟨(Utf8.encode r).data.toList, by rw [Array.toArray_toList]⟩
      rw [he] at hf
      obtain ⟨g1, g2, g3⟩ := hf
      have hsz : (⟨l.toArray⟩ : ByteArray).size = l.length := rfl
      rw [hsz] at g1 g2
      obtain ⟨k, hk⟩ : ∃ k, l.length = k + 1 := ⟨l.length - 1, by omega⟩
      have hk1 : ((k + 1 : Nat) : Int) - 1 = (k : Int) := by omega
      have hg := g3 (by rw [hsz]; omega)
      have hlk : (l.getD k 0) = (⟨l.toArray⟩ : ByteArray)[(⟨l.toArray⟩ : ByteArray).size - 1]'(by rw [hsz]; omega) := by
        show _ = l[l.length - 1]
        rw [List.getD_eq_getElem?_getD, List.getElem?_eq_getElem (by omega)]; simp [hk]
      rw [← hlk] at hg
      have hsk : (s.getD k 0).toNat < 128 := by
        rw [List.getD_eq_getElem?_getD, List.getElem?_eq_getElem (by omega)]; exact hA _ (List.getElem_mem _)
      simp (maxSteps := 1000000) (disch := first | omega | (simp only [sizeAlloc, sizeDrew, sizeSet, sizePut] <;> omega) | fail) only [GS, TT_eq, TTl, Nat.reduceAdd, Nat.reduceMul, Nat.reduceSub, Nat.reduceDiv, Nat.reduceMod, Nat.reducePow, Nat.reduceEqDiff, ↓reduceIte, reduceCtorEq, Int.reduceToNat, Int.reduceAdd, Int.reduceSub, Int.reduceMul, he, hk, hk1]
      refine hold_loop okT (rs := [.tmp 4]) rfl [9] [4, 10, 11, 12, 23, 24, 25, 26, 27, 28, 29, 30, 31, 32, 33, 34, 35, 36, 37, 38, 39, 40, 41, 42, 43, 44, 45, 46, 47, 48, 49, 50, 51, 52, 53, 54, 55, 56, 57, 58, 59, 60, 61, 62, 63, 64, 65, 66, 67, 68, 69, 70, 71, 72, 73, 74, 75, 76, 77, 78, 79, 80, 81, 82, 83, 84, 85, 86, 87, 88, 89, 90, 91, 92, 93, 94, 95, 96, 97, 98] (fun vs w' => vs = [.int .i64 k] ∧ w' = w) (fun _ _ => 0) (by kernel_rfl) ⟨rfl, rfl⟩ ?_
      rintro vs w' J ⟨rfl, rfl⟩
      simp (maxSteps := 1000000) (disch := first | omega | (simp only [sizeAlloc, sizeDrew, sizeSet, sizePut] <;> omega) | fail) only [GS, TT_eq, TTl, Nat.reduceAdd, Nat.reduceMul, Nat.reduceSub, Nat.reduceDiv, Nat.reduceMod, Nat.reducePow, Nat.reduceEqDiff, ↓reduceIte, reduceCtorEq, Int.reduceToNat, Int.reduceAdd, Int.reduceSub, Int.reduceMul, hk, hk1]
      refine hold_scope rfl (hold_code okT (rs := [.tmp 4]) rfl ?_)
      simp (maxSteps := 1000000) (disch := first | omega | (simp only [sizeAlloc, sizeDrew, sizeSet, sizePut] <;> omega) | fail) only [GS, TT_eq, TTl, Nat.reduceAdd, Nat.reduceMul, Nat.reduceSub, Nat.reduceDiv, Nat.reduceMod, Nat.reducePow, Nat.reduceEqDiff, ↓reduceIte, reduceCtorEq, Int.reduceToNat, Int.reduceAdd, Int.reduceSub, Int.reduceMul, hk, hk1]
      refine ⟨by kernel_rfl, fun m => hold_code okT (rs := [.tmp 4]) rfl ?_⟩
      simp (maxSteps := 1000000) (disch := first | omega | (simp only [sizeAlloc, sizeDrew, sizeSet, sizePut] <;> omega) | fail) only [GS, TT_eq, TTl, Nat.reduceAdd, Nat.reduceMul, Nat.reduceSub, Nat.reduceDiv, Nat.reduceMod, Nat.reducePow, Nat.reduceEqDiff, ↓reduceIte, reduceCtorEq, Int.reduceToNat, Int.reduceAdd, Int.reduceSub, Int.reduceMul, hk, hk1]
      refine hold_draw okT (rs := [.tmp 4]) rfl [0, 0, 2, 7, 0, 0, 48, 127, 255] [0, 1, 2, 3, 4, 5, 6, 7, 8] (by kernel_rfl) (by kernel_rfl) ?_
      have hkt : ((k : Int) + 1).toNat = k + 1 := by omega
      simp (maxSteps := 1000000) (disch := first | omega | (simp only [sizeAlloc, sizeDrew, sizeSet, sizePut] <;> omega) | fail) only [GS, TT_eq, TTl, Nat.reduceAdd, Nat.reduceMul, Nat.reduceSub, Nat.reduceDiv, Nat.reduceMod, Nat.reducePow, Nat.reduceEqDiff, ↓reduceIte, reduceCtorEq, Int.reduceToNat, Int.reduceAdd, Int.reduceSub, Int.reduceMul, hk, hk1, hkt]
      refine ⟨fok48, sIndexByte_cps _ _ _ _ (.inl ⟨_, rfl, hold_dops okT (rs := [.tmp 4]) rfl ?_⟩)⟩
      have hdr : ∀ b ∈ List.drop (k + 1) s, b.toNat < 128 := fun b hb => hA b (List.mem_of_mem_drop hb)
      rw [indexByte_high hdr hg]
      simp (maxSteps := 1000000) (disch := first | omega | (simp only [sizeAlloc, sizeDrew, sizeSet, sizePut] <;> omega) | fail) only [GS, TT_eq, TTl, Nat.reduceAdd, Nat.reduceMul, Nat.reduceSub, Nat.reduceDiv, Nat.reduceMod, Nat.reducePow, Nat.reduceEqDiff, ↓reduceIte, reduceCtorEq, Int.reduceToNat, Int.reduceAdd, Int.reduceSub, Int.reduceMul, hk, hk1]
      exact hR _ (((Mod.refl _ _).drewN m).drewN 1)
end Go.Proofs.Ytoladcdelaemoaa
set_option linter.unusedSimpArgs false
set_option linter.unusedVariables false
set_option maxRecDepth 20000
namespace Go.Proofs.Ytoladcdelaemoaa
open Go Go.Wk Go.RowKit
attribute [local irreducible] go Hold
def AB : List UInt8 := [97, 98, 99, 100, 101, 102, 103, 104, 105, 106, 107, 108, 109, 110, 111, 112, 113, 114, 115, 116, 117, 118, 119, 120, 121, 122, 48, 49, 50, 51, 52, 53, 54, 55, 56, 57, 47, 46, 45]
/-- A byte that a name may hold. -/
def okB (b : UInt8) : Bool := (decide (97 ≤ b.toNat) && decide (b.toNat ≤ 122)) || (decide (48 ≤ b.toNat) && decide (b.toNat ≤ 57)) || decide (b.toNat = 47) || decide (b.toNat = 46) || decide (b.toNat = 45)
def nameS (s : List UInt8) : Bool := s.all okB && !s.isEmpty
theorem okB_iff {b : UInt8} : okB b = true ↔ ((97 ≤ b.toNat ∧ b.toNat ≤ 122) ∨ (48 ≤ b.toNat ∧ b.toNat ≤ 57) ∨ b.toNat = 47 ∨ b.toNat = 46 ∨ b.toNat = 45) := by
  simp [okB, or_assoc]
set_option maxRecDepth 100000 in
theorem ab_ok (b : UInt8) : AB.contains b = okB b := by
  have h : ∀ x : Fin 256, AB.contains (UInt8.ofNat x.val) = okB (UInt8.ofNat x.val) := by decide
  have := h ⟨b.toNat, b.toNat_lt⟩
  simpa using this
/-- A rune that a name may hold. -/
def okR (r : Nat) : Bool := decide (r < 128) && okB (UInt8.ofNat r)
theorem cRune_cps (r : Nat) (hr : Utf8.valid r = true) (w : World) (R : Ending → World → Prop) (hR : ∀ w', Mod [] w w' → R (.returned (.bool (okR r))) w') :
    Calls Try.prog 68 #[.string ⟨AB.toArray⟩, .int .i32 r] w R := by
  have hA : ∀ b ∈ AB, b.toNat < 128 := by decide
  have hi : okR r = decide (0 ≤ ixR AB r) := by
    unfold okR ixR
    by_cases h : r < 128
    · rw [if_pos h, ← Lib.contains_iff_indexByte, ab_ok]; simp [h]
    · rw [if_neg h]; simp [h]
  rw [hi] at hR
  generalize hx : ixR AB r = x at hR
  refine calls_go 4000 okT Try.func68 rfl (rs := [.tmp 4]) rfl Try.ntmps68 (args := [.string ⟨AB.toArray⟩, .int .i32 r]) ?_
  simp (maxSteps := 1000000) (disch := first | omega | (simp only [sizeAlloc, sizeDrew, sizeSet, sizePut] <;> omega) | fail) only [GS, TT_eq, TTl, Nat.reduceAdd, Nat.reduceMul, Nat.reduceSub, Nat.reduceDiv, Nat.reduceMod, Nat.reducePow, Nat.reduceEqDiff, ↓reduceIte, reduceCtorEq, Int.reduceToNat, Int.reduceAdd, Int.reduceSub, Int.reduceMul]
  refine ⟨fok81, sIndexRune_cps AB hA (by decide) (by decide) r hr _ _ fun w1 hM => .inl ⟨_, rfl, hold_ops okT (rs := [.tmp 4]) rfl ?_⟩⟩
  rw [hx]
  by_cases h0 : 0 ≤ x
  · have hb : decide (0 ≤ x) = true := by simp [h0]
    rw [hb] at hR
    simp (maxSteps := 1000000) (disch := first | omega | (simp only [sizeAlloc, sizeDrew, sizeSet, sizePut] <;> omega) | fail) only [GS, TT_eq, TTl, Nat.reduceAdd, Nat.reduceMul, Nat.reduceSub, Nat.reduceDiv, Nat.reduceMod, Nat.reducePow, Nat.reduceEqDiff, ↓reduceIte, reduceCtorEq, Int.reduceToNat, Int.reduceAdd, Int.reduceSub, Int.reduceMul]
    exact hR _ hM
  · have hb : decide (0 ≤ x) = false := by simp [h0]
    rw [hb] at hR
    simp (maxSteps := 1000000) (disch := first | omega | (simp only [sizeAlloc, sizeDrew, sizeSet, sizePut] <;> omega) | fail) only [GS, TT_eq, TTl, Nat.reduceAdd, Nat.reduceMul, Nat.reduceSub, Nat.reduceDiv, Nat.reduceMod, Nat.reducePow, Nat.reduceEqDiff, ↓reduceIte, reduceCtorEq, Int.reduceToNat, Int.reduceAdd, Int.reduceSub, Int.reduceMul]
    exact hR _ hM
set_option maxRecDepth 20000 in
set_option maxHeartbeats 4000000 in
theorem tNamed_cps (s : List UInt8) (hs : s.length ≤ maxLen) (w : World) (R : Ending → World → Prop) (hR : ∀ w', Mod [] w w' → R (.returned (.bool (nameS s))) w') :
    Calls Try.prog 50 #[.string ⟨s.toArray⟩] w R := by
  unfold maxLen at hs
  refine calls_go 4000 okT Try.func50 rfl (rs := [.tmp 2]) rfl Try.ntmps50 (args := [.string ⟨s.toArray⟩]) ?_
  simp (maxSteps := 1000000) (disch := first | omega | (simp only [sizeAlloc, sizeDrew, sizeSet, sizePut] <;> omega) | fail) only [GS, TT_eq, TTl, Nat.reduceAdd, Nat.reduceMul, Nat.reduceSub, Nat.reduceDiv, Nat.reduceMod, Nat.reducePow, Nat.reduceEqDiff, ↓reduceIte, reduceCtorEq, Int.reduceToNat, Int.reduceAdd, Int.reduceSub, Int.reduceMul]
  refine hold_range okT rfl rfl rfl (hold_ops okT (rs := [.tmp 2]) rfl ?_)
  simp (maxSteps := 1000000) (disch := first | omega | (simp only [sizeAlloc, sizeDrew, sizeSet, sizePut] <;> omega) | fail) only [GS, TT_eq, TTl, Nat.reduceAdd, Nat.reduceMul, Nat.reduceSub, Nat.reduceDiv, Nat.reduceMod, Nat.reducePow, Nat.reduceEqDiff, ↓reduceIte, reduceCtorEq, Int.reduceToNat, Int.reduceAdd, Int.reduceSub, Int.reduceMul]
  refine hold_loop okT (rs := [.tmp 2]) rfl [] [2, 4, 7, 8, 9, 10, 11, 12] (fun vs w' => vs = [] ∧ ∃ pos : Nat, pos ≤ s.length ∧ (s.take pos).all okB = true ∧ w'.heap[w.heap.size]? = some (.stringIter ⟨s.toArray⟩ pos) ∧ Mod [] w w') (fun _ w' => match w'.heap[w.heap.size]? with | some (.stringIter _ p) => s.length - p | _ => 0) (by kernel_rfl)
    ⟨rfl, 0, by omega, rfl, heapNew, (Mod.refl _ _).alloc _⟩ ?_
  rintro vs w1 J ⟨rfl, pos, hle, hall, hit, hM⟩
  simp (maxSteps := 1000000) (disch := first | omega | (simp only [sizeAlloc, sizeDrew, sizeSet, sizePut] <;> omega) | fail) only [GS, TT_eq, TTl, Nat.reduceAdd, Nat.reduceMul, Nat.reduceSub, Nat.reduceDiv, Nat.reduceMod, Nat.reducePow, Nat.reduceEqDiff, ↓reduceIte, reduceCtorEq, Int.reduceToNat, Int.reduceAdd, Int.reduceSub, Int.reduceMul]
  by_cases hp : pos < s.length
  · refine hold_next rfl rfl hit hp ?_
    have hv := decode_val (⟨s.toArray⟩ : ByteArray) pos
    have hxx : ((⟨s.toArray⟩ : ByteArray)[pos]'hp) = s[pos] := rfl
    have hlow : okR (Utf8.decode (⟨s.toArray⟩ : ByteArray) pos).1 = okB s[pos] ∧ (okB s[pos] = true → (Utf8.decode (⟨s.toArray⟩ : ByteArray) pos).2 = 1) := by
      by_cases h128 : s[pos].toNat < 128
      · rw [decode_ascii (⟨s.toArray⟩ : ByteArray) pos hp h128]
        refine ⟨?_, fun _ => rfl⟩
        rw [hxx]
        simp [okR, h128]
      · have hh := decode_high (⟨s.toArray⟩ : ByteArray) pos hp (by rw [hxx]; omega)
        have hb : okB s[pos] = false := by
          rw [← Bool.not_eq_true, okB_iff]; omega
        rw [hb]
        refine ⟨?_, fun h => by simp at h⟩
        simp [okR]; omega
    obtain ⟨hl1, hl2⟩ := hlow
    generalize Utf8.decode (⟨s.toArray⟩ : ByteArray) pos = d at hv hl1 hl2 ⊢
    obtain ⟨x, n⟩ := d
    simp only at hv hl1 hl2
    refine hold_ops okT (rs := [.tmp 2]) rfl ?_
    simp (maxSteps := 1000000) (disch := first | omega | (simp only [sizeAlloc, sizeDrew, sizeSet, sizePut] <;> omega) | fail) only [GS, TT_eq, TTl, Nat.reduceAdd, Nat.reduceMul, Nat.reduceSub, Nat.reduceDiv, Nat.reduceMod, Nat.reducePow, Nat.reduceEqDiff, ↓reduceIte, reduceCtorEq, Int.reduceToNat, Int.reduceAdd, Int.reduceSub, Int.reduceMul]
    refine ⟨fok68, cRune_cps x hv _ _ fun w2 hM2 => .inl ⟨_, rfl, hold_ops okT (rs := [.tmp 2]) rfl ?_⟩⟩
    rw [hl1]
    have hM1 := hM.put (l := w.heap.size) (.inr (Nat.le_refl _)) (.stringIter ⟨s.toArray⟩ (pos + n))
    have hit1 : (w1.putObj w.heap.size (.stringIter ⟨s.toArray⟩ (pos + n))).heap[w.heap.size]? = some (.stringIter ⟨s.toArray⟩ (pos + n)) := by
      simp only [World.putObj, Array.getElem?_setIfInBounds]; rw [if_pos trivial, if_pos (ltOf hit)]
    by_cases hb : okB s[pos] = true
    · have hn := hl2 hb
      subst hn
      have hit2 := hM2.get hit1 (by simp)
      rw [hb]
      simp (maxSteps := 1000000) (disch := first | omega | (simp only [sizeAlloc, sizeDrew, sizeSet, sizePut] <;> omega) | fail) only [GS, TT_eq, TTl, Nat.reduceAdd, Nat.reduceMul, Nat.reduceSub, Nat.reduceDiv, Nat.reduceMod, Nat.reducePow, Nat.reduceEqDiff, ↓reduceIte, reduceCtorEq, Int.reduceToNat, Int.reduceAdd, Int.reduceSub, Int.reduceMul]
      have hall2 : (s.take (pos + 1)).all okB = true := by
        rw [List.take_succ_eq_append_getElem hp, List.all_append, hall]; simp [hb]
      refine ⟨⟨pos + 1, by omega, hall2, hit2, hM1.trans hM2 (by simp)⟩, ?_⟩
      rw [hit2, hit]
      show s.length - (pos + 1) < s.length - pos
      omega
    · have hb : okB s[pos] = false := Bool.eq_false_iff.2 hb
      rw [hb]
      simp (maxSteps := 1000000) (disch := first | omega | (simp only [sizeAlloc, sizeDrew, sizeSet, sizePut] <;> omega) | fail) only [GS, TT_eq, TTl, Nat.reduceAdd, Nat.reduceMul, Nat.reduceSub, Nat.reduceDiv, Nat.reduceMod, Nat.reducePow, Nat.reduceEqDiff, ↓reduceIte, reduceCtorEq, Int.reduceToNat, Int.reduceAdd, Int.reduceSub, Int.reduceMul]
      have hn : nameS s = false := by
        unfold nameS
        have : s.all okB = false := by
          rw [List.all_eq_false]; exact ⟨_, List.getElem_mem hp, by simp [hb]⟩
        rw [this]; rfl
      rw [hn] at hR
      exact hR _ (hM1.trans hM2 (by simp))
  · refine hold_over rfl rfl hit hp ?_
    refine hold_ops okT (rs := [.tmp 2]) rfl ?_
    have e : pos = s.length := by omega
    subst e
    rw [List.take_length] at hall
    unfold nameS at hR
    rw [hall] at hR
    cases s with
    | nil =>
      simp (maxSteps := 1000000) (disch := first | omega | (simp only [sizeAlloc, sizeDrew, sizeSet, sizePut] <;> omega) | fail) only [GS, TT_eq, TTl, Nat.reduceAdd, Nat.reduceMul, Nat.reduceSub, Nat.reduceDiv, Nat.reduceMod, Nat.reducePow, Nat.reduceEqDiff, ↓reduceIte, reduceCtorEq, Int.reduceToNat, Int.reduceAdd, Int.reduceSub, Int.reduceMul, eq_self]
      exact hR _ hM
    | cons c r =>
      simp (maxSteps := 1000000) (disch := first | omega | (simp only [sizeAlloc, sizeDrew, sizeSet, sizePut] <;> omega) | fail) only [GS, TT_eq, TTl, Nat.reduceAdd, Nat.reduceMul, Nat.reduceSub, Nat.reduceDiv, Nat.reduceMod, Nat.reducePow, Nat.reduceEqDiff, ↓reduceIte, reduceCtorEq, Int.reduceToNat, Int.reduceAdd, Int.reduceSub, Int.reduceMul]
      exact hR _ hM
end Go.Proofs.Ytoladcdelaemoaa
