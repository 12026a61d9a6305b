/-
  A map that is ranged over: in whatever order its entries come.
-/
import Derived.Test.YtoladcdelaemoaaQeMap
import Derived.Maps.RangeRun
set_option linter.unusedSimpArgs false
set_option linter.unusedVariables false
namespace Go.Wk
open Go
variable {P : Program} {T : Tab}
/-- A map, as the row of its entries; each was laid in ahead of the clock, no two at once. -/
def MapW (w : World) (r : Nat) (l : List (Value × Value)) : Prop := ∃ es clock, w.heap[r]? = some (.map es clock) ∧ entriesOf es = l ∧ (∀ x ∈ es.toList, x.born < clock) ∧ (es.toList.map (·.born)).Nodup
theorem MapW.at {w : World} {r : Nat} {l : List (Value × Value)} (h : MapW w r l) : MapAt w r l := by obtain ⟨es, c, h1, h2, _⟩ := h; exact ⟨es, c, h1, h2⟩
theorem MapW.mod {S : List Nat} {w w' : World} {r : Nat} {l : List (Value × Value)} (h : MapW w r l) (hm : Mod S w w') (hn : r ∉ S) : MapW w' r l := by
  obtain ⟨es, c, h1, h2⟩ := h
  exact ⟨es, c, hm.get h1 hn, h2⟩
theorem MapW.lt {w : World} {r : Nat} {l : List (Value × Value)} (h : MapW w r l) : r < w.heap.size := h.at.lt
/-- An iterator at r over the map at m: 'left' is what it has not handed out. -/
def ItAt (w : World) (r m : Nat) (left : List (Value × Value)) : Prop := ∃ since seen c0 es clock, w.heap[r]? = some (.mapIter (some m) since seen c0) ∧ w.heap[m]? = some (.map es clock) ∧ (∀ x ∈ es.toList, x.born < since) ∧ since ≤ c0 ∧ since ≤ clock ∧ (es.toList.map (·.born)).Nodup ∧ ((leftOf es seen).toList.map fun e => (e.key, e.val)) = left
theorem ItAt.mod {S : List Nat} {w w' : World} {r m : Nat} {l : List (Value × Value)} (h : ItAt w r m l) (hm : Mod S w w') (hr : r ∉ S) (hn : m ∉ S) : ItAt w' r m l := by
  obtain ⟨a, b, c, d, e, h1, h2, h3⟩ := h
  exact ⟨a, b, c, d, e, hm.get h1 hr, hm.get h2 hn, h3⟩
theorem ItAt.lt {w : World} {r m : Nat} {l : List (Value × Value)} (h : ItAt w r m l) : r < w.heap.size ∧ m < w.heap.size := by
  obtain ⟨a, b, c, d, e, h1, h2, _⟩ := h
  exact ⟨ltOf h1, ltOf h2⟩
/-- The entry that the last step handed out. -/
def EntAt (w : World) (r m : Nat) (key val : Value) : Prop := ∃ since seen es clock e, w.heap[r]? = some (.mapIter (some m) since (Array.push seen (MapEntry.born e)) clock) ∧ w.heap[m]? = some (.map es clock) ∧ e ∈ es.toList ∧ (es.toList.map (·.born)).Nodup ∧ e.key = key ∧ e.val = val
theorem EntAt.mod {S : List Nat} {w w' : World} {r m : Nat} {x y : Value} (h : EntAt w r m x y) (hm : Mod S w w') (hr : r ∉ S) (hn : m ∉ S) : EntAt w' r m x y := by
  obtain ⟨a, b, c, d, e, h1, h2, h3⟩ := h
  exact ⟨a, b, c, d, e, hm.get h1 hr, hm.get h2 hn, h3⟩
end Go.Wk
