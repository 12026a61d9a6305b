/-
  An append of a slice that is read to one of one's own.
-/
import Derived.Test.YticoollhaachfaaTab
import Derived.Test.YticoollhaachfaaRd
import Derived.Test.YticoollhaachfaaRec
import Derived.Test.YticoollhaachfaaMap
import Derived.Laws.OwnMore
set_option linter.unusedSimpArgs false
set_option linter.unusedVariables false
namespace Go.Proofs.Yticoollhaachfaa
open Go Go.Wk Go.RowKit
attribute [local irreducible] go Hold
theorem run_append_none0 {P : Program} (w : World) (base : Nat) (t ty e : TypeId) (i : TypeInfo) (size : Nat) (ht : P.underlying t = some (.slice e)) (hi : P.info? e = some i) (v : Value) (n : Nat) (xs : List Value) (hown : w.ownsRow base e size v n xs) (c : Nat) :
    (Builtin.append_ #[t, t] ty #[v, .slice none 0 c]).run P w = .ok v w := by
  rcases hown.2 with ⟨rfl, rfl⟩ | ⟨g, cap, cur, rfl, _, _, hnc, _⟩
  · simp [Builtin.append_, run_underlying ht, sizeOf, typeInfo, hi, Builtin.lenOf, Builtin.firstCells]
  · simp [Builtin.append_, run_underlying ht, sizeOf, typeInfo, hi, Builtin.lenOf, Builtin.firstCells, hnc, storeCells]
theorem runR {P : Program} {T : Tab} (hP : Ok P T) {t e : Nat} {i : TI} (ht : kOf T t = .slice e) (he : T e = some i) (hz : lenL i.zero = i.size) (hs : 0 < i.size) (base : Nat) {w : World} {v x : Value} {n m : Nat} {xs news : List Value} (hown : w.ownsRow base e i.size v n xs)
    (hx : Rd w i.size x m news) (h1 : ∀ u ∈ news, u.oneCell' = true) (h63 : n + m ≤ maxLen) (hb : (n + m) * i.bytes ≤ 140737488355328) (hbase : base ≤ w.heap.size) (ty : Nat) (cs : Array Bool) :
    ∃ v' w', (builtin .append #[t, t] ty cs #[v, x]).run P w = .ok (.value v') w' ∧ w'.ownsRow base e i.size v' (n + m) (xs ++ news) ∧ Wk.Mod v.ownBlock.toList w w' := by
  by_cases hm : m = 0
  · subst hm
    have hn : news = [] := List.eq_nil_of_length_eq_zero (by rw [hx.1, Nat.zero_mul])
    subst hn
    obtain ⟨a, cap, rfl⟩ := hx.nil rfl
    cases a with
    | none =>
      obtain ⟨inf, z, g1, g2, g3, g4, g5⟩ := infoOf hP he
      have hu : P.underlying t = some (.slice e) := by have := kOk_of hP ht (by simp); exact this
      refine ⟨v, w, ?_, by simpa using hown, Wk.Mod.refl _ _⟩
      simp [builtin, run_append_none0 w base t ty e inf i.size hu g1 v n xs hown cap]
    | some ad =>
      obtain ⟨v', w', a1, a2, a3, a4⟩ := append_run hP ht he hz hs base hown (ad := ad) (m := 0) (c := cap) (news := []) (by simp) (by simp) (by simp) h63 hb hbase ty cs
      exact ⟨v', w', a1, a2, a3⟩
  · obtain ⟨b, o, cap, rfl, hc, hg⟩ := hx.at hs (by omega)
    obtain ⟨v', w', a1, a2, a3, a4⟩ := append_run hP ht he hz hs base hown (ad := ⟨b, o, none⟩) (m := m) (c := cap) (news := news) hx.1 (fun j u hj => by rw [addr_add]; exact hg j u hj) h1 h63 hb hbase ty cs
    exact ⟨v', w', a1, a2, a3⟩
/-- 'append(s, x..)' of any slice that is read. -/
theorem hold_appendR {P : Program} {T : Tab} (hP : Ok P T) {V : Env} {R : Ending → World → Prop} {F : Exit → Act → World → Prop} {all rest : List Oper} {o : Oper} {k : List KI} {fs : List Value} {w : World} {s x : Operand} {t e : Nat} {i : TI}
    (ho : o.op = .call ⟨.builtin .append, #[s, x], #[t, t]⟩) (ht : kOf T t = .slice e) (he : T e = some i) (hz : lenL i.zero = i.size) (hs : 0 < i.size) (base : Nat) {v u : Value} {n m : Nat} {xs news : List Value} (hown : w.ownsRow base e i.size v n xs)
    (hv : ev fs s = v) (hu : ev fs x = u) (hx : Rd w i.size u m news) (h1 : ∀ u ∈ news, u.oneCell' = true) (hb : (n + m) * i.bytes ≤ 140737488355328) (hn : n + m ≤ maxLen) (hbase : base ≤ w.heap.size)
    (h : ∀ v' w', w'.ownsRow base e i.size v' (n + m) (xs ++ news) → Wk.Mod v.ownBlock.toList w w' → Hold P T V R F (.ops all rest) k (put fs o.dst v') w') : Hold P T V R F (.gop .run all o rest) k fs w := by
  obtain ⟨ty, cs, hr⟩ := exec_builtin (P := P) (fs := fs) ho w
  obtain ⟨v', w', a1, a2, a3⟩ := runR (P := P) hP ht he hz hs base hown hx h1 hn hb hbase ty cs
  refine hold_val (fun c => by rw [ho]; simp) (v := v') (w' := w') ?_ (h v' w' a2 a3)
  rw [hr]; simp only [evs, hv, hu]; exact a1
end Go.Proofs.Yticoollhaachfaa
