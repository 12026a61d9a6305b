/-
  append: the row lies where it lay, or in a new block.
-/
import Derived.Test.YtoladcdelaemoaaQdB1
import Derived.Test.YtoladcdelaemoaaQdTrp
import Derived.Test.YtoladcdelaemoaaQdDve
import Derived.Laws.AppendOwn
set_option linter.unusedSimpArgs false
set_option linter.unusedVariables false
set_option maxRecDepth 20000
namespace Go.Proofs.Ytoladcdelaemoaa
open Go Go.Wk Go.RowKit
attribute [local irreducible] go Hold
theorem append_blk {P : Program} {w : World} (base : Nat) (t ty e : TypeId) (i : TypeInfo) (z : Value) (size bytes : Nat) (ht : P.underlying t = some (.slice e)) (hi : P.info? e = some i) (hz : i.zero = some z)
    (hsize : i.size = size) (hby : i.bytes = bytes) (hzs : z.cells.size = size) (hsz : 0 < size)
    (v : Value) (n : Nat) (xs : List Value) (hown : w.ownsRow base e size v n xs)
    (a : Addr) (m c : Nat) (news : List Value) (hl : news.length = m * size) (hnews : ∀ j u, news[j]? = some u → w.cell? (a.add j) = some u) (h1 : ∀ u ∈ news, u.oneCell' = true)
    (h63 : n + m ≤ maxLen) (hbytes : (n + m) * bytes ≤ 140737488355328) (hbase : base ≤ w.heap.size) :
    ∃ v' w', (Builtin.append_ #[t, t] ty #[v, .slice (some a) m c]).run P w = .ok v' w' ∧ w'.ownsRow base e size v' (n + m) (xs ++ news) ∧ w.grownBy w' v.ownBlock ∧
      (∀ g ∈ v'.ownBlock.toList, g ∈ v.ownBlock.toList ∨ w.heap.size ≤ g) := by
  obtain ⟨v', w', a1, a2, a3, a4⟩ := run_append_own (P := P) w base t ty e i z size bytes ht hi hz hsize hby hzs hsz v n xs hown a m c news hl hnews h1 h63 hbytes hbase
  refine ⟨v', w', a1, a2, a3, ?_⟩
  have det : ∀ v2 w2, (Builtin.append_ #[t, t] ty #[v, .slice (some a) m c]).run P w = .ok v2 w2 → v' = v2 := fun v2 w2 h => by rw [a1] at h; injection h
  have hsmall : n + m ≤ 9223372036854775807 := by simp only [maxLen] at h63; omega
  rcases hown.2 with ⟨rfl, rfl⟩ | ⟨g, cap, cur, rfl, hbg, hg, hnc, hcm, hcs, htake⟩
  · obtain ⟨v2, w2, b1, b2, _⟩ := run_append_own (P := P) w w.heap.size t ty e i z size bytes ht hi hz hsize hby hzs hsz (.slice none 0 0) 0 xs ⟨hown.1, .inl ⟨rfl, rfl⟩⟩ a m c news hl hnews h1 h63 hbytes (Nat.le_refl _)
    have := det _ _ b1
    subst this
    exact fun g hg => .inr (b2.lt g (by simpa using hg)).1
  · by_cases hroom : n + m ≤ cap
    · have hfit : n * i.size + news.length ≤ cur.size := by rw [hl, hcs, hsize, ← Nat.add_mul]; exact Nat.mul_le_mul_right _ hroom
      subst hsize
      have hr := run_append_room (P := P) w t ty e i ht hi g n cap cur hg a m c news hl hnews h1 hroom hfit
      have := det _ _ hr
      subst this
      exact fun x hx => .inl hx
    · subst hsize
      subst hby
      have holds : ∀ j u, xs[j]? = some u → w.cell? ((⟨g, 0, none⟩ : Addr).add j) = some u := hown.cells (g := g) rfl
      have hr := run_append_grow (P := P) w t ty e i z ht hi hz ⟨g, 0, none⟩ n cap xs hown.1 holds a m c news hl hnews (by omega) (by omega) (growslice_fits (by omega) hbytes)
      have := det _ _ hr
      subst this
      intro x hx
      simp only [Value.ownBlock, Option.toList, List.mem_singleton] at hx
      exact .inr (by omega)
theorem runB {P : Program} {T : Tab} (hP : Ok P T) {t e : Nat} {i : TI} (ht : kOf T t = .slice e) (he : T e = some i) (hz : lenL i.zero = i.size) (hs : 0 < i.size) (base : Nat) {w : World} {v x : Value} {n m : Nat} {xs news : List Value} (hown : w.ownsRow base e i.size v n xs)
    (hm : 0 < m) (hx : Rd w i.size x m news) (h1 : ∀ u ∈ news, u.oneCell' = true) (h63 : n + m ≤ maxLen) (hb : (n + m) * i.bytes ≤ 140737488355328) (hbase : base ≤ w.heap.size) (ty : Nat) (cs : Array Bool) :
    ∃ v' w', (builtin .append #[t, t] ty cs #[v, x]).run P w = .ok (.value v') w' ∧ w'.ownsRow base e i.size v' (n + m) (xs ++ news) ∧ Wk.Mod v.ownBlock.toList w w' ∧ (∀ g ∈ v'.ownBlock.toList, g ∈ v.ownBlock.toList ∨ w.heap.size ≤ g) := by
  obtain ⟨b, o, cap, rfl, hc, hg⟩ := hx.at hs (by omega)
  obtain ⟨inf, z, g1, g2, g3, g4, g5⟩ := infoOf hP he
  have hu : P.underlying t = some (.slice e) := by have := kOk_of hP ht (by simp); exact this
  obtain ⟨v', w', a1, a2, a3, a4⟩ := append_blk (P := P) base t ty e inf z i.size i.bytes hu g1 g2 g3 g4 (by rw [g5, ← hz, lenL_eq]; simp) hs v n xs hown ⟨b, o, none⟩ m cap news hx.1 (fun j u hj => by rw [addr_add]; exact hg j u hj) h1 h63 hb hbase
  exact ⟨v', w', by simp [builtin, a1], a2, (Wk.Mod.refl [] w).mono (by simp) |>.trans (S' := v.ownBlock.toList) ⟨a3.os, a3.tape, a3.output, a3.size, fun k hk hn => a3.block k hk (fun e => hn (by simp [← e]))⟩ (fun x hx => .inl hx), a4⟩
theorem ht_append {P : Program} {T : Tab} (hP : Ok P T) {V : Env} {R : Ending → World → Prop} {F : Exit → Act → World → Prop} {all : List Oper} {mm : List Nat} {ix : Nat} {o : Oper} {tr more : OT} {pnd : List PR} {k : List KI} {fs : List Value} {w : World} {s x : Operand} {t e : Nat} {i : TI}
    (hi : all[ix]? = some o) (hg : gd all fs o = .run) (ho : o.op = .call ⟨.builtin .append, #[s, x], #[t, t]⟩) (ht : kOf T t = .slice e) (he : T e = some i) (hz : lenL i.zero = i.size) (hs : 0 < i.size) (base : Nat) {v u : Value} {n m : Nat} {xs news : List Value} (hown : w.ownsRow base e i.size v n xs)
    (hv : ev fs s = v) (hu : ev fs x = u) (hm : 0 < m) (hx : Rd w i.size u m news) (h1 : ∀ u ∈ news, u.oneCell' = true) (hb : (n + m) * i.bytes ≤ 140737488355328) (hn : n + m ≤ maxLen) (hbase : base ≤ w.heap.size)
    (h : ∀ v' w', w'.ownsRow base e i.size v' (n + m) (xs ++ news) → Wk.Mod v.ownBlock.toList w w' → (∀ g ∈ v'.ownBlock.toList, g ∈ v.ownBlock.toList ∨ w.heap.size ≤ g) → staysP T mm ix w' pnd ∧ HT P T V R F all mm tr pnd k (put fs o.dst v') w') (h2 : HT P T V R F all mm more pnd k fs w) : HT P T V R F all mm (.eff ix tr more) pnd k fs w := by
  obtain ⟨ty, cs, hr⟩ := exec_builtin (P := P) (fs := fs) ho w
  obtain ⟨v', w', a1, a2, a3, a4⟩ := runB (P := P) hP ht he hz hs base hown hm hx h1 hn hb hbase ty cs
  refine ht_effE hi hg (v := v') (w' := w') ?_ (h v' w' a2 a3 a4).1 (h v' w' a2 a3 a4).2 h2
  rw [hr]; simp only [evs, hv, hu]; exact a1
/-- 'append(s, x..)' of a slice of one's own, where the row's place matters. -/
theorem hold_appendB {P : Program} {T : Tab} (hP : Ok P T) {V : Env} {R : Ending → World → Prop} {F : Exit → Act → World → Prop} {all rest : List Oper} {o : Oper} {k : List KI} {fs : List Value} {w : World} {s x : Operand} {t e : Nat} {i : TI}
    (ho : o.op = .call ⟨.builtin .append, #[s, x], #[t, t]⟩) (ht : kOf T t = .slice e) (he : T e = some i) (hz : lenL i.zero = i.size) (hs : 0 < i.size) (base : Nat) {v u : Value} {n m : Nat} {xs news : List Value} (hown : w.ownsRow base e i.size v n xs)
    (hv : ev fs s = v) (hu : ev fs x = u) (hm : 0 < m) (hx : Rd w i.size u m news) (h1 : ∀ u ∈ news, u.oneCell' = true) (hb : (n + m) * i.bytes ≤ 140737488355328) (hn : n + m ≤ maxLen) (hbase : base ≤ w.heap.size)
    (h : ∀ v' w', w'.ownsRow base e i.size v' (n + m) (xs ++ news) → Wk.Mod v.ownBlock.toList w w' → (∀ g ∈ v'.ownBlock.toList, g ∈ v.ownBlock.toList ∨ w.heap.size ≤ g) → Hold P T V R F (.ops all rest) k (put fs o.dst v') w') : Hold P T V R F (.gop .run all o rest) k fs w := by
  obtain ⟨ty, cs, hr⟩ := exec_builtin (P := P) (fs := fs) ho w
  obtain ⟨v', w', a1, a2, a3, a4⟩ := runB (P := P) hP ht he hz hs base hown hm hx h1 hn hb hbase ty cs
  refine hold_val (fun c => by rw [ho]; simp) (v := v') (w' := w') ?_ (h v' w' a2 a3 a4)
  rw [hr]; simp only [evs, hv, hu]; exact a1
end Go.Proofs.Ytoladcdelaemoaa
