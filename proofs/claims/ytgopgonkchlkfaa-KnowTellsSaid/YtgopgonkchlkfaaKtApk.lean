/-
  An append to a row of one's own: what was read of the row before is read so behind it.
-/
import Derived.Test.YtgopgonkchlkfaaKtB1
import Derived.Laws.AppendOwn
set_option linter.unusedSimpArgs false
set_option linter.unusedVariables false
set_option maxRecDepth 20000
namespace Go.Proofs.Ytgopgonkchlkfaa
open Go Go.Wk Go.RowKit
attribute [local irreducible] go Hold
theorem append_two {P : Program} {T : Tab} (hP : Ok P T) {t e : Nat} {i : TI} (ht : kOf T t = .slice e) (he : T e = some i) (hz : lenL i.zero = i.size) (hs : 0 < i.size) (base : Nat) {w : World} {v : Value} {n : Nat} {xs : List Value} (hown : w.ownsRow base e i.size v n xs)
    {ad : Addr} {m c : Nat} {news : List Value} (hl : news.length = m * i.size) (hnews : ∀ j u, news[j]? = some u → w.cell? (ad.add j) = some u) (h1 : ∀ u ∈ news, u.oneCell' = true)
    (h63 : n + m ≤ maxLen) (hb : (n + m) * i.bytes ≤ 140737488355328) (hbase : base ≤ w.heap.size) (ty : Nat) (cs : Array Bool) :
    ∃ v' w', (builtin .append #[t, t] ty cs #[v, .slice (some ad) m c]).run P w = .ok (.value v') w' ∧ w'.ownsRow base e i.size v' (n + m) (xs ++ news) ∧ Wk.Mod v.ownBlock.toList w w' ∧
      ((∃ g cap, v = .slice (some ⟨g, 0, none⟩) n cap ∧ v' = .slice (some ⟨g, 0, none⟩) (n + m) cap) ∨ (Wk.Mod [] w w' ∧ ∀ g, v'.ownBlock = some g → w.heap.size ≤ g)) := by
  obtain ⟨inf, z, g1, g2, g3, g4, g5⟩ := infoOf hP he
  have hu : P.underlying t = some (.slice e) := by have := kOk_of hP ht (by simp); exact this
  obtain ⟨v', w', a1, a2, a3, a4⟩ := append_run (P := P) hP ht he hz hs base hown hl hnews h1 h63 hb hbase ty cs
  refine ⟨v', w', a1, a2, a3, ?_⟩
  rcases hown.2 with ⟨rfl, rfl⟩ | ⟨g, cap, cur, rfl, hbg, hg, hnc, hcm, hcs, htake⟩
  · have hx : xs = [] := List.eq_nil_of_length_eq_zero (by simpa using hown.1)
    subst hx
    obtain ⟨v2, w2, b1, b2, b3, b4⟩ := append_run (P := P) hP ht he hz hs w.heap.size (World.ownsRow_nil _ _ _ _) (n := 0) hl hnews h1 h63 hb (Nat.le_refl _) ty cs
    rw [a1] at b1
    simp only [Result.ok.injEq, Next.value.injEq] at b1
    obtain ⟨rfl, rfl⟩ := b1
    exact .inr ⟨a3, fun g hg => (b2.lt g hg).1⟩
  · by_cases hroom : n + m ≤ cap
    · have hfit : n * i.size + news.length ≤ cur.size := by rw [hl, hcs, ← Nat.add_mul]; exact Nat.mul_le_mul_right _ hroom
      have hr := run_append_room (P := P) w t ty e inf hu g1 g n cap cur hg ad m c news (by rw [g3]; exact hl) hnews h1 hroom (by rw [g3]; exact hfit)
      simp only [builtin, Sem.run_bind, hr, Result.andThen_ok, Sem.run_pure, Result.ok.injEq, Next.value.injEq] at a1
      exact .inl ⟨g, cap, rfl, a1.1.symm⟩
    · have holds : ∀ j u, xs[j]? = some u → w.cell? ((⟨g, 0, none⟩ : Addr).add j) = some u := hown.cells (g := g) rfl
      have hr := run_append_grow (P := P) w t ty e inf z hu g1 g2 ⟨g, 0, none⟩ n cap xs (by rw [g3]; exact hown.1) holds ad m c news (by rw [g3]; exact hl) hnews (by omega) (by unfold maxLen at h63; omega) (growslice_fits (by omega) (by rw [g4]; exact hb))
      simp only [builtin, Sem.run_bind, hr, Result.andThen_ok, Sem.run_pure, Result.ok.injEq, Next.value.injEq] at a1
      obtain ⟨rfl, rfl⟩ := a1
      refine .inr ⟨((Wk.Mod.refl [] w).drewN 1).alloc _, fun g' hg' => ?_⟩
      simp only [Value.ownBlock, Option.some.injEq] at hg'
      omega
/-- A slice that is read beside a row of one's own: another block, or its beginning. -/
def Safe (w : World) (lv : Value) (n : Nat) (u : Value) (k : Nat) (ys : List Value) : Prop :=
  Rd w 1 u k ys ∧ (0 < k → ∀ g, lv.ownBlock = some g → blkOf u = some g → k ≤ n ∧ ∃ c, u = .slice (some ⟨g, 0, none⟩) k c)
theorem Safe.of {w : World} {lv u : Value} {n k : Nat} {ys : List Value} (h : Rd w 1 u k ys) (hn : ∀ g, lv.ownBlock = some g → blkOf u ≠ some g) : Safe w lv n u k ys := ⟨h, fun _ g h1 h2 => absurd h2 (hn g h1)⟩
theorem rd_blt {w : World} {u : Value} {k : Nat} {ys : List Value} (h : Rd w 1 u k ys) (hk : 0 < k) : ∀ b, blkOf u = some b → b < w.heap.size := by
  obtain ⟨b, o, c, rfl, _, g⟩ := h.at (by omega) hk
  intro b' hb
  simp only [blkOf, Option.some.injEq] at hb
  subst hb
  have h0 : 0 < ys.length := by rw [h.1]; omega
  have := g 0 ys[0] (List.getElem?_eq_getElem h0)
  unfold World.cell? at this
  cases hh : w.heap[b]? with
  | none => rw [hh] at this; simp at this
  | some o => exact ltOf hh
theorem Safe.mod0 {w w' : World} {lv u : Value} {n k : Nat} {ys : List Value} (h : Safe w lv n u k ys) (hM : Wk.Mod [] w w') : Safe w' lv n u k ys := ⟨h.1.mod hM (by simp), h.2⟩
/-- What an append to one's own row leaves. -/
structure ApR (w : World) (v : Value) (n : Nat) (w' : World) (v' : Value) (n' : Nat) : Prop where
  mod : Wk.Mod v.ownBlock.toList w w'
  blk : ∀ g, v'.ownBlock = some g → v.ownBlock = some g ∨ w.heap.size ≤ g
  safe : ∀ u k ys, Safe w v n u k ys → Safe w' v' n' u k ys
theorem append_safe {base e n m : Nat} {w w' : World} {v v' : Value} {xs news : List Value} (hown : w.ownsRow base e 1 v n xs) (hown' : w'.ownsRow base e 1 v' (n + m) (xs ++ news)) (hM : Wk.Mod v.ownBlock.toList w w')
    (h2 : (∃ g cap, v = .slice (some ⟨g, 0, none⟩) n cap ∧ v' = .slice (some ⟨g, 0, none⟩) (n + m) cap) ∨ (Wk.Mod [] w w' ∧ ∀ g, v'.ownBlock = some g → w.heap.size ≤ g)) : ApR w v n w' v' (n + m) := by
  refine ⟨hM, ?_, ?_⟩
  · rcases h2 with ⟨g, cap, rfl, rfl⟩ | ⟨_, h⟩
    · exact fun g' hg => .inl hg
    · exact fun g' hg => .inr (h g' hg)
  · rintro u k ys ⟨hr, hb⟩
    by_cases hk : 0 < k
    · rcases h2 with ⟨g, cap, rfl, rfl⟩ | ⟨hM0, hnew⟩
      · by_cases hbg : blkOf u = some g
        · obtain ⟨hkn, c, rfl⟩ := hb hk g rfl hbg
          have hrw := Rd.own hown
          have hrw' := Rd.own hown'
          refine ⟨⟨hr.1, some ⟨g, 0, none⟩, c, rfl, ?_, fun j u hj => ⟨g, 0, rfl, ?_⟩⟩, fun _ g' hg' hb' => ?_⟩
          · obtain ⟨_, a', c', e', hc, _⟩ := hr
            rw [Value.slice.injEq] at e'
            omega
          · obtain ⟨b1, o1, c1, e1, _, q1⟩ := hr.at (by omega) hk
            rw [Value.slice.injEq] at e1
            obtain ⟨e1, -, -⟩ := e1
            simp only [Option.some.injEq, Addr.mk.injEq, and_true] at e1
            obtain ⟨rfl, rfl⟩ := e1
            obtain ⟨b2, o2, c2, e2, _, q2⟩ := hrw.at (by omega) (by omega)
            rw [Value.slice.injEq] at e2
            obtain ⟨e2, -, -⟩ := e2
            simp only [Option.some.injEq, Addr.mk.injEq, and_true] at e2
            obtain ⟨rfl, rfl⟩ := e2
            obtain ⟨b3, o3, c3, e3, _, q3⟩ := hrw'.at (by omega) (by omega)
            rw [Value.slice.injEq] at e3
            obtain ⟨e3, -, -⟩ := e3
            simp only [Option.some.injEq, Addr.mk.injEq, and_true] at e3
            obtain ⟨rfl, rfl⟩ := e3
            have hjl := (List.getElem?_eq_some_iff.1 hj).1
            have hyl := hr.1
            have hxl := hown.1
            have hx : xs[j]? = some xs[j] := List.getElem?_eq_getElem (by omega)
            have h1 := q1 j _ hj
            have h2 := q2 j _ hx
            rw [h1] at h2
            simp only [Option.some.injEq] at h2
            rw [h2]
            exact q3 j _ (by rw [List.getElem?_append_left (by omega)]; exact hx)
          · simp only [Value.ownBlock, Option.some.injEq] at hg'
            subst hg'
            exact ⟨by omega, c, rfl⟩
        · refine ⟨hr.mod hM ?_, fun _ g' hg' hb' => ?_⟩
          · intro b hbb hbm
            simp only [Value.ownBlock, Option.toList_some, List.mem_singleton] at hbm
            subst hbm
            exact hbg hbb
          · simp only [Value.ownBlock, Option.some.injEq] at hg'
            subst hg'
            exact absurd hb' hbg
      · refine ⟨hr.mod hM0 (by simp), fun _ g' hg' hb' => ?_⟩
        have h1 := hnew g' hg'
        have h2 := rd_blt hr hk g' hb'
        omega
    · have h0 : k = 0 := by omega
      subst h0
      refine ⟨⟨hr.1, ?_⟩, fun h => absurd h (by omega)⟩
      obtain ⟨hl, a', c', e', hc, _⟩ := hr
      exact ⟨a', c', e', hc, fun j u hj => by have := (List.getElem?_eq_some_iff.1 hj).1; omega⟩
/-- 'append(s, x)' of one element of one cell, all that is read beside it told of. -/
theorem hold_append1S {P : Program} {T : Tab} (hP : Ok P T) {V : Env} {R : Ending → World → Prop} {F : Exit → Act → World → Prop} {all rest : List Oper} {o : Oper} {k : List KI} {fs : List Value} {w : World} {s x : Operand} {t e : Nat} {i : TI}
    (ho : o.op = .call ⟨.builtin .append, #[s, x], #[t, t]⟩) (ht : kOf T t = .slice e) (he : T e = some i) (hz : lenL i.zero = i.size) (hs : i.size = 1) (base : Nat) {v u : Value} {n : Nat} {xs : List Value} (hown : w.ownsRow base e 1 v n xs)
    (hv : ev fs s = v) (hx : ev fs x = .slice (some ⟨w.heap.size, 0, none⟩) 1 1) (h1 : u.oneCell' = true) (hb : (n + 1) * i.bytes ≤ 140737488355328) (hn : n + 1 ≤ maxLen) (hbase : base ≤ w.heap.size)
    (h : ∀ v' w', w'.ownsRow base e 1 v' (n + 1) (xs ++ [u]) → ApR w v n w' v' (n + 1) → Hold P T V R F (.ops all rest) k (put fs o.dst v') w') : Hold P T V R F (.gop .run all o rest) k fs (w.alloc (.cells #[u] e)) := by
  obtain ⟨ty, cs, hr⟩ := exec_builtin (P := P) (fs := fs) ho (w.alloc (.cells #[u] e))
  have hown0 : (w.alloc (.cells #[u] e)).ownsRow base e 1 v n xs := hown.alloc _
  have hown' : (w.alloc (.cells #[u] e)).ownsRow base e i.size v n xs := by rw [hs]; exact hown0
  obtain ⟨v', w', a1, a2, a3, a4⟩ := append_two (P := P) hP ht he hz (by omega) base hown' (ad := ⟨w.heap.size, 0, none⟩) (m := 1) (c := 1) (news := [u]) (by simp [hs])
    (by intro j y hj
        have e2 : (⟨w.heap.size, 0, none⟩ : Addr).add j = ⟨w.heap.size, j, none⟩ := by cases j <;> simp [Addr.add]
        rw [e2, cellOf heapNew]; simpa using hj)
    (by simpa using h1) hn hb (by simp only [sizeAlloc]; omega) ty cs
  rw [hs] at a2
  have hA := append_safe hown0 a2 a3 a4
  have hMal := (Wk.Mod.refl [] w).alloc (.cells #[u] e)
  have hh := h v' w' a2 ⟨((Wk.Mod.refl v.ownBlock.toList w).alloc _).trans hA.mod (fun x hx => .inl hx), fun g hg => by
    rcases hA.blk g hg with h | h
    · exact .inl h
    · simp only [sizeAlloc] at h; exact .inr (by omega), fun u k ys hS => hA.safe u k ys (hS.mod0 hMal)⟩
  refine hold_val (fun c => by rw [ho]; simp) (v := v') (w' := w') ?_ hh
  rw [hr]; simp only [evs, hv, hx]; exact a1
end Go.Proofs.Ytgopgonkchlkfaa
