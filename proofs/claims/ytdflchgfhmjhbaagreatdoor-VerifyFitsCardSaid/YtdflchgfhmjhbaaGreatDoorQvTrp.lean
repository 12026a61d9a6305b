/-
  A region that draws its order, as a tree: several operations that act and that no edge orders.
-/
import Derived.Test.YtdflchgfhmjhbaaGreatDoorQvMpr
set_option linter.unusedSimpArgs false
set_option linter.unusedVariables false
namespace Go.Wk
open Go
variable {P : Program} {T : Tab}
/-- What is left of a region: a row; a quiet operation; one that acts, or else others; nothing else. -/
inductive OT where
  | lin (C : List Nat)
  | qop (i : Nat) (t : OT)
  | eff (i : Nat) (t more : OT)
  | stop
def PassT (P : Program) (ops : Array Oper) (bef : Nat → Nat → Bool) (Q : List Value → World → Prop) (E : List PanicEntry → World → Prop) : OT → List Rec → List Value → World → Prop
  | .lin C, D, fs, w => Pass P ops bef Q E C D fs w
  | .qop i t, D, fs, w => ∃ o, ops[i]? = some o ∧
    ((Region.wanted o (yielded ops fs.toArray) = false ∧ PassT P ops bef Q E t (⟨i, o, undef, fs, false⟩ :: D) (put fs o.dst undef) w) ∨
     (Region.wanted o (yielded ops fs.toArray) = true ∧ ∃ v, (execOp (Act.eval ⟨fs.toArray, []⟩) o).run P w = .ok (.value v) w ∧ PassT P ops bef Q E t (⟨i, o, v, fs, true⟩ :: D) (put fs o.dst v) w))
  | .eff i t more, D, fs, w => (∃ o, ops[i]? = some o ∧ Region.wanted o (yielded ops fs.toArray) = true ∧
      VRes P (execOp (Act.eval ⟨fs.toArray, []⟩) o) w (fun v w' => Stays P bef i D w' ∧ PassT P ops bef Q E t (⟨i, o, v, fs, false⟩ :: D) (put fs o.dst v) w') E) ∧ PassT P ops bef Q E more D fs w
  | .stop, _, _, _ => True
def flat : OT → List Nat
  | .lin C => C
  | .qop i t => i :: flat t
  | .eff i t _ => i :: flat t
  | .stop => []
def alts : OT → List (Nat × OT)
  | .eff i t more => (i, t) :: alts more
  | _ => []
/-- The tree fits: L is what was done. -/
def OkT (ops : Array Oper) (bef : Nat → Nat → Bool) : Bool → List Nat → OT → Prop
  | _, L, .lin C => Order0 ops (L ++ C) ∧ Acts ops bef (L ++ C) L.length
  | _, L, .qop i t => OkT ops bef true (L ++ [i]) t
  | top, L, .eff i t more => (top = true → ∀ j, j < ops.size → j ∈ L ∨ ∃ x ∈ alts (.eff i t more), j = x.1 ∨ bef j x.1 = true) ∧ OkT ops bef true (L ++ [i]) t ∧ OkT ops bef false L more
  | top, _, .stop => top = false
theorem okT_order {ops : Array Oper} {bef : Nat → Nat → Bool} : ∀ (t : OT) (top : Bool) (L : List Nat), t ≠ .stop → OkT ops bef top L t → Order0 ops (L ++ flat t)
  | .lin C, _, L, _, h => h.1
  | .qop i t, top, L, _, h => by
    have h : OkT ops bef true (L ++ [i]) t := h
    have hn : t ≠ .stop := by rintro rfl; exact absurd (show true = false from h) (by simp)
    have := okT_order t true (L ++ [i]) hn h
    rw [List.append_assoc] at this; exact this
  | .eff i t more, top, L, _, h => by
    have h := h.2.1
    have hn : t ≠ .stop := by rintro rfl; exact absurd (show true = false from h) (by simp)
    have := okT_order t true (L ++ [i]) hn h
    rw [List.append_assoc] at this; exact this
  | .stop, _, _, hn, _ => absurd rfl hn
theorem okT_alt {ops : Array Oper} {bef : Nat → Nat → Bool} : ∀ (t : OT) (top : Bool) (L : List Nat), OkT ops bef top L t → ∀ x ∈ alts t, OkT ops bef true (L ++ [x.1]) x.2
  | .eff i t more, top, L, h, x, hx => by
    rw [alts, List.mem_cons] at hx
    rcases hx with rfl | hx
    · exact h.2.1
    · exact okT_alt more false L h.2.2 x hx
  | .lin _, _, _, _, x, hx => by simp [alts] at hx
  | .qop _ _, _, _, _, x, hx => by simp [alts] at hx
  | .stop, _, _, _, x, hx => by simp [alts] at hx
theorem passT_alt {ops : Array Oper} {bef : Nat → Nat → Bool} {Q : List Value → World → Prop} {E : List PanicEntry → World → Prop} {D : List Rec} {fs : List Value} {w : World} : ∀ (t : OT), PassT P ops bef Q E t D fs w → ∀ x ∈ alts t, ∃ o, ops[x.1]? = some o ∧ Region.wanted o (yielded ops fs.toArray) = true ∧
      VRes P (execOp (Act.eval ⟨fs.toArray, []⟩) o) w (fun v w' => Stays P bef x.1 D w' ∧ PassT P ops bef Q E x.2 (⟨x.1, o, v, fs, false⟩ :: D) (put fs o.dst v) w') E
  | .eff i t more, h, x, hx => by
    rw [alts, List.mem_cons] at hx
    rcases hx with rfl | hx
    · exact h.1
    · exact passT_alt more h.2 x hx
  | .lin _, _, x, hx => by simp [alts] at hx
  | .qop _ _, _, x, hx => by simp [alts] at hx
  | .stop, _, x, hx => by simp [alts] at hx
theorem take_pre {α : Type} (L C : List α) : (L ++ C).take L.length = L := by simp
theorem head_at {L C : List Nat} {i : Nat} : (L ++ i :: C)[L.length]? = some i := by simp
theorem any_of_tree {ro : Option Nat} {ds : List Deferred} {ops : Array Oper} {bef : Nat → Nat → Bool} {fs0 : List Value} {Q : List Value → World → Prop} {E : List PanicEntry → World → Prop} {Q' : Exit → Act → World → Prop} (ck : Checks ops bef fs0)
    (hQ : ∀ (fs : List Value) (w : World), Q fs w → Q' .normal ⟨fs.toArray, ds⟩ w) (hE : ∀ (ch : List PanicEntry) (w : World) (fs : List Value), E ch w → Q' (.panic ch) ⟨fs.toArray, ds⟩ w) :
    ∀ (N fuel : Nat) (L : List Nat) (t : OT) (listed : Array Bool) (fs fsD : List Value) (w : World) (D : List Rec) (vals : Nat → Value), fuel + (ops.size - L.length) = N → OkT ops bef true L t → listed.size = ops.size → unl ops.size listed ≤ fuel →
      Closed ops (Lst listed) → (∀ i, Lst listed i → i ∈ L) → Agree ops fs0 (Lst listed) vals fs → Agree ops fs0 (· ∈ L) vals fsD →
      (∀ i ∈ L, ¬ Lst listed i → Pend P ops bef fs0 vals w D i) → PassT P ops bef Q E t D fsD w → wpAnyIn (rf ro) 0 P .any ops Q' fuel listed ⟨fs.toArray, ds⟩ w := by
  intro N
  induction N using Nat.strongRecOn with
  | _ N ih =>
  intro fuel L t listed fs fsD w D vals hN hok hs hu hc hLD hA hAD hpend hpass
  have hnst : t ≠ .stop := by rintro rfl; exact absurd (show true = false from hok) (by simp)
  have od := okT_order t true L hnst hok
  have hlen : (L ++ flat t).length ≤ ops.size := by
    have h1 : (L ++ flat t).length = (L ++ flat t).toArray.size := rfl
    have := List.Nodup.length_le_of_subset od.nodup (l₂ := List.range ops.size) (fun i hi => List.mem_range.2 (od.inn i hi))
    simpa using this
  cases t with
  | stop => exact absurd rfl hnst
  | lin C =>
    refine any_of_pass ck (od := od) (p0 := L.length) hok.2 hQ hE _ fuel L.length listed fs fsD w D vals rfl (Nat.le_refl _) (by simp [flat]) hs hu hc ?_ hA ?_ ?_ ?_
    · intro i hi; rw [take_pre]; exact hLD i hi
    · rw [take_pre]; exact hAD
    · rw [take_pre]; exact hpend
    · have : (L ++ flat (.lin C)).drop L.length = C := by simp [flat]
      rw [this]; exact hpass
  | qop i t =>
    have hpe : (L ++ i :: flat t)[L.length]? = some i := head_at
    have od : Order0 ops (L ++ i :: flat t) := od
    have hlen : (L ++ i :: flat t).length ≤ ops.size := hlen
    rw [List.length_append, List.length_cons] at hlen
    have hni : i ∉ L := by have := od.not_mem L.length i hpe; rwa [take_pre] at this
    have dcl : Closed ops (· ∈ L) := by have := od.dclosed L.length; rwa [take_pre] at this
    have bti : ∀ j, bef i j = true → j ∈ L := fun j hj => by have := od.bef_take ck L.length i j hpe hj; rwa [take_pre] at this
    have bin : ∀ j k, j ∈ L → bef j k = true → k ∈ L := fun j k hj hb => by have := od.bef_in ck L.length j k (by rw [take_pre]; exact hj) hb; rwa [take_pre] at this
    have dep : ∀ o, ops[i]? = some o → ∀ e ∈ o.after, Region.binds .any e = true → e.on ∈ L := fun o ho e he hb => by
      obtain ⟨q, hq, hqe⟩ := od.deps L.length i o hpe ho e he hb
      have : e.on ∈ (L ++ i :: flat t).take L.length := List.mem_iff_getElem?.2 ⟨q, by rw [List.getElem?_take_of_lt hq]; exact hqe⟩
      rwa [take_pre] at this
    have hl : ¬ Lst listed i := fun h => hni (hLD i h)
    have adv : ∀ (o : Oper) (v : Value) (b : Bool), ops[i]? = some o →
        ((b = true ∧ Region.wanted o (yielded ops fsD.toArray) = true ∧ (execOp (Act.eval ⟨fsD.toArray, []⟩) o).run P w = .ok (.value v) w) ∨ (Region.wanted o (yielded ops fsD.toArray) = false ∧ v = undef)) →
        PassT P ops bef Q E t (⟨i, o, v, fsD, b⟩ :: D) (put fsD o.dst v) w → wpAnyIn (rf ro) 0 P .any ops Q' fuel listed ⟨fs.toArray, ds⟩ w := by
      intro o v b ho hv hps
      have hAD' := hAD.put ck ho hni v
      have hvb : ∀ j, j ≠ i → vals j = (fun j => if j = i then v else vals j) j := fun j hj => by simp [hj]
      refine ih (fuel + (ops.size - (L ++ [i]).length)) (by rw [List.length_append, List.length_cons, List.length_nil]; omega) fuel (L ++ [i]) t listed fs _ w _ (fun j => if j = i then v else vals j) rfl hok hs hu hc
        (fun j hj => List.mem_append_left _ (hLD j hj)) (agree_congr hA (fun _ => Iff.rfl) (fun j hj => hvb j (fun e => hl (e ▸ hj)))) (agree_congr hAD' (fun j => by simp) (fun _ _ => rfl)) ?_ hps
      intro j hj hjl
      rw [List.mem_append, List.mem_singleton] at hj
      rcases hj with hj | rfl
      · obtain ⟨r, hr, h1, h2, h3, h4, h5, h6⟩ := (hpend j hj hjl).rec_
        exact ⟨r, List.mem_cons_of_mem _ hr, h1, h2, nf_congr h3 (fun k hk => hvb k (fun e => hni (e ▸ bin j k hj hk))), h4, by rw [← h5]; exact (hvb j (fun e => hni (e ▸ hj))).symm, h6⟩
      · refine ⟨⟨j, o, v, fsD, b⟩, List.mem_cons_self, rfl, ho, ?_, hAD.len, by simp, ?_⟩
        · have := nf_of ck hAD dcl ho hni (dep o ho)
          exact nf_congr this (fun k hk => hvb k (fun e => hni (e ▸ bti k hk)))
        · exact hv
    obtain ⟨o, ho, ⟨h1, h2⟩ | ⟨h1, v, h3, h4⟩⟩ := hpass
    · exact adv o undef false ho (.inr ⟨h1, rfl⟩) h2
    · exact adv o v true ho (.inl ⟨rfl, h1, h3⟩) h4
  | eff i0 t more =>
    have hcov := hok.1 rfl
    have hpe0 : (L ++ i0 :: flat t)[L.length]? = some i0 := head_at
    have od : Order0 ops (L ++ i0 :: flat t) := od
    have dcl : Closed ops (· ∈ L) := by have := od.dclosed L.length; rwa [take_pre] at this
    have bin : ∀ j k, j ∈ L → bef j k = true → k ∈ L := fun j k hj hb => by have := od.bef_in ck L.length j k (by rw [take_pre]; exact hj) hb; rwa [take_pre] at this
    have odx : ∀ x ∈ alts (.eff i0 t more), Order0 ops (L ++ x.1 :: flat x.2) := fun x hx => by
      have h := okT_alt _ true L hok x hx
      have hn : x.2 ≠ .stop := by intro e; rw [e] at h; exact absurd (show true = false from h) (by simp)
      have := okT_order x.2 true (L ++ [x.1]) hn h
      rw [List.append_assoc] at this; exact this
    have nix : ∀ x ∈ alts (.eff i0 t more), x.1 ∉ L := fun x hx => by have := (odx x hx).not_mem L.length x.1 head_at; rwa [take_pre] at this
    have hne1 : ¬ Lst listed i0 := fun h => by have := od.not_mem L.length i0 hpe0; rw [take_pre] at this; exact this (hLD i0 h)
    have hlt1 : i0 < ops.size := od.inn i0 (by simp)
    have listed_of : Region.ready .any ops listed = [] → ∀ i, i < ops.size → Lst listed i := by
      intro hr
      have key : ∀ q i : Nat, (L ++ i0 :: flat t)[q]? = some i → Lst listed i := by
        intro q
        induction q using Nat.strongRecOn with
        | _ q ihq =>
          intro i hi
          by_cases hl : Lst listed i
          · exact hl
          · exfalso
            have hlt := od.inn i (List.mem_iff_getElem?.2 ⟨q, hi⟩)
            have : i ∈ Region.ready .any ops listed := by
              refine mem_ready.2 ⟨?_, ops[i], Array.getElem?_eq_getElem hlt, fun e he hb => ?_⟩
              · have h0 : listed.getD i false = false := by simpa [Lst] using hl
                have : i < listed.size := by omega
                simp only [Array.getD_eq_getD_getElem?, Array.getElem?_eq_getElem this, Option.getD_some] at h0 ⊢
                exact h0
              · obtain ⟨q', hq', he'⟩ := od.deps q i _ hi (Array.getElem?_eq_getElem hlt) e he hb
                exact ihq q' hq' _ he'
            rw [hr] at this
            simp at this
      intro i hi
      obtain ⟨q, hq⟩ := List.mem_iff_getElem?.1 (od.all i hi)
      exact key q i hq
    have step : ∀ i ∈ Region.ready .any ops listed, ∀ f, fuel = f + 1 → wpOpIn (rf ro) 0 P ops Q' i (wpAnyIn (rf ro) 0 P .any ops Q' f (listed.setIfInBounds i true)) ⟨fs.toArray, ds⟩ w := by
      intro i hi f hf
      obtain ⟨hi0, o, ho, hdep⟩ := mem_ready.1 hi
      have hlt : i < ops.size := (Array.getElem?_eq_some_iff.1 ho).1
      have hnl : ¬ Lst listed i := by
        unfold Lst
        have : i < listed.size := by omega
        simp only [Array.getD_eq_getD_getElem?, Array.getElem?_eq_getElem this, Option.getD_some] at hi0 ⊢
        simp [hi0]
      have hnf := nf_of ck hA hc ho hnl hdep
      have hu' := unl_set hs hlt hnl
      have hc' : Closed ops (Lst (listed.setIfInBounds i true)) := by
        intro j oj hoj hj e he hb
        rw [lst_set (by omega)] at hj ⊢
        rcases hj with hj | rfl
        · exact .inl (hc j oj hoj hj e he hb)
        · rw [ho] at hoj; cases hoj; exact .inl (hdep e he hb)
      have hanc : ∀ j, bef i j = true → Lst listed j := fun j hj => bef_closed ck.befs hc i j hj (fun o' ho' e he hb => by rw [ho] at ho'; cases ho'; exact hdep e he hb)
      by_cases hin : i ∈ L
      · obtain ⟨r, hr, h1, h2, h3, h4, h5, h6⟩ := (hpend i hin hnl).rec_
        rw [ho] at h2; cases h2
        have heq := nf_eq ck (fun _ _ => rfl) hnf h3
        have hw := wanted_eq hA.len h4 heq
        have hx := exec_eq ck ho heq
        have cont : wpAnyIn (rf ro) 0 P .any ops Q' f (listed.setIfInBounds i true) ⟨(put fs r.o.dst r.v).toArray, ds⟩ w := by
          refine ih (f + (ops.size - L.length)) (by omega) f L _ _ _ fsD w D vals rfl hok (by simpa using hs) (by omega) hc' ?_ ?_ hAD ?_ hpass
          · intro j hj
            rcases (lst_set (by omega)).1 hj with hj | rfl
            · exact hLD j hj
            · exact hin
          · refine agree_congr (hA.put ck ho hnl r.v) (fun j => (lst_set (by omega)).symm) (fun j _ => ?_)
            by_cases hji : j = i
            · subst hji; simp [h5]
            · simp [hji]
          · intro j hj hjl
            exact hpend j hj (fun h => hjl ((lst_set (by omega)).2 (.inl h)))
        unfold wpOpIn
        rw [ho]
        simp only
        rcases h6 with ⟨_, g1, g2⟩ | ⟨g1, g2⟩
        · rw [hw, g1, if_pos rfl]
          refine VRes.wpIn (ck.dfr _ _ ho) (.inl ⟨r.v, w, by rw [← g2, ← hx]; rfl, ?_⟩)
          show wpAnyIn (rf ro) 0 P .any ops Q' f (listed.setIfInBounds i true) (Act.put ⟨fs.toArray, ds⟩ r.o.dst r.v) w
          rw [put_eq]; exact cont
        · rw [hw, g1, if_neg (by simp), put_eq, ← g2]; exact ⟨fun _ _ => trivial, cont⟩
      · rcases hcov i hlt with h | ⟨x, hx, h⟩
        · exact absurd h hin
        have hxl : ¬ Lst listed x.1 := fun h => nix x hx (hLD x.1 h)
        have hix : i = x.1 := by
          rcases h with h | h
          · exact h
          · exact absurd (hanc _ h) hxl
        obtain ⟨o', ho', hwe, hve⟩ := passT_alt _ hpass x hx
        have hokx := okT_alt _ true L hok x hx
        have odi := odx x hx
        obtain ⟨xi, xt⟩ := x
        simp only at hix hve ho' hokx odi
        subst hix
        rw [ho] at ho'; cases ho'
        have hlen2 : (L ++ i :: flat xt).length ≤ ops.size := by
          have := List.Nodup.length_le_of_subset odi.nodup (l₂ := List.range ops.size) (fun i hi => List.mem_range.2 (odi.inn i hi))
          simpa using this
        rw [List.length_append, List.length_cons] at hlen2
        have dep : ∀ e ∈ o.after, Region.binds .any e = true → e.on ∈ L := fun e he hb => by
          obtain ⟨q, hq, hqe⟩ := odi.deps L.length i o head_at ho e he hb
          have : e.on ∈ (L ++ i :: flat xt).take L.length := List.mem_iff_getElem?.2 ⟨q, by rw [List.getElem?_take_of_lt hq]; exact hqe⟩
          rwa [take_pre] at this
        have hnfD := nf_of ck hAD dcl ho hin dep
        have heq := nf_eq ck (fun _ _ => rfl) hnf hnfD
        have hw := wanted_eq hA.len hAD.len heq
        have hxx := exec_eq ck ho heq
        unfold wpOpIn
        rw [ho]
        simp only
        rw [hw, hwe, if_pos rfl]
        refine VRes.wpIn (ck.dfr _ _ ho) ?_
        rw [show execOp (Act.eval ⟨fs.toArray, ds⟩) o = execOp (Act.eval ⟨fs.toArray, []⟩) o from rfl, hxx]
        refine hve.mono ?_ (fun ch w' h => hE ch w' fs h)
        rintro v w' ⟨hst, hps⟩
        rw [put_eq]
        have hvb : ∀ j, j ≠ i → vals j = (fun j => if j = i then v else vals j) j := fun j hj => by simp [hj]
        refine ih (f + (ops.size - (L ++ [i]).length)) (by rw [List.length_append, List.length_cons, List.length_nil]; omega) f (L ++ [i]) xt _ _ _ w' _ (fun j => if j = i then v else vals j) rfl hokx (by simpa using hs) (by omega) hc' ?_ ?_ ?_ ?_ hps
        · intro j hj
          rcases (lst_set (by omega)).1 hj with hj | rfl
          · exact List.mem_append_left _ (hLD j hj)
          · simp
        · exact agree_congr (hA.put ck ho hnl v) (fun j => (lst_set (by omega)).symm) (fun _ _ => rfl)
        · exact agree_congr (hAD.put ck ho hin v) (fun j => by simp) (fun _ _ => rfl)
        · intro j hj hjl
          have hjl' : ¬ Lst listed j := fun h => hjl ((lst_set (by omega)).2 (.inl h))
          have hji : j ≠ i := fun h => hjl ((lst_set (by omega)).2 (.inr h))
          have hj' : j ∈ L := by
            rw [List.mem_append, List.mem_singleton] at hj
            exact hj.resolve_right hji
          obtain ⟨r, hr, h1, h2, h3, h4, h5, h6⟩ := (hpend j hj' hjl').rec_
          refine ⟨r, List.mem_cons_of_mem _ hr, h1, h2, nf_congr h3 (fun k hk => hvb k (fun e => hin (e ▸ bin j k hj' hk))), h4, by rw [← h5]; exact (hvb j hji).symm, ?_⟩
          rcases h6 with ⟨g1, g2, g3⟩ | h6
          · refine .inl ⟨g1, g2, hst r hr g1 ?_⟩
            rw [h1]
            cases hb : bef i j with
            | false => rfl
            | true => exact absurd (hanc j hb) hjl'
          · exact .inr h6
    cases fuel with
    | zero => exact absurd (unl_zero (by omega) hlt1) hne1
    | succ f => exact ⟨fun hr => absurd (listed_of hr i0 hlt1) hne1, fun i hi => step i hi f rfl⟩
theorem region_tree {ro : Option Nat} {ds : List Deferred} (hm : P.follows .mixedOrders = true) {id : Nat} {ops : Array Oper} {bef : Nat → Nat → Bool} {fs : List Value} {w : World} {Q : List Value → World → Prop} {E : List PanicEntry → World → Prop} {Q' : Exit → Act → World → Prop} (ck : Checks ops bef fs)
    {t : OT} (ok : OkT ops bef true [] t) (hQ : ∀ (fs : List Value) (w : World), Q fs w → Q' .normal ⟨fs.toArray, ds⟩ w) (hE : ∀ (ch : List PanicEntry) (w : World) (fs : List Value), E ch w → Q' (.panic ch) ⟨fs.toArray, ds⟩ w)
    (h : PassT P ops bef Q E t [] fs (w.drewN 1)) : (Code.region id ops true).wpIn (rf ro) 0 P Q' ⟨fs.toArray, ds⟩ w := by
  refine wpIn_region_any hm ?_
  have hl : ∀ i, ¬ Lst (Array.replicate ops.size false) i := by
    intro i; unfold Lst
    simp only [Array.getD_eq_getD_getElem?, Array.getElem?_replicate]
    split <;> simp
  refine any_of_tree ck hQ hE _ ops.size [] t _ fs fs _ [] (fun _ => undef) rfl ok (by simp) ?_ ?_ ?_ ?_ ?_ ?_ h
  · unfold unl; exact Nat.le_trans List.countP_le_length (by simp)
  · exact fun i o _ hi => absurd hi (hl i)
  · exact fun i hi => absurd hi (hl i)
  · exact ⟨rfl, fun t => .inr ⟨fun i hi => absurd hi (hl i), rfl⟩⟩
  · exact ⟨rfl, fun t => .inr ⟨fun i hi => by simp at hi, rfl⟩⟩
  · intro i hi; simp at hi
def treeB (ops : List Oper) (m : List Nat) : Bool → List Nat → OT → Bool
  | _, L, .lin C => orderP ops m (L ++ C) L.length
  | _, L, .qop i t => treeB ops m true (L ++ [i]) t
  | top, L, .eff i t more => (!top || (List.range ops.length).all fun j => L.contains j || (alts (.eff i t more)).any fun x => j == x.1 || befM m j x.1) && treeB ops m true (L ++ [i]) t && treeB ops m false L more
  | top, _, .stop => !top
theorem tree_of {ops : List Oper} {m : List Nat} : ∀ (t : OT) (top : Bool) (L : List Nat), treeB ops m top L t = true → OkT ops.toArray (befM m) top L t
  | .lin C, _, L, h => orderP_of h
  | .qop i t, _, L, h => tree_of t true (L ++ [i]) h
  | .eff i t more, top, L, h => by
    simp only [treeB, Bool.and_eq_true] at h
    obtain ⟨⟨h1, h2⟩, h3⟩ := h
    refine ⟨fun ht j hj => ?_, tree_of t true _ h2, tree_of more false L h3⟩
    subst ht
    simp only [Bool.not_true, Bool.false_or, List.all_eq_true, List.mem_range, Bool.or_eq_true, List.contains_iff_mem, List.any_eq_true, beq_iff_eq] at h1
    exact h1 j (by simpa using hj)
  | .stop, top, _, h => by
    show top = false
    simpa [treeB] using h
/-- The walk of a tree. -/
def HT (P : Program) (T : Tab) (V : Env) (R : Ending → World → Prop) (F : Exit → Act → World → Prop) (all : List Oper) (m : List Nat) (t : OT) (pnd : List PR) (k : List KI) (fs : List Value) (w : World) : Prop :=
  ∀ D, POk P T D pnd → PassT P all.toArray (befM m) (fun fs w => den P V F k .normal (act V fs) w) (fun ch w => ∀ fs, den P V F k (.panic ch) (act V fs) w) t D fs w
theorem hold_tree {V : Env} (hP : Ok P T) {R : Ending → World → Prop} {F : Exit → Act → World → Prop} {id : Nat} {l : List Oper} {k : List KI} {fs : List Value} {w : World} (m : List Nat) (t : OT)
    (h1 : (befsB l m && smallB l m && checkB l m fs.length && treeB l m true [] t) = true) (h : HT P T V R F l m t [] k fs (w.drewN 1)) : Hold P T V R F (.code (.region id l.toArray true)) k fs w := by
  simp only [Bool.and_eq_true] at h1
  obtain ⟨⟨⟨h1, h2⟩, h3⟩, h4⟩ := h1
  exact region_tree hP.mixed (checks_of h1 h2 h3) (tree_of t true [] h4) (fun _ _ h => h) (fun ch w fs h => h fs) (h [] (fun r hr => by simp at hr))
theorem ht_stop {V : Env} {R : Ending → World → Prop} {F : Exit → Act → World → Prop} {all : List Oper} {m : List Nat} {pnd : List PR} {k : List KI} {fs : List Value} {w : World} : HT P T V R F all m .stop pnd k fs w := fun _ _ => trivial
theorem ht_lin {V : Env} {R : Ending → World → Prop} {F : Exit → Act → World → Prop} {all : List Oper} {m C : List Nat} {pnd : List PR} {k : List KI} {fs : List Value} {w : World} (hZ : (zipC all C).map (·.1) = C)
    (h : Hold P T V R F (.dops all m (zipC all C) pnd) k fs w) : HT P T V R F all m (.lin C) pnd k fs w := by
  intro D hD
  have := (show St P T V R F (.dops all m (zipC all C) pnd) k fs w from h) (zipC_ok all C) D hD
  rw [hZ] at this
  exact this
theorem ht_val (hP : Ok P T) {V : Env} {R : Ending → World → Prop} {F : Exit → Act → World → Prop} {all : List Oper} {m : List Nat} {i : Nat} {o : Oper} {t : OT} {pnd : List PR} {k : List KI} {fs : List Value} {w : World} {v : Value}
    (ho : all[i]? = some o) (hg : gd all fs o = .run) (hv : valV T fs w o.op = some v) (h : HT P T V R F all m t (addP i fs v (ldO T o.op) pnd) k (put fs o.dst v) w) : HT P T V R F all m (.qop i t) pnd k fs w := by
  intro D hD
  refine ⟨o, by simpa using ho, .inr ⟨gd_run hg, v, valV_run hP hv, h _ ?_⟩⟩
  intro r hr hrun
  rcases List.mem_cons.1 hr with rfl | hr
  · cases hl : ldO T o.op with
    | none => exact .inl (fun w' => valV_run hP (by rw [valV_world hl w']; exact hv))
    | some x =>
      obtain ⟨t, d, a⟩ := x
      refine .inr ⟨⟨i, t, evR fs d, ev fs a, v⟩, List.mem_cons_self, rfl, fun w' hw' => valV_run hP ?_⟩
      rw [ldO_eq hl]
      exact hw'
  · rcases hD r hr hrun with h1 | ⟨p, h1, h2⟩
    · exact .inl h1
    · refine .inr ⟨p, ?_, h2⟩
      cases ldO T o.op with
      | none => exact h1
      | some x => exact List.mem_cons_of_mem _ h1
theorem ht_stays {all : List Oper} {m : List Nat} {i : Nat} {pnd : List PR} {D : List Rec} {w' : World} (hD : POk P T D pnd) (hs : staysP T m i w' pnd) : Stays P (befM m) i D w' := by
  intro r hr hrun hb
  rcases hD r hr hrun with h1 | ⟨p, h1, h2, h3⟩
  · exact h1 w'
  · exact h3 w' (staysP_mem hs h1 (by rw [h2, befN_eq]; exact hb))
theorem ht_rec {i : Nat} {o : Oper} {v : Value} {fs : List Value} {D : List Rec} {pnd : List PR} (hD : POk P T D pnd) : POk P T (⟨i, o, v, fs, false⟩ :: D) pnd := by
  intro r hr hrun
  rcases List.mem_cons.1 hr with rfl | hr
  · simp at hrun
  · exact hD r hr hrun
theorem ht_eff (hP : Ok P T) {V : Env} {R : Ending → World → Prop} {F : Exit → Act → World → Prop} {all : List Oper} {m : List Nat} {i : Nat} {o : Oper} {t more : OT} {pnd : List PR} {k : List KI} {fs : List Value} {w w' : World} {v : Value}
    (ho : all[i]? = some o) (hg : gd all fs o = .run) (hv : effV T fs w o.op = some (v, w')) (hs : staysP T m i w' pnd) (h : HT P T V R F all m t pnd k (put fs o.dst v) w') (h2 : HT P T V R F all m more pnd k fs w) : HT P T V R F all m (.eff i t more) pnd k fs w := by
  intro D hD
  refine ⟨⟨o, by simpa using ho, gd_run hg, ?_⟩, h2 D hD⟩
  obtain ⟨y, g1, g2⟩ := effV_run hP hv
  rcases g2 with rfl | ⟨rfl, rfl⟩
  · exact .inl ⟨v, w', g1, ht_stays (all := all) hD hs, h _ (ht_rec hD)⟩
  · exact .inr (.inl ⟨w', g1, ht_stays (all := all) hD hs, h _ (ht_rec hD)⟩)
theorem ht_call (hP : Ok P T) {V : Env} {R : Ending → World → Prop} {F : Exit → Act → World → Prop} {all : List Oper} {m : List Nat} {i : Nat} {o : Oper} {t more : OT} {pnd : List PR} {k : List KI} {fs : List Value} {w : World}
    (ho : all[i]? = some o) (hg : gd all fs o = .run) (h : loudW P T fs o.op w (fun v w' => staysP T m i w' pnd ∧ HT P T V R F all m t pnd k (put fs o.dst v) w') (fun ch w' => ∀ fs', Hold P T V R F (.ex (.panic ch)) k fs' w')) (h2 : HT P T V R F all m more pnd k fs w) : HT P T V R F all m (.eff i t more) pnd k fs w := by
  intro D hD
  refine ⟨⟨o, by simpa using ho, gd_run hg, ?_⟩, h2 D hD⟩
  refine (loudW_run hP h).mono ?_ (fun _ _ h => h)
  rintro v w' ⟨hs, h⟩
  exact ⟨ht_stays (all := all) hD hs, h _ (ht_rec hD)⟩
end Go.Wk
