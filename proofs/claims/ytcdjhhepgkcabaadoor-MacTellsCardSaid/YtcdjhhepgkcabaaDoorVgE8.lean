/- Vg, part E8: makes, literals, copy. -/
import Derived.Test.YtcdjhhepgkcabaaDoorVgE7
namespace Go.Vg
open Go Go.RowKit

/-- A part's cells are written over what was there. -/
theorem fold_set (off : Nat) : ∀ (vs : List Value) (k : Nat) (cs : Array Value), off + k + vs.length ≤ cs.size →
    ((vs.zipIdx k).foldl (fun (cs : Array Value) (p : Value × Nat) => cs.setIfInBounds (off + p.2) p.1) cs).toList = cs.toList.take (off + k) ++ vs ++ cs.toList.drop (off + k + vs.length)
  | [], k, cs, h => by simp
  | v :: vs, k, cs, h => by
    simp only [List.length_cons] at h
    have ih := fold_set off vs (k + 1) (cs.setIfInBounds (off + k) v) (by simp; omega)
    have st := list_seg_step cs.toList (off + k) v vs (by simp; omega)
    simp only [List.zipIdx_cons, List.foldl_cons, ih, Array.toList_setIfInBounds, List.length_cons]
    exact st

theorem fill_cons {place : Nat → Option (Nat × Nat)} {i off size : Nat} {v : Value} {rest : List (Nat × Value)} {c1 c2 c3 : List Value} {cs : List Value} (hp : place i = some (off, size)) (hs : v.cells.size = size)
    (hc : cs = c1 ++ c2 ++ c3) (h1 : c1.length = off) (h2 : c2.length = size) :
    Instr.fill place cs.toArray ((i, v) :: rest) = Instr.fill place (c1 ++ v.cells.toList ++ c3).toArray rest := by
  subst hc
  have hle : ¬ (off + v.cells.size > (c1 ++ c2 ++ c3).toArray.size) := by simp; omega
  simp only [Instr.fill, hp, hs, ne_eq, not_true_eq_false, decide_false, Bool.false_or, decide_eq_true_eq]
  rw [← hs, if_neg hle]
  congr 1
  have := fold_set off v.cells.toList 0 (c1 ++ c2 ++ c3).toArray (by simp; omega)
  apply Array.ext'
  rw [Nat.add_zero] at this
  have e : v.cells.zipIdx.toList = v.cells.toList.zipIdx 0 := by simp
  rw [← Array.foldl_toList, e, this]
  simp only [Array.length_toList]
  rw [List.append_assoc c1 c2 c3, List.take_left' h1, ← List.drop_drop, List.drop_left' h1, List.drop_left' (by omega)]

section
variable {P : Program} {tab : Tab} {w0 : World} {F : Env} {σ : Sg} {s : St} {a : Act} {w : World} {o : Oper}

theorem stP_cases {z x : D} {i : Nat} (h : stP z [i] x) : (∃ k n l, z = .arr k n l ∧ i < n ∧ isIntK k x = true) ∨ ∃ fs, z = .st fs ∧ i < fs.length ∧ sk x = sk (fs.getD i default) := by
  cases z with
  | arr k n l => exact .inl ⟨k, n, l, rfl, h.1, h.2.2⟩
  | st fs => exact .inr ⟨fs, rfl, h.1, h.2⟩
  | _ => exact h.elim

theorem subS_one (s : Sk) : subS s [] = s := by cases s <;> rfl

theorem okP_nil (x : D) : okP x [] := by cases x <;> exact True.intro

theorem stP_one {z x : D} {i : Nat} (h : stP z [i] x) : okP z [i] ∧ (∀ vs w X us, CR w X z vs → CR w X x us → us.length = (subS (sk z) [i]).size) := by
  rcases stP_cases h with ⟨k, n, l, rfl, h1, h2⟩ | ⟨fs, rfl, h1, h2⟩
  · refine ⟨⟨h1, rfl⟩, fun vs w X us _ hx => ?_⟩
    rw [isIntK_eq h2] at hx
    simp only [CR] at hx
    simp [hx.1, sk, subS, Sk.size]
  · refine ⟨⟨h1, okP_nil _⟩, fun vs w X us _ hx => ?_⟩
    rw [← CR.sklen hx, h2]
    simp only [sk, subS]
    rw [sks_getD fs i h1]

theorem parts_sound (r : Rel w0 F σ s a w) {place : Nat → Option (Nat × Nat)} {ty : Nat → TypeId} : ∀ (ps : List (Nat × Operand)) (z : D) (cs : List Value), CR w (Xs σ s.M w) z cs →
    (∀ i x, stP z [i] x → place i = some (offS (sk z) [i], (subS (sk z) [i]).size)) → (aParts tab ty z (ps.map fun p => (p.1, evA s.T p.2))).1 →
    ∃ cs', Instr.fill place cs.toArray (ps.map fun p => (p.1, a.eval p.2)) = some cs'.toArray ∧ CR w (Xs σ s.M w) (aParts tab ty z (ps.map fun p => (p.1, evA s.T p.2))).2 cs'
  | [], z, cs, hc, _, _ => ⟨cs, by simp [Instr.fill], by simpa [aParts] using hc⟩
  | (i, x) :: ps, z, cs, hc, hpl, h => by
    have hx := ev_sound r x
    simp only [List.map_cons] at h ⊢
    obtain ⟨y, hev⟩ : ∃ y, evA s.T x = .d y := by
      cases hev : evA s.T x with
      | d y => exact ⟨y, rfl⟩
      | _ => rw [hev] at h; exact h.elim
    rw [hev] at h hx ⊢
    simp only [aParts] at h ⊢
    obtain ⟨htup, hst, hrest⟩ := h
    have hy : VR1 w (Xs σ s.M w) (castD tab (ty i) y) (a.eval x) := castD_sound (VR.one hx htup)
    have hus := VR1.cells hy
    obtain ⟨v1, v2, v3, rfl, hl, hll, hnew⟩ := setP_reads [i] z _ cs _ hc hst hus
    have hsz := (stP_one hst).2 _ w (Xs σ s.M w) _ hc hus
    have ih := parts_sound (place := place) (ty := ty) r ps (setP z [i] (castD tab (ty i) y)) _ hnew (fun j x' hx' => by
      rw [sk_setP [i] z _ hst]
      have hok : okP z [j] := by
        have := (stP_one hx').1
        rw [okP_iff, sk_setP [i] z _ hst, ← okP_iff] at this
        exact this
      rcases stP_cases hst with ⟨k, n, l, rfl, _, _⟩ | ⟨fs, rfl, _, _⟩
      · exact hpl j (.val (.int k 0)) ⟨hok.1, rfl, by simp [isIntK]⟩
      · exact hpl j (fs.getD j default) ⟨hok.1, rfl⟩) hrest
    obtain ⟨cs', hf, hcr⟩ := ih
    refine ⟨cs', ?_, hcr⟩
    rw [fill_cons (hpl i _ hst) (by rw [← hsz]; simp) rfl hl (by rw [hll, ← hsz]), hf]

theorem parts_agg {ty : Nat → TypeId} : ∀ (ps : List (Nat × AV)) (z : D), z.isAgg = true → (aParts tab ty z ps).2.isAgg = true
  | [], z, h => h
  | (i, .d x) :: ps, z, h => by
    simp only [aParts]
    exact parts_agg ps _ (by cases z <;> first | rfl | exact h)
  | (_, .any) :: _, z, h => h
  | (_, .ptr _ _) :: _, z, h => h
  | (_, .own _ _ _ _ _) :: _, z, h => h
  | (_, .row _) :: _, z, h => h
  | (_, .dat _) :: _, z, h => h
  | (_, .rpt _ _) :: _, z, h => h
  | (_, .bq _ _) :: _, z, h => h

theorem mapM_fields (T : TabOk P tab) (fs : List Field) (h : ∀ f ∈ fs, (tg tab f.type).size ≠ 0) : fs.mapM (fun f => (P.info? f.type).map fun i => (f.offset, i.size)) = some (fs.map fun f => (f.offset, (tg tab f.type).size)) := by
  induction fs with
  | nil => rfl
  | cons f fs ih =>
    obtain ⟨i, z, hi, hsz, _⟩ := (T f.type (tg_lt (h f (by simp)))).info
    rw [List.mapM_cons, ih (fun g hg => h g (by simp [hg]))]
    simp [hi, hsz]

theorem build_sound (T : TabOk P tab) (r : Rel w0 F σ s a w) {t : TypeId} {ps : Array (Nat × Operand)} (ho : o.op = .build t ps) (hc : (aBuild tab t (ps.toList.map fun p => (p.1, evA s.T p.2)) s.M).c) :
    Good P w0 F o s a w (aBuild tab t (ps.toList.map fun p => (p.1, evA s.T p.2)) s.M) := by
  have run : ∀ cs : List Value, P.built t (ps.toList.map fun p => (p.1, a.eval p.2)) = some cs.toArray → (execOp a.eval o).run P w = .ok (.value (.agg cs.toArray)) w := fun cs h => by
    unfold execOp
    have h2 := run_build (P := P) w t (ps.map fun (i, x) => (i, a.eval x)) cs.toArray (by simpa using h)
    simp only [ho, Sem.run_bind, h2, Result.andThen_ok, Sem.run_pure]
  unfold aBuild at hc ⊢
  split at hc
  · rename_i ts hty
    have R := T t (tg_lt' (by rw [hty]; simp))
    obtain ⟨i, zv, hi, hsz, _, hz, hzr⟩ := R.info
    obtain ⟨fa, zs, hu, hzz, hzl, hfa, hall⟩ := R.tst ts hty
    have hz0 := hzr w (Xs σ s.M w)
    have hz1 := VR1.cells hz0
    have hall' : ∀ f ∈ fa.toList, (tg tab f.type).size ≠ 0 := by
      intro f hf
      obtain ⟨j, hj, hjf⟩ := List.getElem_of_mem hf
      obtain ⟨fd, h1, h2, h3, h4, h5, h6⟩ := hall j (ts[j]'(by simpa [hfa] using hj)).1 (ts[j]'(by simpa [hfa] using hj)).2 (by rw [List.getElem?_eq_getElem])
      have : fa[j]? = some f := by rw [← Array.getElem?_toList, List.getElem?_eq_getElem hj, hjf]
      rw [this] at h1
      obtain rfl := Option.some.inj h1
      rw [h3]; exact h5
    have hmap := mapM_fields T fa.toList hall'
    obtain ⟨cs', hf, hcr⟩ := parts_sound r (place := fun x => ((fa.toList.map fun f => (f.offset, (tg tab f.type).size)).toArray[x]? : Option (Nat × Nat))) (tab := tab) (ty := fun i => (ts.getD i (0, 0)).2) ps.toList _ _ hz1 (fun j x hx => by
      rw [hzz] at hx ⊢
      have hj : j < zs.length := hx.1
      obtain ⟨fd, h1, h2, h3, h4, h5, h6⟩ := hall j (ts[j]'(by omega)).1 (ts[j]'(by omega)).2 (by rw [List.getElem?_eq_getElem])
      simp only [List.getElem?_toArray, List.getElem?_map, Array.getElem?_toList, h1, Option.map_some, Option.some.injEq, Prod.mk.injEq]
      refine ⟨?_, ?_⟩
      · rw [h2, h4]; simp [sk, offS, offS_nil]
      · rw [h3, ← h6]
        simp only [sk, subS]
        rw [sks_getD zs j hj]) hc
    refine good_c (r := r) (run cs' ?_) (VR1.up (VR1.of_agg hcr ?_))
    · unfold Program.built
      simp only [hi, hu, hz, hmap]
      simpa using hf
    · exact parts_agg _ _ (by rw [hzz]; rfl)
  · rename_i n e k m l hty hzz
    obtain ⟨hs1, hc⟩ := hc
    have R := T t (tg_lt' (by rw [hty]; simp))
    obtain ⟨i, zv, hi, hsz, _, hz, hzr⟩ := R.info
    have hu := R.tarr _ _ hty
    obtain ⟨ie, ze, hie, hsze, _, _, _⟩ := (T e (tg_lt (by omega))).info
    have hz0 := hzr w (Xs σ s.M w)
    rw [hzz] at hz0
    have hz1 := VR1.cells hz0
    obtain ⟨cs', hf, hcr⟩ := parts_sound r (place := fun i => some (i * ie.size, ie.size)) (tab := tab) (ty := fun _ => e) ps.toList _ _ hz1 (fun j x hx => by
      simp only [sk, offS, subS, Sk.size, hsze, hs1, Nat.mul_one]) hc
    refine good_c (r := r) (run cs' ?_) (VR1.up (VR1.of_agg hcr ?_))
    · unfold Program.built
      simp only [hi, hu, hz, hie]
      simpa using hf
    · exact parts_agg _ _ rfl
  · exact hc.elim

end
end Go.Vg
