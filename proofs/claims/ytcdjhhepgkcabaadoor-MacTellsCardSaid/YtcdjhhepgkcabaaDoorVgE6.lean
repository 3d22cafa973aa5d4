/- Vg, part E6: slices, min, max, conversions, calls. -/
import Derived.Test.YtcdjhhepgkcabaaDoorVgE5
namespace Go.Vg
open Go Go.RowKit

section
variable {P : Program} {tab : Tab} {w0 : World} {F : Env} {σ : Sg} {s : St} {a : Act} {w : World} {o : Oper}

theorem bnd_sound (r : Rel w0 F σ s a w) {d i : Int} {x : Option Operand} (h : bnd d (x.map (evA s.T)) = some i) : (x.map a.eval = none ∧ i = d) ∨ ∃ k, x.map a.eval = some (.int k i) := by
  cases x with
  | none => simp [bnd] at h; exact .inl ⟨rfl, h.symm⟩
  | some x =>
    have hx := ev_sound r x
    simp only [Option.map_some] at h ⊢
    unfold bnd at h
    split at h
    · rename_i heq; cases heq
    · rename_i k j heq
      rw [Option.some.inj heq] at hx
      obtain rfl := Option.some.inj h
      exact .inr ⟨k, by rw [ar_int hx]⟩
    · cases h

theorem run_bounds {b : Bool} {len cap : Nat} {lo hi : Option Value} {i j : Int} (hlo : (lo = none ∧ i = 0) ∨ ∃ k, lo = some (.int k i)) (hhi : (hi = none ∧ j = (len : Int)) ∨ ∃ k, hi = some (.int k j))
    (h0 : 0 ≤ i) (h1 : i ≤ j) (h2 : j ≤ (cap : Int)) : (Instr.sliceBounds b len cap lo hi none).run P w = .ok (i.toNat, j.toNat, cap) w := by
  have hj : (0 : Int) ≤ j := Int.le_trans h0 h1
  rcases hlo with ⟨rfl, rfl⟩ | ⟨k, rfl⟩ <;> rcases hhi with ⟨rfl, rfl⟩ | ⟨k', rfl⟩
  · simp [Instr.sliceBounds]
  · simp [Instr.sliceBounds, Instr.sliceBound, asIntOf, hj, h2]
  · have h1' : i ≤ (len : Int) := h1
    simp [Instr.sliceBounds, Instr.sliceBound, asIntOf, h0, h1']
  · have h3 : i ≤ (j.toNat : Int) := by omega
    simp [Instr.sliceBounds, Instr.sliceBound, asIntOf, hj, h2, h0]
    intro h; omega

theorem slice_sound (T : TabOk P tab) (r : Rel w0 F σ s a w) {t : TypeId} {x : Operand} {lo hi mx : Option Operand} (ho : o.op = .slice t x lo hi mx)
    (hc : (aSlice tab t (evA s.T x) (lo.map (evA s.T)) (hi.map (evA s.T)) (mx.map (evA s.T)) s.M).c) :
    Good P w0 F o s a w (aSlice tab t (evA s.T x) (lo.map (evA s.T)) (hi.map (evA s.T)) (mx.map (evA s.T)) s.M) := by
  have hx := ev_sound r x
  have run : ∀ v, (Instr.sliceAt t (a.eval x) (lo.map a.eval) (hi.map a.eval) (mx.map a.eval)).run P w = .ok v w → (execOp a.eval o).run P w = .ok (.value v) w := fun v h => by
    unfold execOp
    simp only [ho, Sem.run_bind, h, Result.andThen_ok, Sem.run_pure]
  unfold aSlice at hc ⊢
  split at hc
  · exact hc.elim
  · rename_i hmx
    have hmx' : mx.map a.eval = none := by cases mx <;> simp at hmx ⊢
    rw [hmx'] at run
    split at hc
    · rename_i k l e heqx hty
      rw [heqx] at hx
      obtain ⟨ad, c, hv, hlc, hat⟩ := hx
      simp only [List.cons.injEq, and_true] at hv
      have ht := (T t (tg_lt' (by rw [hty]; simp))).tslice _ hty
      split at hc
      · rename_i i j hbi hbj
        obtain ⟨h0, h1, h2, hs1⟩ := hc
        have hlo := bnd_sound r hbi
        have hhi := bnd_sound r hbj
        refine good_c (r := r) (v := .slice (if c = i.toNat then ad else ad.map (·.add (i.toNat * 1))) (j.toNat - i.toNat) (c - i.toNat)) (run _ ?_) ?_
        · rw [hv]
          simp only [Instr.sliceAt, Instr.slice, Sem.run_bind, run_underlying ht, Result.andThen_ok, run_bounds hlo hhi h0 h1 (show j ≤ (c : Int) by omega), index_add w T (show (tg tab e).size ≠ 0 by omega), hs1, Sem.run_pure]
        · refine ⟨_, _, by simp only [List.length_drop, List.length_take]; congr 3; omega, by simp only [List.length_drop, List.length_take]; omega, ?_⟩
          rw [List.map_drop, List.map_take, List.drop_take]
          by_cases hz : j.toNat - i.toNat = 0
          · rw [hz, List.take_zero]; exact .inl rfl
          · obtain ⟨β, o', rfl, hX, hcells⟩ := at_cells hat (by rw [List.length_map]; omega)
            rw [if_neg (by omega)]
            simp only [Option.map_some, addr_add_none, Nat.mul_one]
            exact At.cut hX hcells _ _
      · exact hc.elim
    · rename_i sz xs e heqx hty
      rw [heqx] at hx
      obtain ⟨ad, c, cs, hv, hlc, hat, her⟩ := hx
      simp only [List.cons.injEq, and_true] at hv
      have ht := (T t (tg_lt' (by rw [hty]; simp))).tslice _ hty
      split at hc
      · rename_i i j hbi hbj
        obtain ⟨h0, h1, h2, hs0, rfl⟩ := hc
        have hlo := bnd_sound r hbi
        have hhi := bnd_sound r hbj
        refine good_c (r := r) (v := .slice (if c = i.toNat then ad else ad.map (·.add (i.toNat * (tg tab e).size))) (j.toNat - i.toNat) (c - i.toNat)) (run _ ?_) ?_
        · rw [hv]
          simp only [Instr.sliceAt, Instr.slice, Sem.run_bind, run_underlying ht, Result.andThen_ok, run_bounds hlo hhi h0 h1 (show j ≤ (c : Int) by omega), index_add w T hs0, Sem.run_pure]
        · have hcut := (ER.cut i.toNat _ _ (ER.cut j.toNat xs cs her).2).1
          refine ⟨_, _, _, by simp only [List.length_drop, List.length_take]; congr 3; omega, by simp only [List.length_drop, List.length_take]; omega, ?_, hcut⟩
          rw [List.drop_take]
          by_cases hz : j.toNat - i.toNat = 0
          · left
            rw [← Nat.sub_mul, hz, Nat.zero_mul, List.take_zero]
          · have hlen := ER.len xs cs her
            have hpos : 0 < xs.length * (tg tab e).size := Nat.mul_pos (by omega) (by omega)
            obtain ⟨β, o', rfl, hX, hcells⟩ := at_cells hat (by omega)
            rw [if_neg (by omega)]
            simp only [Option.map_some, addr_add_none]
            exact At.cut hX hcells _ _
      · exact hc.elim
    · rename_i l heqx hty
      rw [heqx] at hx
      obtain ⟨ex, hb⟩ := ar_str hx
      have ht := (T t (tg_lt' (by rw [hty]; simp))).tstr hty
      split at hc
      · rename_i i j hbi hbj
        obtain ⟨h0, h1, h2⟩ := hc
        have hlo := bnd_sound r hbi
        have hhi := bnd_sound r hbj
        refine good_c (r := r) (v := .string ((bstr l).extract i.toNat j.toNat)) (run _ ?_) ?_
        · rw [ex]
          simp only [Instr.sliceAt, Instr.slice, Sem.run_bind, run_underlying ht, Result.andThen_ok, bstr_size, run_bounds hlo hhi h0 h1 h2, Sem.run_pure, Option.isSome_none, Bool.false_eq_true, if_false]
        · refine ⟨?_, fun z hz => hb z (List.mem_of_mem_take (List.mem_of_mem_drop hz))⟩
          congr 2
          apply ByteArray.ext
          rw [ByteArray.data_extract]
          unfold bstr
          apply Array.ext'
          simp [List.drop_take]
      · exact hc.elim
    · rename_i b p off len cap e heqx hty
      rw [heqx] at hx
      obtain ⟨z, β, k', n, l, α, hb, hσ, hp, hg, hn, hlc, hv, hα⟩ := hx
      have ht := (T t (tg_lt' (by rw [hty]; simp))).tslice _ hty
      split at hc
      · rename_i i j hbi hbj
        obtain ⟨h0, h1, h2, hs1⟩ := hc
        have hlo := bnd_sound r hbi
        have hhi := bnd_sound r hbj
        refine good_c (r := r) (v := .slice (some (if cap = i.toNat then α else α.add (i.toNat * 1))) (j.toNat - i.toNat) (cap - i.toNat)) (run _ ?_)
          ⟨z, β, k', n, l, _, hb, hσ, hp, hg, by omega, by omega, rfl, fun hpos => ?_⟩
        · rw [hv]
          simp only [Instr.sliceAt, Instr.slice, Sem.run_bind, run_underlying ht, Result.andThen_ok, run_bounds hlo hhi h0 h1 h2, index_add w T (show (tg tab e).size ≠ 0 by omega), hs1, Sem.run_pure]
          congr 2
          split <;> simp
        · rw [if_neg (by omega), hα (by omega), addr_add_none, Nat.mul_one, Nat.add_assoc]
      · exact hc.elim
    · rename_i b p n e heqx hty
      rw [heqx] at hx
      obtain ⟨z, β, hb, hσ, hp, hv⟩ := hx
      simp only [hb] at hc ⊢
      have ht := (T t (tg_lt' (by rw [hty]; simp))).tarr _ _ hty
      split at hc
      · rename_i k' m l hg
        split at hc
        · rename_i i j hbi hbj
          obtain ⟨h0, h1, h2, rfl, hs1⟩ := hc
          have hlo := bnd_sound r hbi
          have hhi := bnd_sound r hbj
          refine good_c (r := r) (v := .slice (some (if m = i.toNat then ⟨β, offS (sk z) p, none⟩ else (⟨β, offS (sk z) p, none⟩ : Addr).add (i.toNat * 1))) (j.toNat - i.toNat) (m - i.toNat)) (run _ ?_)
            ⟨z, β, k', m, l, _, hb, hσ, hp, hg, by omega, by omega, rfl, fun hpos => ?_⟩
          · rw [hv]
            simp only [Instr.sliceAt, Instr.sureAddr, Sem.run_bind, run_underlying ht, Result.andThen_ok, Sem.run_pure, run_bounds hlo hhi h0 h1 h2, index_add w T (show (tg tab e).size ≠ 0 by omega), hs1]
          · rw [if_neg (by omega), addr_add_none, Nat.mul_one]
        · exact hc.elim
      · exact hc.elim
    · exact hc.elim

theorem min_sound (r : Rel w0 F σ s a w) {c : Call} (mx : Bool) (ho : o.op = .call c) (hcal : c.callee = .builtin (if mx then .max else .min))
    (hc : (aMin (fun y x => if mx then decide (x < y) else decide (y < x)) (c.args.toList.map (evA s.T)) s.M).c) : Good P w0 F o s a w (aMin (fun y x => if mx then decide (x < y) else decide (y < x)) (c.args.toList.map (evA s.T)) s.M) := by
  unfold aMin at hc ⊢
  split at hc
  · rename_i k x k' y heq
    obtain rfl : k' = k := hc
    have hl : c.args.toList.length = 2 := by simpa using congrArg List.length heq
    obtain ⟨o1, o2, hargs⟩ : ∃ o1 o2, c.args.toList = [o1, o2] := by
      match hm : c.args.toList, hl with
      | [o1, o2], _ => exact ⟨o1, o2, rfl⟩
    have e1 : c.args = #[o1, o2] := by rw [← Array.toList_inj, hargs]
    rw [hargs] at heq
    simp only [List.map_cons, List.map_nil, List.cons.injEq, and_true] at heq
    have h1 := ev_sound r o1
    have h2 := ev_sound r o2
    rw [heq.1] at h1
    rw [heq.2] at h2
    have ex := ar_int h1
    have ey := ar_int h2
    cases mx
    · refine good_c (r := r) (v := .int k' (bif decide (y < x) then y else x)) ?_ (vr_of_int w (Xs σ s.M w) _ _)
      unfold execOp
      simp only [ho, resolve, hcal, e1, Sem.run_bind, Sem.run_pure, Result.andThen_ok, invoke, builtin, List.map_toArray, List.map_cons, List.map_nil, ex, ey, Bool.false_eq_true, if_false]
      simp only [Builtin.min_, List.foldlM_cons, List.foldlM_nil, Builtin.min2, Sem.run_bind, Sem.run_pure, Result.andThen_ok]
      congr 3
      by_cases h : y < x <;> simp [h]
    · refine good_c (r := r) (v := .int k' (bif decide (x < y) then y else x)) ?_ (vr_of_int w (Xs σ s.M w) _ _)
      unfold execOp
      simp only [ho, resolve, hcal, e1, Sem.run_bind, Sem.run_pure, Result.andThen_ok, invoke, builtin, List.map_toArray, List.map_cons, List.map_nil, ex, ey, if_true]
      simp only [Builtin.max_, List.foldlM_cons, List.foldlM_nil, Builtin.max2, Sem.run_bind, Sem.run_pure, Result.andThen_ok]
      congr 3
      by_cases h : x < y <;> simp [h]
  · exact hc.elim

/-- Slices over the call's own blocks read as data, too. -/
theorem toD_sound (r : Rel w0 F σ s a w) {y : AV} {v : Value} {d : D} (hy : AR σ s.M w (Xs σ s.M w) y v) (h : toD s.M y = some d) :
    VR w (fun β => β < w.heap.size) d v ∧ ((∃ x, y = .d x) → VR w (Xs σ s.M w) d v) := by
  have hX : ∀ β, Xs σ s.M w β → β < w.heap.size ∧ w.heap[β]? = w.heap[β]? := fun β hβ => ⟨hβ.1, rfl⟩
  cases y with
  | d x =>
    obtain rfl := Option.some.inj h
    exact ⟨VR.mono hX _ _ hy, fun _ => hy⟩
  | any => cases h
  | bq p q => cases h
  | rpt c i => cases h
  | ptr b p =>
    refine ⟨?_, fun ⟨x, hx⟩ => by cases hx⟩
    obtain ⟨z, β, hb, hσ, hp, hv⟩ := hy
    simp only [toD, hb, Option.some.injEq] at h
    subst h
    obtain ⟨β', cs, e, hσ', _, hh, hcr⟩ := r.mem b _ hb
    rw [hσ] at hσ'
    obtain rfl := Option.some.inj hσ'
    obtain ⟨us, hu, hcells⟩ := ptr_cells hh hcr hp
    exact (⟨β, _, us, by rw [hv], block_lt hh, CR.mono hX _ _ hu, hcells⟩ : CR w _ (.ref _) [v])
  | dat x =>
    obtain rfl := Option.some.inj h
    refine ⟨?_, fun ⟨x, hx⟩ => by cases hx⟩
    obtain ⟨β, o', cs, e, h1, h2, h3⟩ := hy
    exact (⟨β, o', cs, by rw [e], h1.1, CR.mono hX _ _ h2, h3⟩ : CR w _ (.ref _) [v])
  | row b =>
    refine ⟨?_, fun ⟨x, hx⟩ => by cases hx⟩
    obtain ⟨e, x, hb, hv⟩ := hy
    simp only [toD, hb, Option.some.injEq] at h
    subst h
    obtain ⟨cs, sz, n, h1, h2, h3⟩ := r.mem b _ hb
    have hat : ∃ ad cap, σ.rv b = .slice ad n cap ∧ n ≤ cap ∧ At w (fun β => β < w.heap.size) ad cs := by
      rcases h2.2 with ⟨h, h0⟩ | ⟨g, cap, cur, h, hg, hh, hnc, hcm, hsz, htk⟩
      · refine ⟨none, 0, by rw [h, h0], by omega, .inl ?_⟩
        exact List.eq_nil_of_length_eq_zero (by rw [h2.1, h0, Nat.zero_mul])
      · refine ⟨_, cap, h, hnc, .inr ⟨g, 0, rfl, block_lt hh, fun j u hu => ?_⟩⟩
        have := h2.cells (g := g) (by rw [h]; rfl) j u hu
        rw [addr_add_none] at this
        exact this
    obtain ⟨ad, cap, hv', hnc, hat⟩ := hat
    rw [hv']  at hv
    cases x with
    | ints k l => obtain ⟨_, rfl, rfl⟩ := h3; exact ⟨ad, cap, by rw [hv], hnc, hat⟩
    | slc sz' xs => obtain ⟨_, _, rfl, her⟩ := h3; exact ⟨ad, cap, cs, by rw [hv], hnc, hat, ER.mono hX _ _ _ her⟩
    | _ => exact h3.elim
  | own b p off len cap =>
    refine ⟨?_, fun ⟨x, hx⟩ => by cases hx⟩
    obtain ⟨z, β, k, n, l, α, hb, hσ, hp, hg, hn, hlc, hv, hα⟩ := hy
    simp only [toD, hb, hg, Option.some.injEq] at h
    subst h
    obtain ⟨β', cs, e, hσ', _, hh, hcr⟩ := r.mem b _ hb
    rw [hσ] at hσ'
    obtain rfl := Option.some.inj hσ'
    obtain ⟨us, hu, hcells⟩ := ptr_cells hh hcr hp
    rw [hg] at hu
    simp only [CR] at hu
    obtain ⟨hl, rfl⟩ := hu
    refine ⟨some α, cap, ?_, ?_, ?_⟩
    · rw [hv]; simp only [List.length_take, List.length_drop]; congr 3; omega
    · simp only [List.length_take, List.length_drop]; omega
    · by_cases h0 : cap = 0
      · left
        have : len = 0 := by omega
        simp [this]
      · rw [hα (by omega), List.map_take, List.map_drop]
        exact At.cut (X := fun β => β < w.heap.size) (block_lt hh) hcells off len

end
end Go.Vg
