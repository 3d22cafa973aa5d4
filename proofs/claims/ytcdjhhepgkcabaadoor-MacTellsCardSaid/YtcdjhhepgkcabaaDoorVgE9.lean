/- Vg, part E9: slice literals, makes, copy. -/
import Derived.Test.YtcdjhhepgkcabaaDoorVgE8
namespace Go.Vg
open Go Go.RowKit

theorem ER.set {w : World} {X : Nat → Prop} {sz : Nat} : ∀ (xs : List D) (cs : List Value) (i : Nat), ER w X sz xs cs → i < xs.length →
    ∃ v1 v2 v3, cs = v1 ++ v2 ++ v3 ∧ v1.length = i * sz ∧ v2.length = sz ∧ ∀ (x : D) (us : List Value), CR w X x us → us.length = sz → ER w X sz (xs.set i x) (v1 ++ us ++ v3)
  | [], _, i, _, h => by simp at h
  | d :: ds, cs, 0, hc, _ => by
    simp only [ER] at hc
    obtain ⟨v1, v2, rfl, hl, h1, h2⟩ := hc
    refine ⟨[], v1, v2, by simp, by simp, hl, fun x us hx hus => ?_⟩
    simp only [List.set_cons_zero, ER, List.nil_append]
    exact ⟨us, v2, rfl, hus, hx, h2⟩
  | d :: ds, cs, i + 1, hc, h => by
    simp only [ER] at hc
    obtain ⟨v1, v2, rfl, hl, h1, h2⟩ := hc
    obtain ⟨u1, u2, u3, rfl, hl1, hl2, hs⟩ := ER.set ds v2 i h2 (by simpa using h)
    refine ⟨v1 ++ u1, u2, u3, by simp, ?_, hl2, fun x us hx hus => ?_⟩
    · rw [List.length_append, hl, hl1, Nat.add_mul]; omega
    · simp only [List.set_cons_succ, ER]
      exact ⟨v1, u1 ++ us ++ u3, by simp, hl, h1, hs x us hx hus⟩

theorem madeCells_succ (z : Array Value) (hz : 0 < z.size) (n : Nat) : (madeCells z ((n + 1) * z.size)).toList = z.toList ++ (madeCells z (n * z.size)).toList := by
  unfold madeCells
  simp only [Array.toList_map, Array.toList_range]
  rw [show (n + 1) * z.size = z.size + n * z.size from by rw [Nat.add_mul]; omega, List.range_add, List.map_append, List.map_map]
  congr 1
  · apply List.ext_getElem
    · simp
    · intro i h1 h2
      simp only [List.length_map, List.length_range] at h1
      simp [Nat.mod_eq_of_lt h1, h1]
  · apply List.map_congr_left
    intro i _
    simp

theorem ER.made {w : World} {X : Nat → Prop} {z : Array Value} {d : D} (hz : 0 < z.size) (hd : CR w X d z.toList) : ∀ n, ER w X z.size (List.replicate n d) (madeCells z (n * z.size)).toList
  | 0 => by simp [ER, madeCells]
  | n + 1 => by
    rw [List.replicate_succ, madeCells_succ z hz]
    simp only [ER]
    exact ⟨_, _, rfl, by simp, hd, ER.made hz hd n⟩

section
variable {P : Program} {tab : Tab} {w0 : World} {F : Env} {σ : Sg} {s : St} {a : Act} {w : World} {o : Oper}

theorem Rel.blk_lt (r : Rel w0 F σ s a w) {b : Nat} {x : Blk} {β : Nat} (hb : look s.M b = some x) (hσ : σ.blk b = some β) : β < w.heap.size := by
  have hm := r.mem b x hb
  cases x with
  | fix z =>
    obtain ⟨γ, cs, e, q1, _, q3, _⟩ := hm
    rw [hσ] at q1
    obtain rfl := Option.some.inj q1
    exact block_lt q3
  | row e z =>
    obtain ⟨cs, sz, n, q1, q2, _⟩ := hm
    rw [hσ] at q1
    exact (q2.lt _ q1.symm).2

/-- A new row reads as data. -/
theorem new_at (r : Rel w0 F σ s a w) (cs : List Value) (e : TypeId) : At (w.alloc (.cells cs.toArray e)) (Xs σ s.M (w.alloc (.cells cs.toArray e))) (some ⟨w.heap.size, 0, none⟩) cs := by
  refine .inr ⟨w.heap.size, 0, rfl, ⟨by simp, r.okn.1 _ r.frm.size, fun b x hb hσ => ?_⟩, fun j v hv => ?_⟩
  · have := r.blk_lt hb hσ
    omega
  · rw [Nat.zero_add, cell_of_row _ w.heap.size j cs.toArray e (0, 0) (heap_alloc_new w _)]
    simpa using hv

theorem setInts_sound (r : Rel w0 F σ s a w) {k : IntKind} : ∀ (ps : List (Nat × Operand)) (l l' : List Int), setInts k l (ps.map fun p => (p.1, evA s.T p.2)) = some l' →
    Instr.fill (fun i => some (i * 1, 1)) (l.map (Value.int k)).toArray (ps.map fun p => (p.1, a.eval p.2)) = some (l'.map (Value.int k)).toArray ∧ l'.length = l.length
  | [], l, l', h => by
    simp [setInts] at h
    subst h
    exact ⟨by simp [Instr.fill], rfl⟩
  | (i, x) :: ps, l, l', h => by
    have hx := ev_sound r x
    simp only [List.map_cons] at h ⊢
    unfold setInts at h
    split at h
    · rename_i heq; cases heq
    · rename_i i' k' n rest heq
      obtain ⟨h1, h2⟩ := List.cons.inj heq
      obtain ⟨rfl, hev⟩ := Prod.mk.inj h1
      subst h2
      rw [hev] at hx
      have ex := ar_int hx
      by_cases hk : k' = k
      · subst hk
        simp only [decide_true, cond_true] at h
        by_cases hi : i < l.length
        · have hb : Nat.blt i l.length = true := by simpa [Nat.blt_eq] using hi
          simp only [hb, cond_true] at h
          have ih := setInts_sound r ps (l.set i n) l' h
          refine ⟨?_, by rw [ih.2, List.length_set]⟩
          have e : l.map (Value.int k') = (l.map (Value.int k')).take i ++ [(l.map (Value.int k'))[i]'(by simpa using hi)] ++ (l.map (Value.int k')).drop (i + 1) := by
            rw [List.append_assoc, List.singleton_append, List.getElem_cons_drop, List.take_append_drop]
          rw [fill_cons (c1 := (l.map (Value.int k')).take i) (c2 := [(l.map (Value.int k'))[i]'(by simpa using hi)]) (c3 := (l.map (Value.int k')).drop (i + 1)) rfl (by rw [ex]; rfl) e (by simp; omega) rfl]
          rw [ex, ← ih.1]
          congr 2
          rw [set_split l i n hi]
          simp [Value.cells, List.map_take, List.map_drop]
        · have hb : Nat.blt i l.length = false := by
            cases hbb : Nat.blt i l.length with
            | false => rfl
            | true => exact absurd (by simpa [Nat.blt_eq] using hbb) hi
          simp only [hb, cond_false] at h
          cases h
      · simp only [decide_eq_false hk, cond_false] at h
        cases h
    · cases h

theorem setXs_sound (r : Rel w0 F σ s a w) {e : TypeId} : ∀ (ps : List (Nat × Operand)) (xs xs' : List D) (cs : List Value), ER w (Xs σ s.M w) (tg tab e).size xs cs → setXs tab e xs (ps.map fun p => (p.1, evA s.T p.2)) = some xs' →
    ∃ cs', Instr.fill (fun i => some (i * (tg tab e).size, (tg tab e).size)) cs.toArray (ps.map fun p => (p.1, a.eval p.2)) = some cs'.toArray ∧ ER w (Xs σ s.M w) (tg tab e).size xs' cs' ∧ xs'.length = xs.length
  | [], xs, xs', cs, hc, h => by
    simp [setXs] at h
    subst h
    exact ⟨cs, by simp [Instr.fill], hc, rfl⟩
  | (i, x) :: ps, xs, xs', cs, hc, h => by
    have hx := ev_sound r x
    simp only [List.map_cons] at h ⊢
    unfold setXs at h
    split at h
    · rename_i heq; cases heq
    · rename_i i' y rest heq
      obtain ⟨h1, h2⟩ := List.cons.inj heq
      obtain ⟨rfl, hev⟩ := Prod.mk.inj h1
      subst h2
      rw [hev] at hx
      cases hb : (Nat.blt i xs.length && Nat.beq (sk (castD tab e y)).size (tg tab e).size && !y.isTup) with
      | false => simp only [hb, cond_false] at h; cases h
      | true =>
        simp only [hb, cond_true] at h
        simp only [Bool.and_eq_true, Bool.not_eq_true'] at hb
        obtain ⟨⟨hi, hsz⟩, htup⟩ := hb
        have hi' : i < xs.length := by simpa [Nat.blt_eq] using hi
        have hsz' := Nat.eq_of_beq_eq_true hsz
        have hy : VR1 w (Xs σ s.M w) (castD tab e y) (a.eval x) := castD_sound (VR.one hx htup)
        have hus := VR1.cells hy
        have hlen : (a.eval x).cells.toList.length = (tg tab e).size := by rw [← CR.sklen hus, hsz']
        obtain ⟨v1, v2, v3, rfl, hl1, hl2, hset⟩ := ER.set xs cs i hc hi'
        obtain ⟨cs', hf, her, hl⟩ := setXs_sound r ps _ xs' _ (hset _ _ hus hlen) h
        refine ⟨cs', ?_, her, by rw [hl, List.length_set]⟩
        rw [fill_cons (c1 := v1) (c2 := v2) (c3 := v3) rfl (by rw [← hlen]; simp) rfl hl1 hl2, hf]
    · cases h

theorem buildSlice_sound {C : Ctx} (T : TabOk P C.tab) (r : Rel w0 F σ s a w) {t : TypeId} {len : Nat} {ps : Array (Nat × Operand)} (ho : o.op = .buildSlice t len ps)
    (hc : (aBuildSlice C o.dst t len (ps.toList.map fun p => (p.1, evA s.T p.2)) s.M).c) : Good P w0 F o s a w (aBuildSlice C o.dst t len (ps.toList.map fun p => (p.1, evA s.T p.2)) s.M) := by
  have run : ∀ {e : TypeId} {sz : Nat} {zc : Array Value} {cs : List Value}, P.underlying t = some (.slice e) → (sizeOf e).run P w = .ok sz w → (∃ z, (zeroValue e).run P w = .ok z w ∧ z.cells = zc) → len * sz ≤ 16777216 →
      Instr.fill (fun i => some (i * sz, sz)) (madeCells zc (len * sz)) (ps.toList.map fun p => (p.1, a.eval p.2)) = some cs.toArray →
      (execOp a.eval o).run P w = .ok (.value (.slice (some ⟨w.heap.size, 0, none⟩) len len)) (w.alloc (.cells cs.toArray e)) := by
    intro e sz zc cs hu hs ⟨z, hz, hzc⟩ hle hf
    subst hzc
    have hpl : (ps.map fun x : Nat × Operand => (x.1, a.eval x.2)).toList = ps.toList.map fun p => (p.1, a.eval p.2) := by simp
    unfold execOp
    have hle' : ¬ (len * sz > 2 ^ 24) := by omega
    by_cases h0 : len * sz = 0
    · have hmz : madeCells z.cells (len * sz) = #[] := by rw [h0]; simp [madeCells]
      rw [hmz] at hf
      have hr0 : ∀ f : Nat → Value, Array.map f (Array.range 0) = #[] := fun f => by simp
      simp only [ho, Instr.buildSlice, Sem.run_bind, run_underlying hu, Result.andThen_ok, hs, h0, if_true, Sem.run_pure, hr0]
      rw [if_neg (by decide)]
      simp only [Sem.run_bind, Sem.run_pure, Result.andThen_ok, hr0]
      rw [hpl, hf]
      simp [newRow, newObj, Sem.run]
    · unfold madeCells at hf
      simp only [ho, Instr.buildSlice, Sem.run_bind, run_underlying hu, Result.andThen_ok, hs, if_neg hle', if_neg h0, hz, Sem.run_pure]
      rw [hpl, hf]
      simp [newRow, newObj, Sem.run]
  have zero : ∀ {e : TypeId}, (tg C.tab e).size ≠ 0 → ∃ z, (zeroValue e).run P w = .ok z w ∧ VR1 w (Xs σ s.M w) (tg C.tab e).zero z := by
    intro e he
    obtain ⟨i, z, hi, _, _, hz, hzr⟩ := (T e (tg_lt he)).info
    exact ⟨z, by simp [zeroValue, typeInfo, program, Sem.run, hi, hz], hzr _ _⟩
  unfold aBuildSlice at hc ⊢
  split at hc
  · rename_i e hty
    have ht := (T t (tg_lt' (by rw [hty]; simp))).tslice _ hty
    split at hc
    · rename_i k hte
      split at hc
      · rename_i l hset
        have R := T e (tg_lt' (by rw [hte]; simp))
        have hz0 := R.tint0 k hte
        obtain ⟨hfill, hll⟩ := setInts_sound r ps.toList _ _ hset
        have hlen : l.length = len := by rw [hll, List.length_replicate]
        have go : (tg C.tab e).size = 1 ∧ len ≤ 4096 → (execOp a.eval o).run P w = .ok (.value (.slice (some ⟨w.heap.size, 0, none⟩) len len)) (w.alloc (.cells (l.map (Value.int k)).toArray e)) := by
          rintro ⟨hs1, hle⟩
          obtain ⟨z, hz, hzr⟩ := zero (e := e) (by omega)
          rw [hz0] at hzr
          have ez := vr_val (VR1.up hzr)
          refine run (sz := 1) (zc := #[.int k 0]) ht (by rw [← hs1]; exact index_add w T (by omega)) ⟨z, hz, by rw [ez]; rfl⟩ (by omega) ?_
          have e1 : madeCells #[Value.int k 0] (len * 1) = ((List.replicate len (0 : Int)).map (Value.int k)).toArray := by
            apply Array.ext'
            rw [Nat.mul_one, toList_madeCells_one]
            simp
          rw [e1]
          exact hfill
        have data : (tg C.tab e).size = 1 ∧ len ≤ 4096 → Good P w0 F o s a w (okIf ((tg C.tab e).size = 1 ∧ len ≤ 4096) (.ints k l) s.M) := by
          intro hcc Q
          have hg := Grow.alloc w (.cells (l.map (Value.int k)).toArray e)
          refine good_grow (P := P) (o := o) r (go hcc) hg ?_ Q
          exact ⟨some ⟨w.heap.size, 0, none⟩, len, by rw [hlen], by omega, new_at r _ e⟩
        split at hc
        · rename_i d hdst
          cases hrow : C.rows.contains d with
          | false => simp only [hrow, cond_false] at hc ⊢; exact data hc
          | true =>
            simp only [hrow, cond_true] at hc ⊢
            split at hc
            · rename_i hlook
              have hs1 := hc.1
              have hle := hc.2
              have hrun := go hc
              have hg := Grow.alloc w (.cells (l.map (Value.int k)).toArray e)
              have own := World.ownsRow_lit (base := w0.heap.size) (e := e) (size := 1) w (l.map (Value.int k)).toArray len r.frm.size (by unfold maxLen; omega) (by simp [hlen])
              have R' := r.new (k := .row e (.ints k l)) (v := .slice (some ⟨w.heap.size, 0, none⟩) len len) hlook hg (by simp) (fun σ' hk h0 h1 h2 =>
                ⟨l.map (Value.int k), 1, len, by rw [h1, h2]; rfl, by rw [h2]; simpa using own, rfl, hlen.symm, rfl⟩)
              intro Q
              unfold Oper.wp
              rw [hrun]
              refine ⟨_, R'.put o.dst ?_⟩
              exact ⟨e, .ints k l, by rw [look_put, if_pos rfl], (if_pos rfl).symm⟩
            · exact hc.elim
        · exact hc.elim
      · exact hc.elim
    · split at hc
      · rename_i hne xs hset
        obtain ⟨hle, hle2, hs0⟩ := hc
        obtain ⟨z, hz, hzr⟩ := zero (e := e) hs0
        have hzc := VR1.cells hzr
        have hzs : z.cells.size = (tg C.tab e).size := by
          have := CR.sklen hzc
          rw [(T e (tg_lt hs0)).sksz] at this
          simpa using this.symm
        have hm := ER.made (w := w) (X := Xs σ s.M w) (d := (tg C.tab e).zero) (z := z.cells) (by omega) hzc len
        rw [hzs] at hm
        obtain ⟨cs', hf, her, hxl⟩ := setXs_sound r ps.toList _ xs _ hm hset
        have hlen : xs.length = len := by rw [hxl, List.length_replicate]
        have hmul : len * (tg C.tab e).size ≤ 4096 * 256 := Nat.mul_le_mul hle hle2
        have hrun := run (sz := (tg C.tab e).size) (zc := z.cells) (cs := cs') ht (index_add w T hs0) ⟨z, hz, rfl⟩ (by omega) (by simpa using hf)
        have hg := Grow.alloc w (.cells cs'.toArray e)
        intro Q
        refine good_grow (P := P) (o := o) r hrun hg ?_ Q
        exact ⟨some ⟨w.heap.size, 0, none⟩, len, cs', by rw [hlen], by omega, new_at r _ e, ER.mono (Xs.grow hg) _ _ _ her⟩
      · exact hc.elim
  · exact hc.elim

end
end Go.Vg
