/- Vg, part E: the abstract step is sound: the first operations. -/
import Derived.Test.YtcdjhhepgkcabaaDoorVgD
import Derived.ChangeKeysEq
import Derived.Laws.Tables
import Derived.Laws.CopyRow
import Derived.Laws.Strings
namespace Go.Vg
open Go Go.RowKit

/-- A row of the types' table is the program's. -/
structure RowOk (P : Program) (tab : Tab) (t : TypeId) : Prop where
  info : ∃ i z, P.info? t = some i ∧ i.size = (tg tab t).size ∧ i.bytes = (tg tab t).bytes ∧ i.zero = some z ∧ ∀ w X, VR1 w X (tg tab t).zero z
  sksz : (sk (tg tab t).zero).size = (tg tab t).size
  tint : ∀ k, (tg tab t).ty = .int k → P.underlying t = some (.int k)
  tint0 : ∀ k, (tg tab t).ty = .int k → (tg tab t).zero = .val (.int k 0)
  tbool : (tg tab t).ty = .bool → P.underlying t = some .bool
  tstr : (tg tab t).ty = .str → P.underlying t = some .string
  tslice : ∀ e, (tg tab t).ty = .slice e → P.underlying t = some (.slice e)
  tarr : ∀ n e, (tg tab t).ty = .arr n e → P.underlying t = some (.array n e)
  tst : ∀ ts, (tg tab t).ty = .st ts → ∃ fa zs, P.underlying t = some (.struct fa) ∧ (tg tab t).zero = .st zs ∧ zs.length = ts.length ∧ fa.size = ts.length ∧
    ∀ i o t', ts[i]? = some (o, t') → ∃ f, fa[i]? = some f ∧ f.offset = o ∧ f.type = t' ∧ o = Sk.sizes ((sks zs).take i) ∧ (tg tab t').size ≠ 0 ∧ (sk (zs.getD i default)).size = (tg tab t').size
  tagg : ∃ d, P.underlying t = some d ∧ (match d with | .struct _ | .array _ _ => true | _ => false) = (tg tab t).ty.agg

def Has (tab : Tab) (t : TypeId) : Prop := (tg tab t).size ≠ 0 ∨ (tg tab t).ty ≠ .other

/-- The table tells the program's types, wherever it tells anything. -/
def TabOk (P : Program) (tab : Tab) : Prop := ∀ t, Has tab t → RowOk P tab t

theorem tg_lt {tab : Tab} {t : TypeId} (h : (tg tab t).size ≠ 0) : Has tab t := .inl h
theorem tg_lt' {tab : Tab} {t : TypeId} (h : (tg tab t).ty ≠ .other) : Has tab t := .inr h

theorem ints_bstr (s : ByteArray) : bstr (ints s) = s := by
  unfold bstr ints
  rw [List.map_map]
  have : ((fun n : Int => UInt8.ofNat n.toNat) ∘ fun b : UInt8 => (b.toNat : Int)) = id := by
    funext b; simp
  rw [this, List.map_id]

theorem ints_bytes (s : ByteArray) : isBytes (ints s) := by
  intro x hx
  obtain ⟨b, _, rfl⟩ := List.mem_map.1 hx
  have := b.toNat_lt
  omega

section
variable {P : Program} {tab : Tab} {w0 : World} {F : Env} {σ : Sg} {s : St} {a : Act} {w : World} {o : Oper}

theorem cAV_sound {M : Mem} {X : Nat → Prop} (v : Value) : AR σ M w X (cAV v) v := by
  cases v <;> first
    | trivial
    | exact ⟨rfl, rfl⟩
    | exact ⟨by rw [ints_bstr], ints_bytes _⟩

theorem ev_sound (r : Rel w0 F σ s a w) (x : Operand) : AR σ s.M w (Xs σ s.M w) (evA s.T x) (a.eval x) := by
  cases x with
  | tmp t =>
    simp only [evA, Act.eval]
    rw [List.getD_eq_getElem?_getD]
    cases hx : s.T[t]? with
    | none => trivial
    | some y =>
      obtain ⟨v, hv, ha⟩ := r.tmp t y hx
      simpa [Array.getD_eq_getD_getElem?, hv] using ha
  | const v => exact cAV_sound v
  | global g =>
    simp only [evA, Act.eval]
    split
    · rename_i d hd
      obtain ⟨_, h2, cs, h3, h4⟩ := r.gw g d hd
      exact ⟨g, 0, cs, rfl, h2, h3 _ _, fun j u hu => by rw [Nat.zero_add]; exact h4 j u hu⟩
    · trivial
  | func f => exact ⟨rfl, rfl⟩

/-- The step of the abstract state is met by the real one. -/
def Good (P : Program) (w0 : World) (F : Env) (o : Oper) (s : St) (a : Act) (w : World) (r : Res) : Prop :=
  ∀ Q, o.wp P a w (fun a' w' => ∃ σ', Rel w0 F σ' (St.put ⟨s.T, r.M⟩ o.dst r.v) a' w') Q

theorem good_grow (r : Rel w0 F σ s a w) {v : Value} {w' : World} {x : AV} (hrun : (execOp a.eval o).run P w = .ok (.value v) w') (hg : Grow w w') (hv : AR σ s.M w' (Xs σ s.M w') x v) :
    Good P w0 F o s a w ⟨True, x, s.M⟩ := by
  intro Q
  unfold Oper.wp
  rw [hrun]
  exact ⟨σ, (r.grow hg).put o.dst hv⟩

theorem good_pure (r : Rel w0 F σ s a w) {v : Value} {x : AV} (hrun : (execOp a.eval o).run P w = .ok (.value v) w) (hv : AR σ s.M w (Xs σ s.M w) x v) :
    Good P w0 F o s a w ⟨True, x, s.M⟩ := good_grow r hrun (Grow.refl w) hv

theorem castD_sound {X : Nat → Prop} {t : TypeId} {d : D} {v : Value} (h : VR1 w X d v) : VR1 w X (castD tab t d) v := by
  unfold castD
  split
  · obtain ⟨hv, _⟩ := h
    simp only [List.cons.injEq, and_true] at hv
    subst hv
    split
    · split
      · exact ⟨none, 0, rfl, Nat.le_refl _, .inl rfl⟩
      · exact ⟨none, 0, [], rfl, Nat.le_refl _, .inl rfl, rfl⟩
    · exact ⟨rfl, rfl⟩
  · exact h

theorem castD_tup {t : TypeId} {d : D} (h : d.isTup = false) : (castD tab t d).isTup = false := by
  unfold castD
  split
  · split
    · split <;> rfl
    · rfl
  · exact h

/-- What an address of the call's own leads to. -/
theorem ptr_cells {β : Nat} {cs : List Value} {e : TypeId} {X : Nat → Prop} {x : D} {p : List Nat} (hh : w.heap[β]? = some (.cells cs.toArray e (0, 0))) (hc : CR w X x cs) (hp : okP x p) :
    ∃ us, CR w X (getP x p) us ∧ ∀ (j : Nat) (u : Value), us[j]? = some u → w.cell? ⟨β, offS (sk x) p + j, none⟩ = some u := by
  obtain ⟨v1, v2, v3, rfl, hl, hg⟩ := getP_reads p x cs hc hp
  refine ⟨v2, hg, fun j u hu => ?_⟩
  rw [cell_of_row w β _ _ e (0, 0) hh, ← hl]
  have hj : j < v2.length := by
    rcases Nat.lt_or_ge j v2.length with h | h
    · exact h
    · rw [List.getElem?_eq_none h] at hu; cases hu
  rw [List.getElem?_toArray, List.append_assoc, List.getElem?_append_right (by omega), List.getElem?_append_left (by omega)]
  rw [show v1.length + j - v1.length = j from by omega]
  exact hu

theorem addr_add_none (β o j : Nat) : (⟨β, o, none⟩ : Addr).add j = ⟨β, o + j, none⟩ := by unfold Addr.add; split <;> simp_all

/-- A load of data from where it lies. -/
theorem run_load {X : Nat → Prop} (T : TabOk P tab) {t : TypeId} {x : D} {β o : Nat} {us : List Value} (hs0 : (tg tab t).size ≠ 0) (hs : (sk x).size = (tg tab t).size) (ha : x.isAgg = (tg tab t).ty.agg)
    (hc : CR w X x us) (hcells : ∀ (j : Nat) (u : Value), us[j]? = some u → w.cell? ⟨β, o + j, none⟩ = some u) :
    ∃ v, (loadVar t ⟨β, o, none⟩).run P w = .ok v w ∧ VR1 w X x v := by
  have R := T t (tg_lt hs0)
  obtain ⟨i, z, hi, hsz, _, _, _⟩ := R.info
  obtain ⟨d, hd, hagg⟩ := R.tagg
  have hlen : us.length = i.size := by rw [← CR.sklen hc, hs, hsz]
  have hrunA : (isAgg t).run P w = .ok (tg tab t).ty.agg w := by
    unfold isAgg
    rw [Sem.run_bind, run_underlying hd w]
    cases d <;> simp_all
  cases hx : x.isAgg with
  | true =>
    have hagg' : (tg tab t).ty.agg = true := by rw [← ha, hx]
    have hl : (loadCells ⟨β, o, none⟩ us.length).run P w = .ok us.toArray w :=
      run_loadCells_list (P := P) w ⟨β, o, none⟩ us (fun j v hv => by rw [addr_add_none]; exact hcells j v hv)
    refine ⟨.agg us.toArray, ?_, VR1.of_agg hc hx⟩
    simp only [loadVar, Sem.run_bind, hrunA, hagg', Result.andThen_ok, if_true, sizeOf, typeInfo, Sem.run, program, Sem.bind, hi]
    rw [hlen] at hl
    simp [hi, hl]
  | false =>
    have hagg' : (tg tab t).ty.agg = false := by rw [← ha, hx]
    have h1 : us.length = 1 := by
      rw [← CR.sklen hc]
      cases x <;> first | rfl | cases hx | (simp only [CR] at hc)
    obtain ⟨u, rfl⟩ : ∃ u, us = [u] := by
      cases us with
      | nil => cases h1
      | cons u us => cases us with
        | nil => exact ⟨u, rfl⟩
        | cons _ _ => simp at h1
    refine ⟨u, ?_, VR1.of_cell hc hx⟩
    have hcell := hcells 0 u rfl
    rw [Nat.add_zero] at hcell
    simp only [loadVar, Sem.run_bind, hrunA, hagg', Result.andThen_ok, Bool.false_eq_true, if_false]
    simp [load, Sem.run, hcell]

theorem unref_sound {σ : Sg} {M : Mem} {w : World} {X : Nat → Prop} {y : AV} {v : Value} (h : AR σ M w X y v) : AR σ M w X (unref y) v := by
  unfold unref
  split
  · obtain ⟨β, o, cs, e, h1, h2, h3⟩ := (h : CR w X _ [v])
    simp only [List.cons.injEq, and_true] at e
    exact ⟨β, o, cs, e, h1, h2, h3⟩
  · exact h
theorem reref_sound {σ : Sg} {M : Mem} {w : World} {X : Nat → Prop} {y : AV} {v : Value} (h : AR σ M w X y v) : AR σ M w X (reref y) v := by
  unfold reref
  split
  · obtain ⟨β, o, cs, e, h1, h2, h3⟩ := h
    exact (⟨β, o, cs, by rw [e], h1, h2, h3⟩ : CR w X (.ref _) [v])
  · exact h

theorem load_sound (T : TabOk P tab) (r : Rel w0 F σ s a w) {t : TypeId} {x : Operand} (ho : o.op = .load t x) (hc : (aLoad tab t (unref (evA s.T x)) s.M).c) :
    Good P w0 F o s a w (aLoad tab t (unref (evA s.T x)) s.M) := by
  have hx := unref_sound (ev_sound r x)
  unfold aLoad at hc ⊢
  split at hc
  · rename_i b p heq
    rw [heq] at hx
    obtain ⟨y, β, hb, hσ, hp, hv⟩ := hx
    simp only [hb] at hc ⊢
    obtain ⟨hs0, hs, ha⟩ := hc
    have hm := r.mem b _ hb
    obtain ⟨β', cs, e, hσ', _, hh, hcr⟩ := hm
    rw [hσ] at hσ'
    obtain rfl := Option.some.inj hσ'
    obtain ⟨us, hu, hcells⟩ := ptr_cells hh hcr hp
    obtain ⟨v, hrun, hvr⟩ := run_load T hs0 hs ha hu hcells
    refine good_pure (v := v) r ?_ hvr.up
    unfold execOp
    simp only [ho, hv, Instr.loadAt, Instr.sureAddr, Sem.run_bind, Sem.run_pure, Result.andThen_ok, hrun]
  · rename_i y heq
    rw [heq] at hx
    obtain ⟨β, o', cs, hv, _, hcr, hcells⟩ := hx
    obtain ⟨hs0, hs, ha⟩ := hc
    obtain ⟨v, hrun, hvr⟩ := run_load T hs0 hs ha hcr hcells
    refine good_pure (v := v) r ?_ hvr.up
    unfold execOp
    simp only [ho, hv, Instr.loadAt, Instr.sureAddr, Sem.run_bind, Sem.run_pure, Result.andThen_ok, hrun]
  · rename_i b i heq
    rw [heq] at hx
    obtain ⟨e', x', g, n', cap, hb, hrv, hv⟩ := hx
    obtain ⟨cs, sz, n, q1, q2, q3⟩ := r.mem b _ hb
    have hcell : ∀ (j : Nat) (u : Value), cs[j]? = some u → w.cell? ⟨g, j, none⟩ = some u := fun j u hu => by
      have := q2.cells (g := g) (by rw [hrv]; rfl) j u hu
      rwa [addr_add_none, Nat.zero_add] at this
    have fin : ∀ (y : D) (us : List Value), (tg tab t).size ≠ 0 → (sk y).size = (tg tab t).size → y.isAgg = (tg tab t).ty.agg → CR w (Xs σ s.M w) y us → (∀ (j : Nat) (u : Value), us[j]? = some u → w.cell? ⟨g, i * rsz x' + j, none⟩ = some u) → Good P w0 F o s a w ⟨True, .d y, s.M⟩ := by
      intro y us h1 h2 h3 h4 h5
      obtain ⟨v, hrun, hvr⟩ := run_load T h1 h2 h3 h4 h5
      refine good_pure (v := v) r ?_ hvr.up
      unfold execOp
      simp only [ho, hv, Instr.loadAt, Instr.sureAddr, Sem.run_bind, Sem.run_pure, Result.andThen_ok, hrun]
    split at hc
    · rename_i et k l hbb
      obtain ⟨hi, hs1, ha⟩ := hc
      rw [hb] at hbb
      obtain rfl := (Blk.row.inj (Option.some.inj hbb)).2
      obtain ⟨_, _, rfl⟩ := q3
      refine fin _ [.int k (l.getD i 0)] (by omega) (by rw [hs1]; rfl) ha ⟨rfl, rfl⟩ fun j u hu => ?_
      cases j with
      | zero =>
        simp only [List.getElem?_cons_zero, Option.some.injEq] at hu
        rw [← hu]
        exact hcell _ _ (by simp [rsz, List.getElem?_eq_getElem hi])
      | succ j => simp at hu
    · rename_i et sz' xs hbb
      obtain ⟨hi, hs0, hs1, hshp, ha⟩ := hc
      rw [hb] at hbb
      obtain rfl := (Blk.row.inj (Option.some.inj hbb)).2
      obtain ⟨rfl, _, _, her⟩ := q3
      have hel := ER.elem xs cs her i (xs.getD i default) (by simp [List.getElem?_eq_getElem hi])
      rw [hshp] at ha ⊢
      refine fin _ _ hs0 (by rw [CR.sklen hel.1, hel.2, hs1]) ha hel.1 fun j u hu => ?_
      rw [List.getElem?_take] at hu
      split at hu
      · rw [List.getElem?_drop] at hu
        exact hcell _ _ hu
      · cases hu
    · exact hc.elim
  · exact hc.elim

theorem move_sound (r : Rel w0 F σ s a w) {x : Operand} (ho : o.op = .move x ∨ o.op = .assign x) : Good P w0 F o s a w ⟨True, evA s.T x, s.M⟩ := by
  refine good_pure (v := a.eval x) r ?_ (ev_sound r x)
  unfold execOp
  rcases ho with ho | ho <;> simp only [ho] <;> rfl

theorem pick_sound (r : Rel w0 F σ s a w) {c x y : Operand} (ho : o.op = .pick c x y) (hc : (aPick (evA s.T c) (evA s.T x) (evA s.T y) s.M).c) :
    Good P w0 F o s a w (aPick (evA s.T c) (evA s.T x) (evA s.T y) s.M) := by
  have hcv := ev_sound r c
  unfold aPick at hc ⊢
  split at hc
  · rename_i t heq
    rw [heq] at hcv
    obtain ⟨hcv, _⟩ := hcv
    simp only [List.cons.injEq, and_true] at hcv
    refine good_pure (v := if t then a.eval x else a.eval y) r ?_ ?_
    · unfold execOp
      simp only [ho, hcv, asBool, Sem.run_bind, Sem.run_pure, Result.andThen_ok]
    · cases t
      · exact ev_sound r y
      · exact ev_sound r x
  · exact hc.elim

end
end Go.Vg
