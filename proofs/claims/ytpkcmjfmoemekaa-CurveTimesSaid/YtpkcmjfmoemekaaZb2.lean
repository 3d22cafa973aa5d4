/- Vg, part E: the abstract step is sound: the first operations. -/
import Derived.Test.YtpkcmjfmoemekaaZb1
import Derived.ChangeKeysEq
import Derived.Laws.Tables
import Derived.Laws.CopyRow
import Derived.Laws.Strings
namespace Go.Vg
open Go Go.RowKit
theorem offS_nil (s : Sk) : offS s [] = 0 := by cases s <;> rfl
def okS : Sk → List Nat → Prop
 | _, [] => True
 | .st fs, i :: p => i < fs.length ∧ okS (fs.getD i .one) p
 | .arr n, i :: p => i < n ∧ p = []
 | .one, _ :: _ => False
theorem okP_iff : ∀ (p : List Nat) (x : D), okP x p ↔ okS (sk x) p
 | [], x => by simp [okP, okS]
 | i :: p, .st fs => by
  simp only [okP, sk, okS, sks_length]
  constructor
  ·rintro ⟨h1, h2⟩
   exact ⟨h1, by rw [sks_getD fs i h1]; exact (okP_iff p _).1 h2⟩
  ·rintro ⟨h1, h2⟩
   exact ⟨h1, by rw [sks_getD fs i h1] at h2; exact (okP_iff p _).2 h2⟩
 | i :: p, .arr k n l => by simp [okP, sk, okS]
 | i :: p, .val _ => by simp [okP, sk, okS]
 | i :: p, .ints _ _ => by simp [okP, sk, okS]
 | i :: p, .slc _ _ => by simp [okP, sk, okS]
 | i :: p, .tup _ => by simp [okP, sk, okS]
 | i :: p, .str _ => by simp [okP, sk, okS]
 | i :: p, .ref _ => by simp [okP, sk, okS]
 | i :: p, .clo _ _ => by simp [okP, sk, okS]
theorem sk_arr {d : D} {n : Nat} (h : sk d = .arr n) : ∃ k l, d = .arr k n l := by
 cases d <;> simp [sk] at h
 subst h
 exact ⟨_, _, rfl⟩
theorem sk_setv {fs : List D} {i : Nat} (hi : i < fs.length) (h : sk (fs.getD i default) = .one) (u : Value) : sk (.st (fs.set i (.val u))) = sk (.st fs) := by
 simp only [sk]
 rw [sks_set fs i _ hi (by rw [h]; rfl)]
theorem getDset_ne {α : Type} (l : List α) {i j : Nat} (x d : α) (h : j ≠ i) : (l.set i x).getD j d = l.getD j d := by
 rw [List.getD_eq_getElem?_getD, List.getD_eq_getElem?_getD, List.getElem?_set_ne (Ne.symm h)]
theorem getDset_eq {α : Type} (l : List α) {i : Nat} (x d : α) (h : i < l.length) : (l.set i x).getD i d = x := by
 rw [List.getD_eq_getElem?_getD, List.getElem?_set_self h]; rfl
mutual
def zC : D → Option (List Value)
 | .val v => bif isCell v then some [v] else none
 | .arr k n l => bif Nat.beq l.length n then some (l.map (Value.int k)) else none
 | .st fs => zCs fs
 | .ints _ [] => some [.slice none 0 0]
 | .slc _ [] => some [.slice none 0 0]
 | .str [] => some [.string (bstr [])]
 | _ => none
def zCs : List D → Option (List Value)
 | [] => some []
 | d :: ds => match zC d, zCs ds with
  | some a, some b => some (a ++ b)
  | _, _ => none
end
mutual
theorem zC_CR (w : World) (X : Nat → Prop) : ∀ (d : D) (vs : List Value), zC d = some vs → CR w X d vs
 | .val v, vs, h => by
  simp only [zC] at h
  cases hc : isCell v <;> rw [hc] at h
  ·cases h
  ·obtain rfl := Option.some.inj h; exact ⟨rfl, hc⟩
 | .arr k n l, vs, h => by
  simp only [zC] at h
  rcases beq_cases l.length n with ⟨hb, hn⟩ | ⟨hb, _⟩ <;> rw [hb] at h
  ·obtain rfl := Option.some.inj h; exact ⟨hn, rfl⟩
  ·cases h
 | .st fs, vs, h => by simp only [zC] at h; simp only [CR]; exact zCs_CRs w X fs vs h
 | .ints k [], vs, h => by
  obtain rfl := Option.some.inj h
  exact ⟨none, 0, rfl, Nat.le_refl _, .inl rfl⟩
 | .ints k (_ :: _), vs, h => by cases h
 | .slc sz [], vs, h => by
  obtain rfl := Option.some.inj h
  exact ⟨none, 0, [], rfl, Nat.le_refl _, .inl rfl, rfl⟩
 | .slc sz (_ :: _), vs, h => by cases h
 | .str [], vs, h => by
  obtain rfl := Option.some.inj h
  exact ⟨rfl, fun x hx => by cases hx⟩
 | .str (_ :: _), vs, h => by cases h
 | .ref _, vs, h => by cases h
 | .clo _ _, vs, h => by cases h
 | .tup _, vs, h => by cases h
theorem zCs_CRs (w : World) (X : Nat → Prop) : ∀ (ds : List D) (vs : List Value), zCs ds = some vs → CRs w X ds vs
 | [], vs, h => by obtain rfl := Option.some.inj h; simp only [CRs]
 | d :: ds, vs, h => by
  simp only [zCs] at h
  split at h
  ·rename_i a b ha hb
   obtain rfl := Option.some.inj h
   simp only [CRs]
   exact ⟨a, b, rfl, zC_CR w X d a ha, zCs_CRs w X ds b hb⟩
  ·cases h
end
structure RowOk (P : Program) (tab : Tab) (t : TypeId) : Prop where
 info : ∃ i z, P.info? t = some i ∧ i.size = (tg tab t).size ∧ i.bytes = (tg tab t).bytes ∧ i.zero = some z ∧ ∀ w X, VR1 w X (tg tab t).zero z
 zc : ∃ i z, P.info? t = some i ∧ i.zero = some z ∧ zC (tg tab t).zero = some z.cells.toList
 sksz : (sk (tg tab t).zero).size = (tg tab t).size
 tint : ∀ k, (tg tab t).ty = .int k → P.underlying t = some (.int k)
 tint0 : ∀ k, (tg tab t).ty = .int k → (tg tab t).zero = .val (.int k 0)
 tbool : (tg tab t).ty = .bool → P.underlying t = some .bool
 tstr : (tg tab t).ty = .str → P.underlying t = some .string
 tslice : ∀ e, (tg tab t).ty = .slice e → P.underlying t = some (.slice e)
 tarr : ∀ n e, (tg tab t).ty = .arr n e → P.underlying t = some (.array n e)
 tst : ∀ ts, (tg tab t).ty = .st ts → ∃ fa zs, P.underlying t = some (.struct fa) ∧ (tg tab t).zero = .st zs ∧ zs.length = ts.length ∧ fa.size = ts.length ∧
  ∀ i o t', ts[i]? = some (o, t') → ∃ f, fa[i]? = some f ∧ f.offset = o ∧ f.type = t' ∧ o = Sk.sizes ((sks zs).take i) ∧ (tg tab t').size ≠ 0 ∧ (sk (zs.getD i default)).size = (tg tab t').size
 tptr : ∀ e, (tg tab t).ty = .ptr e → P.underlying t = some (.pointer e)
 teq : (tg tab t).eq = true → P.stoodInHeld t = false ∧ P.eqGuardType P.depth t = false ∧ ∀ fa, P.underlying t = some (.struct fa) → ∀ f ∈ fa.toList, f.name ≠ "_"
 tagg : ∃ d, P.underlying t = some d ∧ (match d with | .struct _ | .array _ _ => true | _ => false) = (tg tab t).ty.agg
def Has (tab : Tab) (t : TypeId) : Prop := (tg tab t).size ≠ 0 ∨ (tg tab t).ty ≠ .other
def TabOk (P : Program) (tab : Tab) : Prop := ∀ t, Has tab t → RowOk P tab t
theorem tg_lt {tab : Tab} {t : TypeId} (h : (tg tab t).size ≠ 0) : Has tab t := .inl h
theorem tg_lt' {tab : Tab} {t : TypeId} (h : (tg tab t).ty ≠ .other) : Has tab t := .inr h
theorem ints_bstr (s : ByteArray) : bstr (ints s) = s := by
 unfold bstr ints
 rw [List.map_map]
 have : ((fun n : Int => UInt8.ofNat n.toNat) ∘ fun b : UInt8 => (b.toNat : Int)) = id := by
  funext b; simp
 rw [this, List.map_id]
theorem ints_bytes (s : ByteArray) : isBytes (ints s) := by
 intro x hx
 obtain ⟨b, _, rfl⟩ := List.mem_map.1 hx
 have := b.toNat_lt
 omega
section
variable {P : Program} {tab : Tab} {w0 : World} {F : Env} {σ : Sg} {s : St} {a : Act} {w : World} {o : Oper}
theorem cAV_sound {M : Mem} {X : Nat → Prop} (v : Value) : AR σ M w X (cAV v) v := by
 cases v <;> first
  | trivial
  | exact ⟨rfl, rfl⟩
  | exact ⟨by rw [ints_bstr], ints_bytes _⟩
theorem ev_sound (r : Rel w0 F σ s a w) (x : Operand) : AR σ s.M w (Xs σ s.M w) (evA s.T x) (a.eval x) := by
 cases x with
 | tmp t =>
  simp only [evA, Act.eval]
  rw [List.getD_eq_getElem?_getD]
  cases hx : s.T[t]? with
  | none => trivial
  | some y =>
   obtain ⟨v, hv, ha⟩ := r.tmp t y hx
   simpa [Array.getD_eq_getD_getElem?, hv] using ha
 | const v => exact cAV_sound v
 | global g =>
  simp only [evA, Act.eval]
  split
  ·rename_i d hd
   obtain ⟨_, h2, cs, h3, h4⟩ := r.gw g d hd
   exact ⟨g, 0, cs, rfl, h2, h3 _ _, fun j u hu => by rw [Nat.zero_add]; exact h4 j u hu⟩
  ·trivial
 | func f => exact ⟨rfl, rfl⟩
def Good (P : Program) (w0 : World) (F : Env) (o : Oper) (s : St) (a : Act) (w : World) (r : Res) : Prop :=
 ∀ Q, o.wp P a w (fun a' w' => ∃ σ', Rel w0 F σ' (St.put ⟨s.T, r.M⟩ o.dst r.v) a' w') Q
theorem good_grow (r : Rel w0 F σ s a w) {v : Value} {w' : World} {x : AV} (hrun : (execOp a.eval o).run P w = .ok (.value v) w') (hg : Grow w w') (hv : AR σ s.M w' (Xs σ s.M w') x v) :
  Good P w0 F o s a w ⟨True, x, s.M⟩ := by
 intro Q
 unfold Oper.wp
 rw [hrun]
 exact ⟨σ, (r.grow hg).put o.dst hv⟩
theorem good_pure (r : Rel w0 F σ s a w) {v : Value} {x : AV} (hrun : (execOp a.eval o).run P w = .ok (.value v) w) (hv : AR σ s.M w (Xs σ s.M w) x v) :
  Good P w0 F o s a w ⟨True, x, s.M⟩ := good_grow r hrun (Grow.refl w) hv
theorem castD_sound {X : Nat → Prop} {t : TypeId} {d : D} {v : Value} (h : VR1 w X d v) : VR1 w X (castD tab t d) v := by
 unfold castD
 split
 ·obtain ⟨hv, _⟩ := h
  simp only [List.cons.injEq, and_true] at hv
  subst hv
  split
  ·split
   ·exact ⟨none, 0, rfl, Nat.le_refl _, .inl rfl⟩
   ·exact ⟨none, 0, [], rfl, Nat.le_refl _, .inl rfl, rfl⟩
  ·exact ⟨rfl, rfl⟩
 ·exact h
theorem ptr_cells {β : Nat} {cs : List Value} {e : TypeId} {X : Nat → Prop} {x : D} {p : List Nat} (hh : w.heap[β]? = some (.cells cs.toArray e (0, 0))) (hc : CR w X x cs) (hp : okP x p) :
  ∃ us, CR w X (getP x p) us ∧ ∀ (j : Nat) (u : Value), us[j]? = some u → w.cell? ⟨β, offS (sk x) p + j, none⟩ = some u := by
 obtain ⟨v1, v2, v3, rfl, hl, hg⟩ := getP_reads p x cs hc hp
 refine ⟨v2, hg, fun j u hu => ?_⟩
 rw [cell_of_row w β _ _ e (0, 0) hh, ← hl]
 have hj : j < v2.length := by
  rcases Nat.lt_or_ge j v2.length with h | h
  ·exact h
  ·rw [List.getElem?_eq_none h] at hu; cases hu
 rw [List.getElem?_toArray, List.append_assoc, List.getElem?_append_right (by omega), List.getElem?_append_left (by omega)]
 rw [show v1.length + j - v1.length = j from by omega]
 exact hu
theorem addr_add_none (β o j : Nat) : (⟨β, o, none⟩ : Addr).add j = ⟨β, o + j, none⟩ := by unfold Addr.add; split <;> simp_all
theorem run_load {X : Nat → Prop} (T : TabOk P tab) {t : TypeId} {x : D} {β o : Nat} {us : List Value} (hs0 : (tg tab t).size ≠ 0) (hs : (sk x).size = (tg tab t).size) (ha : x.isAgg = (tg tab t).ty.agg)
  (hc : CR w X x us) (hcells : ∀ (j : Nat) (u : Value), us[j]? = some u → w.cell? ⟨β, o + j, none⟩ = some u) :
  ∃ v, (loadVar t ⟨β, o, none⟩).run P w = .ok v w ∧ VR1 w X x v := by
 have R := T t (tg_lt hs0)
 obtain ⟨i, z, hi, hsz, _, _, _⟩ := R.info
 obtain ⟨d, hd, hagg⟩ := R.tagg
 have hlen : us.length = i.size := by rw [← CR.sklen hc, hs, hsz]
 have hrunA : (isAgg t).run P w = .ok (tg tab t).ty.agg w := by
  unfold isAgg
  rw [Sem.run_bind, run_underlying hd w]
  cases d <;> simp_all
 cases hx : x.isAgg with
 | true =>
  have hagg' : (tg tab t).ty.agg = true := by rw [← ha, hx]
  have hl : (loadCells ⟨β, o, none⟩ us.length).run P w = .ok us.toArray w :=
   run_loadCells_list (P := P) w ⟨β, o, none⟩ us (fun j v hv => by rw [addr_add_none]; exact hcells j v hv)
  refine ⟨.agg us.toArray, ?_, VR1.of_agg hc hx⟩
  simp only [loadVar, Sem.run_bind, hrunA, hagg', Result.andThen_ok, if_true, sizeOf, typeInfo, Sem.run, program, Sem.bind, hi]
  rw [hlen] at hl
  simp [hi, hl]
 | false =>
  have hagg' : (tg tab t).ty.agg = false := by rw [← ha, hx]
  have h1 : us.length = 1 := by
   rw [← CR.sklen hc]
   cases x <;> first | rfl | cases hx | (simp only [CR] at hc)
  obtain ⟨u, rfl⟩ : ∃ u, us = [u] := by
   cases us with
   | nil => cases h1
   | cons u us => cases us with
    | nil => exact ⟨u, rfl⟩
    | cons _ _ => simp at h1
  refine ⟨u, ?_, VR1.of_cell hc hx⟩
  have hcell := hcells 0 u rfl
  rw [Nat.add_zero] at hcell
  simp only [loadVar, Sem.run_bind, hrunA, hagg', Result.andThen_ok, Bool.false_eq_true, if_false]
  simp [load, Sem.run, hcell]
theorem unref_sound {σ : Sg} {M : Mem} {w : World} {X : Nat → Prop} {y : AV} {v : Value} (h : AR σ M w X y v) : AR σ M w X (unref y) v := by
 unfold unref
 split
 ·obtain ⟨β, o, cs, e, h1, h2, h3⟩ := (h : CR w X _ [v])
  simp only [List.cons.injEq, and_true] at e
  exact ⟨β, o, cs, e, h1, h2, h3⟩
 ·exact h
theorem reref_sound {σ : Sg} {M : Mem} {w : World} {X : Nat → Prop} {y : AV} {v : Value} (h : AR σ M w X y v) : AR σ M w X (reref y) v := by
 unfold reref
 split
 ·obtain ⟨β, o, cs, e, h1, h2, h3⟩ := h
  exact (⟨β, o, cs, by rw [e], h1, h2, h3⟩ : CR w X (.ref _) [v])
 ·exact h
theorem load_sound (T : TabOk P tab) (r : Rel w0 F σ s a w) {t : TypeId} {x : Operand} (ho : o.op = .load t x) (hc : (aLoad tab t (unref (evA s.T x)) s.M).c) :
  Good P w0 F o s a w (aLoad tab t (unref (evA s.T x)) s.M) := by
 have hx := unref_sound (ev_sound r x)
 unfold aLoad at hc ⊢
 split at hc
 ·rename_i b p heq
  rw [heq] at hx
  obtain ⟨y, β, hb, hσ, hp, hv⟩ := hx
  simp only [hb] at hc ⊢
  obtain ⟨⟨hs0, hs, ha⟩, hld⟩ := ldC_elim hc
  rw [hld]
  have hm := r.mem b _ hb
  obtain ⟨β', cs, e, hσ', _, hh, hcr⟩ := hm
  rw [hσ] at hσ'
  obtain rfl := Option.some.inj hσ'
  obtain ⟨us, hu, hcells⟩ := ptr_cells hh hcr hp
  obtain ⟨v, hrun, hvr⟩ := run_load T hs0 hs ha hu hcells
  refine good_pure (v := v) r ?_ hvr.up
  unfold execOp
  simp only [ho, hv, Instr.loadAt, Instr.sureAddr, Sem.run_bind, Sem.run_pure, Result.andThen_ok, hrun]
 ·rename_i y heq
  rw [heq] at hx
  obtain ⟨β, o', cs, hv, _, hcr, hcells⟩ := hx
  obtain ⟨hs0, hs, ha⟩ := hc
  obtain ⟨v, hrun, hvr⟩ := run_load T hs0 hs ha hcr hcells
  refine good_pure (v := v) r ?_ hvr.up
  unfold execOp
  simp only [ho, hv, Instr.loadAt, Instr.sureAddr, Sem.run_bind, Sem.run_pure, Result.andThen_ok, hrun]
 ·rename_i b i heq
  rw [heq] at hx
  obtain ⟨e', x', hb, g, n', cap, hrv, hv⟩ := hx
  obtain ⟨cs, sz, n, q1, q2, q3, _⟩ := r.mem b _ hb
  have hcell : ∀ (j : Nat) (u : Value), cs[j]? = some u → w.cell? ⟨g, j, none⟩ = some u := fun j u hu => by
   have := q2.cells (g := g) (by rw [hrv]; rfl) j u hu
   rwa [addr_add_none, Nat.zero_add] at this
  have fin : ∀ (y : D) (us : List Value), (tg tab t).size ≠ 0 → (sk y).size = (tg tab t).size → y.isAgg = (tg tab t).ty.agg → CR w (Xs σ s.M w) y us → (∀ (j : Nat) (u : Value), us[j]? = some u → w.cell? ⟨g, i * rsz x' + j, none⟩ = some u) → Good P w0 F o s a w ⟨True, .d y, s.M⟩ := by
   intro y us h1 h2 h3 h4 h5
   obtain ⟨v, hrun, hvr⟩ := run_load T h1 h2 h3 h4 h5
   refine good_pure (v := v) r ?_ hvr.up
   unfold execOp
   simp only [ho, hv, Instr.loadAt, Instr.sureAddr, Sem.run_bind, Sem.run_pure, Result.andThen_ok, hrun]
  split at hc
  ·rename_i et k l hbb
   obtain ⟨hi, hs1, ha⟩ := hc
   rw [hb] at hbb
   obtain rfl := (Blk.row.inj (Option.some.inj hbb)).2
   obtain ⟨_, _, rfl⟩ := q3
   refine fin _ [.int k (l.getD i 0)] (by omega) (by rw [hs1]; rfl) ha ⟨rfl, rfl⟩ fun j u hu => ?_
   cases j with
   | zero =>
    simp only [List.getElem?_cons_zero, Option.some.injEq] at hu
    rw [← hu]
    exact hcell _ _ (by simp [rsz, List.getElem?_eq_getElem hi])
   | succ j => simp at hu
  ·rename_i et sz' xs hbb
   obtain ⟨hi, hs0, hs1, hshp, ha⟩ := hc
   rw [hb] at hbb
   obtain rfl := (Blk.row.inj (Option.some.inj hbb)).2
   obtain ⟨rfl, _, _, her⟩ := q3
   have hel := ER.elem xs cs her i (xs.getD i default) (by simp [List.getElem?_eq_getElem hi])
   rw [hshp] at ha ⊢
   refine fin _ _ hs0 (by rw [CR.sklen hel.1, hel.2, hs1]) ha hel.1 fun j u hu => ?_
   rw [List.getElem?_take] at hu
   split at hu
   ·rw [List.getElem?_drop] at hu
    exact hcell _ _ hu
   ·cases hu
  ·exact hc.elim
 ·rename_i b p off n heq
  rw [heq] at hx
  obtain ⟨y, β, k, m, l, hb, hσ, hp, hg, hon, hv⟩ := hx
  simp only [hb, hg] at hc ⊢
  obtain ⟨hn, hs, ha⟩ := hc
  obtain ⟨β', cs, e, hσ', _, hh, hcr⟩ := r.mem b _ hb
  rw [hσ] at hσ'
  obtain rfl := Option.some.inj hσ'
  obtain ⟨us, hu, hcells⟩ := ptr_cells hh hcr hp
  rw [hg] at hu
  simp only [CR] at hu
  obtain ⟨hl, rfl⟩ := hu
  have hlen : ((l.drop off).take n).length = n := by rw [List.length_take, List.length_drop]; omega
  have hcr2 : CR w (Xs σ s.M w) (.arr k n ((l.drop off).take n)) (((l.drop off).take n).map (Value.int k)) := by
   simp only [CR]
   exact ⟨hlen, trivial⟩
  obtain ⟨v, hrun, hvr⟩ := run_load (β := β) (o := offS (sk y) p + off) T (show (tg tab t).size ≠ 0 by omega) (by simp [sk, Sk.size, hs]) (by rw [ha]; rfl) hcr2 (fun j u hu => by
   rw [List.map_take, List.map_drop, List.getElem?_take] at hu
   split at hu
   ·rw [List.getElem?_drop] at hu
    rw [Nat.add_assoc]
    exact hcells _ _ hu
   ·cases hu)
  refine good_pure (v := v) r ?_ hvr.up
  unfold execOp
  simp only [ho, hv, Instr.loadAt, Instr.sureAddr, Sem.run_bind, Sem.run_pure, Result.andThen_ok, hrun]
 ·rename_i b p heq
  rw [heq] at hx
  obtain ⟨fs, i, q, β, hb, hσ, hp, hv⟩ := hx
  simp only [hb] at hc ⊢
  obtain ⟨g1, g2, u, g3, g4, β', cs, e, hσ', _, hh, hcr⟩ := r.mem b _ hb
  rw [hσ] at hσ'
  obtain rfl := Option.some.inj hσ'
  have hsk := sk_setv g1 g2 u
  have hp' : okP (.st (fs.set i (.val u))) p := by rw [okP_iff, hsk, ← okP_iff]; exact hp
  obtain ⟨us, hu, hcells⟩ := ptr_cells hh hcr hp'
  rw [hsk] at hcells
  cases p with
  | nil => exact hc.elim
  | cons j p' =>
   simp only at hc ⊢
   rcases beq_cases j i with ⟨hji, rfl⟩ | ⟨hji, hne⟩
   ·simp only [hji, cond_true] at hc ⊢
    cases p' with
    | cons _ _ => exact hc.elim
    | nil =>
     cases q with
     | none => exact hc.elim
     | some rr =>
      simp only at hc ⊢
      split at hc
      ·rename_i er xr hr
       obtain ⟨hs, ha⟩ := hc
       simp only [getP, getDset_eq fs _ _ g1] at hu
       obtain ⟨v, hrun, hvr⟩ := run_load (x := .val u) T (show (tg tab t).size ≠ 0 by omega) (by rw [hs]; rfl) ha hu hcells
       have ev : v = u := by
        have h1 : [v] = [u] := hvr.1
        exact (List.cons.inj h1).1
       refine good_pure (v := v) r ?_ ⟨er, xr, hr, by rw [ev]; exact g4 rr rfl⟩
       unfold execOp
       simp only [ho, hv, Instr.loadAt, Instr.sureAddr, Sem.run_bind, Sem.run_pure, Result.andThen_ok, hrun]
      ·exact hc.elim
   ·simp only [hji, cond_false] at hc ⊢
    obtain ⟨hs0, hs, ha⟩ := hc
    have eg : getP (.st (fs.set i (.val u))) (j :: p') = getP (.st fs) (j :: p') := by
     simp only [getP, getDset_ne fs _ _ hne]
    rw [eg] at hu
    obtain ⟨v, hrun, hvr⟩ := run_load T hs0 hs ha hu hcells
    refine good_pure (v := v) r ?_ hvr.up
    unfold execOp
    simp only [ho, hv, Instr.loadAt, Instr.sureAddr, Sem.run_bind, Sem.run_pure, Result.andThen_ok, hrun]
 ·exact hc.elim
theorem move_sound (r : Rel w0 F σ s a w) {x : Operand} (ho : o.op = .move x ∨ o.op = .assign x) : Good P w0 F o s a w ⟨True, evA s.T x, s.M⟩ := by
 refine good_pure (v := a.eval x) r ?_ (ev_sound r x)
 unfold execOp
 rcases ho with ho | ho <;> simp only [ho] <;> rfl
theorem pick_sound (r : Rel w0 F σ s a w) {c x y : Operand} (ho : o.op = .pick c x y) (hc : (aPick (evA s.T c) (evA s.T x) (evA s.T y) s.M).c) :
  Good P w0 F o s a w (aPick (evA s.T c) (evA s.T x) (evA s.T y) s.M) := by
 have hcv := ev_sound r c
 unfold aPick at hc ⊢
 split at hc
 ·rename_i t heq
  rw [heq] at hcv
  obtain ⟨hcv, _⟩ := hcv
  simp only [List.cons.injEq, and_true] at hcv
  refine good_pure (v := if t then a.eval x else a.eval y) r ?_ ?_
  ·unfold execOp
   simp only [ho, hcv, asBool, Sem.run_bind, Sem.run_pure, Result.andThen_ok]
  ·cases t
   ·exact ev_sound r y
   ·exact ev_sound r x
 ·exact hc.elim
end
end Go.Vg
namespace Go.Vg
open Go Go.RowKit
section
variable {P : Program} {tab : Tab} {w0 : World} {F : Env} {σ : Sg} {s : St} {a : Act} {w : World} {o : Oper}
theorem Rel.blk_lt (r : Rel w0 F σ s a w) {b : Nat} {x : Blk} {β : Nat} (hb : look s.M b = some x) (hσ : σ.blk b = some β) : β < w.heap.size := by
 have hm := r.mem b x hb
 cases x with
 | fix z =>
  obtain ⟨γ, cs, e, q1, _, q3, _⟩ := hm
  rw [hσ] at q1
  obtain rfl := Option.some.inj q1
  exact block_lt q3
 | row e z =>
  obtain ⟨cs, sz, n, q1, q2, _⟩ := hm
  rw [hσ] at q1
  exact (q2.lt _ q1.symm).2
 | lnk fs i q =>
  obtain ⟨_, _, _, _, _, γ, cs, e, q1, _, q3, _⟩ := hm
  rw [hσ] at q1
  obtain rfl := Option.some.inj q1
  exact block_lt q3
theorem AR.put_fix {M : Mem} {w' : World} {X X' : Nat → Prop} {b : Nat} {x x' : D} (hb : look M b = some (.fix x)) (hs : sk x' = sk x) (h : ∀ β, X β → X' β ∧ w'.heap[β]? = w.heap[β]?)
  {y : AV} {v : Value} (hv : AR σ M w X y v) : AR σ (putM M b (.fix x')) w' X' y v := by
 cases y with
 | d y => exact VR.mono h y v hv
 | any => trivial
 | bq p q => exact hv
 | tpl c rs =>
  obtain ⟨z, β, vs, hc, hβ, hv, hr⟩ := hv
  refine ⟨if c = b then x' else z, β, vs, ?_, hβ, hv, hr.mono fun d u hu => VR.mono h d u hu⟩
  rw [look_put]
  split
  ·rfl
  ·exact hc
 | tpr c rs =>
  obtain ⟨e, z, vs, hc, hv, hr⟩ := hv
  refine ⟨e, z, vs, ?_, hv, hr.mono fun d u hu => VR.mono h d u hu⟩
  rw [look_put]
  split
  ·rename_i hcb; rw [hcb, hb] at hc; cases hc
  ·exact hc
 | lp c p =>
  obtain ⟨fs, i, q, β, hc, rest⟩ := hv
  refine ⟨fs, i, q, β, ?_, rest⟩
  rw [look_put]
  split
  ·rename_i hcb; rw [hcb, hb] at hc; cases hc
  ·exact hc
 | sub c p off n =>
  obtain ⟨z, β, k, m, l, hc, hβ, hp, hg, h1, hv⟩ := hv
  by_cases hcb : c = b
  ·subst hcb
   rw [hb] at hc
   obtain rfl := Blk.fix.inj (Option.some.inj hc)
   have hp' : okP x' p := by rw [okP_iff, hs, ← okP_iff]; exact hp
   have hsub : sk (getP x' p) = .arr m := by rw [← subS_getP p x' hp', hs, subS_getP p x hp, hg]; rfl
   obtain ⟨k', l', hg'⟩ := sk_arr hsub
   exact ⟨x', β, k', m, l', by rw [look_put, if_pos rfl], hβ, hp', hg', h1, by rw [hs]; exact hv⟩
  ·exact ⟨z, β, k, m, l, by rw [look_put, if_neg hcb]; exact hc, hβ, hp, hg, h1, hv⟩
 | dat y => exact AR.mono (σ := σ) (M := M) h (.dat y) v hv
 | rpt c i n =>
  obtain ⟨e, z, hc, hv⟩ := hv
  refine ⟨e, z, ?_, hv⟩
  rw [look_put]
  split
  ·rename_i hcb; rw [hcb, hb] at hc; cases hc
  ·exact hc
 | row c =>
  obtain ⟨e, z, hc, hv⟩ := hv
  refine ⟨e, z, ?_, hv⟩
  rw [look_put]
  split
  ·rename_i hcb; rw [hcb, hb] at hc; cases hc
  ·exact hc
 | ptr c p =>
  obtain ⟨z, β, hc, hβ, hp, hv⟩ := hv
  by_cases hcb : c = b
  ·subst hcb
   rw [hb] at hc
   obtain rfl := Blk.fix.inj (Option.some.inj hc)
   refine ⟨x', β, by rw [look_put, if_pos rfl], hβ, ?_, by rw [hs]; exact hv⟩
   rw [okP_iff, hs, ← okP_iff]; exact hp
  ·exact ⟨z, β, by rw [look_put, if_neg hcb]; exact hc, hβ, hp, hv⟩
 | own c p off len cap =>
  obtain ⟨z, β, k, n, l, α, hc, hβ, hp, hg, h1, h2, hv, hα⟩ := hv
  by_cases hcb : c = b
  ·subst hcb
   rw [hb] at hc
   obtain rfl := Blk.fix.inj (Option.some.inj hc)
   have hp' : okP x' p := by rw [okP_iff, hs, ← okP_iff]; exact hp
   have hsub : sk (getP x' p) = .arr n := by rw [← subS_getP p x' hp', hs, subS_getP p x hp, hg]; rfl
   obtain ⟨k', l', hg'⟩ := sk_arr hsub
   exact ⟨x', β, k', n, l', α, by rw [look_put, if_pos rfl], hβ, hp', hg', h1, h2, hv, by rw [hs]; exact hα⟩
  ·exact ⟨z, β, k, n, l, α, by rw [look_put, if_neg hcb]; exact hc, hβ, hp, hg, h1, h2, hv, hα⟩
theorem Xs_put {M : Mem} {b : Nat} {k k' : Blk} (hb : look M b = some k) (w w' : World) (hsz : w'.heap.size = w.heap.size) (β : Nat) : Xs σ (putM M b k') w' β ↔ Xs σ M w β := by
 constructor
 ·rintro ⟨h1, h0, h2⟩
  refine ⟨by omega, h0, fun c y hc => ?_⟩
  by_cases hcb : c = b
  ·subst hcb; exact h2 c k' (by rw [look_put, if_pos rfl])
  ·exact h2 c y (by rw [look_put, if_neg hcb]; exact hc)
 ·rintro ⟨h1, h0, h2⟩
  refine ⟨by omega, h0, fun c y hc => ?_⟩
  rw [look_put] at hc
  split at hc
  ·rename_i hcb; rw [hcb]; exact h2 b k hb
  ·exact h2 c y hc
theorem Rel.write (r : Rel w0 F σ s a w) {b β : Nat} {x x' : D} {w' : World} {cs' : List Value} {e : TypeId} (hb : look s.M b = some (.fix x)) (hβ : σ.blk b = some β) (hs : sk x' = sk x)
  (hos : w'.os = w.os) (htape : w'.tape = w.tape) (hout : w'.output = w.output) (hsz : w'.heap.size = w.heap.size) (hoth : ∀ k, k ≠ β → w'.heap[k]? = w.heap[k]?)
  (hnew : w'.heap[β]? = some (.cells cs'.toArray e (0, 0))) (hcr : CR w' (Xs σ s.M w) x' cs') : Rel w0 F σ ⟨s.T, putM s.M b (.fix x')⟩ a w' := by
 have hX : ∀ k, Xs σ s.M w k → Xs σ (putM s.M b (.fix x')) w' k ∧ w'.heap[k]? = w.heap[k]? := fun k hk =>
  ⟨(Xs_put hb w w' hsz k).2 hk, hoth k (fun h => hk.2.2 b _ hb (by rw [h]; exact hβ))⟩
 have hX' : ∀ k, Xs σ s.M w k → Xs σ (putM s.M b (.fix x')) w' k ∧ w'.heap[k]? = w'.heap[k]? := fun k hk => ⟨(hX k hk).1, rfl⟩
 obtain ⟨β', cs, e0, hβ', hF, _, _⟩ := r.mem b _ hb
 rw [hβ] at hβ'
 obtain rfl := Option.some.inj hβ'
 refine ⟨r.defs, r.len, fun i y hy => ?_, fun c k hc => ?_, fun c c' k k' β' h1 h2 h3 h4 => ?_, r.lk.put rfl (.inr fun e x h => by rw [hb] at h; cases h), ?_, r.okn⟩
 ·obtain ⟨v, hv, ha⟩ := r.tmp i y hy
  exact ⟨v, hv, ha.put_fix hb hs hX⟩
 ·rw [look_put] at hc
  split at hc
  ·rename_i hcb
   subst hcb
   obtain rfl := Option.some.inj hc
   exact ⟨β, cs', e, hβ, hF, hnew, CR.mono hX' x' cs' hcr⟩
  ·rename_i hcb
   have hm := r.mem c k hc
   cases k with
   | fix z =>
    obtain ⟨γ, ds, e', h1, h2, h3, h4⟩ := hm
    have hne : γ ≠ β := fun h => hcb (r.inj c b _ _ β hc hb (by rw [h1, h]) hβ)
    exact ⟨γ, ds, e', h1, h2, by rw [hoth γ hne]; exact h3, CR.mono hX z ds h4⟩
   | row e' z =>
    obtain ⟨ds, sz, n, h1, h2, h3, hRB⟩ := hm
    refine ⟨ds, sz, n, h1, ⟨h2.1, ?_⟩, h3.mono hX, hRB⟩
    rcases h2.2 with h2 | ⟨g, cap, cur, hv, hg, hh, rest⟩
    ·exact .inl h2
    ·have hne : g ≠ β := fun h => hcb (r.inj c b _ _ β hc hb (by rw [h1, hv, h]; rfl) hβ)
     exact .inr ⟨g, cap, cur, hv, hg, by rw [hoth g hne]; exact hh, rest⟩
   | lnk fs i q =>
    obtain ⟨g1, g2, u, g3, g4, γ, ds, e', h1, h2, h3, h4⟩ := hm
    have hne : γ ≠ β := fun h => hcb (r.inj c b _ _ β hc hb (by rw [h1, h]) hβ)
    exact ⟨g1, g2, u, g3, g4, γ, ds, e', h1, h2, by rw [hoth γ hne]; exact h3, CR.mono hX _ ds h4⟩
 ·have back : ∀ c k, look (putM s.M b (.fix x')) c = some k → ∃ k, look s.M c = some k := fun c k hc => by
   rw [look_put] at hc
   split at hc
   ·rename_i h; exact ⟨_, by rw [h]; exact hb⟩
   ·exact ⟨k, hc⟩
  obtain ⟨_, h1⟩ := back c k h1
  obtain ⟨_, h2⟩ := back c' k' h2
  exact r.inj c c' _ _ β' h1 h2 h3 h4
 ·refine ⟨hos.trans r.frm.os, htape.trans r.frm.tape, hout.trans r.frm.output, by have := r.frm.size; omega, fun k hk hF' => ?_⟩
  have hne : k ≠ β := fun h => by
   rcases hF with h' | h'
   ·omega
   ·exact hF' (by rw [h]; exact ⟨_, h'.2⟩)
  rw [hoth k hne]
  exact r.frm.block k hk hF'
theorem AR.put_lnk {M : Mem} {w' : World} {X X' : Nat → Prop} {b : Nat} {fs fs' : List D} {i i' : Nat} {q q' : Option Nat} (hb : look M b = some (.lnk fs i q)) (hs : sk (.st fs') = sk (.st fs)) (h : ∀ β, X β → X' β ∧ w'.heap[β]? = w.heap[β]?)
  {y : AV} {v : Value} (hv : AR σ M w X y v) : AR σ (putM M b (.lnk fs' i' q')) w' X' y v := by
 have nf : ∀ {c z}, look M c = some (.fix z) → c ≠ b := fun hc e => by rw [e, hb] at hc; cases hc
 have nr : ∀ {c e z}, look M c = some (.row e z) → c ≠ b := fun hc e => by rw [e, hb] at hc; cases hc
 cases y with
 | d y => exact VR.mono h y v hv
 | any => trivial
 | bq p q => exact hv
 | tpl c rs =>
  obtain ⟨z, β, vs, hc, hβ, hv, hr⟩ := hv
  exact ⟨z, β, vs, by rw [look_put, if_neg (nf hc)]; exact hc, hβ, hv, hr.mono fun d u hu => VR.mono h d u hu⟩
 | tpr c rs =>
  obtain ⟨e, z, vs, hc, hv, hr⟩ := hv
  exact ⟨e, z, vs, by rw [look_put, if_neg (nr hc)]; exact hc, hv, hr.mono fun d u hu => VR.mono h d u hu⟩
 | lp c p =>
  obtain ⟨gs, i0, q0, β, hc, hβ, hp, hv⟩ := hv
  by_cases hcb : c = b
  ·subst hcb
   rw [hb] at hc
   obtain ⟨rfl, rfl, rfl⟩ := Blk.lnk.inj (Option.some.inj hc)
   exact ⟨fs', i', q', β, by rw [look_put, if_pos rfl], hβ, by rw [okP_iff, hs, ← okP_iff]; exact hp, by rw [hs]; exact hv⟩
  ·exact ⟨gs, i0, q0, β, by rw [look_put, if_neg hcb]; exact hc, hβ, hp, hv⟩
 | sub c p off n =>
  obtain ⟨z, β, k, m, l, hc, rest⟩ := hv
  exact ⟨z, β, k, m, l, by rw [look_put, if_neg (nf hc)]; exact hc, rest⟩
 | dat y => exact AR.mono (σ := σ) (M := M) h (.dat y) v hv
 | rpt c j n =>
  obtain ⟨e, z, hc, hv⟩ := hv
  exact ⟨e, z, by rw [look_put, if_neg (nr hc)]; exact hc, hv⟩
 | row c =>
  obtain ⟨e, z, hc, hv⟩ := hv
  exact ⟨e, z, by rw [look_put, if_neg (nr hc)]; exact hc, hv⟩
 | ptr c p =>
  obtain ⟨z, β, hc, rest⟩ := hv
  exact ⟨z, β, by rw [look_put, if_neg (nf hc)]; exact hc, rest⟩
 | own c p off len cap =>
  obtain ⟨z, β, k, n, l, α, hc, rest⟩ := hv
  exact ⟨z, β, k, n, l, α, by rw [look_put, if_neg (nf hc)]; exact hc, rest⟩
theorem Rel.writeL (r : Rel w0 F σ s a w) {b β : Nat} {fs fs' : List D} {i : Nat} {q q' : Option Nat} {u' : Value} {w' : World} {cs' : List Value} {e : TypeId} (hb : look s.M b = some (.lnk fs i q)) (hβ : σ.blk b = some β) (hs : sk (.st fs') = sk (.st fs))
  (hi : i < fs'.length) (h1 : sk (fs'.getD i default) = .one) (hu : isCell u' = true) (hq : ∀ r, q' = some r → u' = σ.rv r ∧ ∃ e x, look s.M r = some (.row e x))
  (hos : w'.os = w.os) (htape : w'.tape = w.tape) (hout : w'.output = w.output) (hsz : w'.heap.size = w.heap.size) (hoth : ∀ k, k ≠ β → w'.heap[k]? = w.heap[k]?)
  (hnew : w'.heap[β]? = some (.cells cs'.toArray e (0, 0))) (hcr : CR w' (Xs σ s.M w) (.st (fs'.set i (.val u'))) cs') : Rel w0 F σ ⟨s.T, putM s.M b (.lnk fs' i q')⟩ a w' := by
 have hX : ∀ k, Xs σ s.M w k → Xs σ (putM s.M b (.lnk fs' i q')) w' k ∧ w'.heap[k]? = w.heap[k]? := fun k hk =>
  ⟨(Xs_put hb w w' hsz k).2 hk, hoth k (fun h => hk.2.2 b _ hb (by rw [h]; exact hβ))⟩
 have hX' : ∀ k, Xs σ s.M w k → Xs σ (putM s.M b (.lnk fs' i q')) w' k ∧ w'.heap[k]? = w'.heap[k]? := fun k hk => ⟨(hX k hk).1, rfl⟩
 obtain ⟨_, _, _, _, _, β', cs, e0, hβ', hF, _, _⟩ := r.mem b _ hb
 rw [hβ] at hβ'
 obtain rfl := Option.some.inj hβ'
 refine ⟨r.defs, r.len, fun i y hy => ?_, fun c k hc => ?_, fun c c' k k' β' h1 h2 h3 h4 => ?_, r.lk.put_lnk (fun rr hr => ⟨fun e => ?_, (hq rr hr).2⟩) (fun e x h => by rw [hb] at h; cases h), ?_, r.okn⟩
 ·obtain ⟨v, hv, ha⟩ := r.tmp i y hy
  exact ⟨v, hv, ha.put_lnk hb hs hX⟩
 ·rw [look_put] at hc
  split at hc
  ·rename_i hcb
   subst hcb
   obtain rfl := Option.some.inj hc
   exact ⟨hi, h1, u', hu, fun rr hr => (hq rr hr).1, β, cs', e, hβ, hF, hnew, CR.mono hX' _ cs' hcr⟩
  ·rename_i hcb
   have hm := r.mem c k hc
   cases k with
   | fix z =>
    obtain ⟨γ, ds, e', h1, h2, h3, h4⟩ := hm
    have hne : γ ≠ β := fun h => hcb (r.inj c b _ _ β hc hb (by rw [h1, h]) hβ)
    exact ⟨γ, ds, e', h1, h2, by rw [hoth γ hne]; exact h3, CR.mono hX z ds h4⟩
   | row e' z =>
    obtain ⟨ds, sz, n, h1, h2, h3, hRB⟩ := hm
    refine ⟨ds, sz, n, h1, ⟨h2.1, ?_⟩, h3.mono hX, hRB⟩
    rcases h2.2 with h2 | ⟨g, cap, cur, hv, hg, hh, rest⟩
    ·exact .inl h2
    ·have hne : g ≠ β := fun h => hcb (r.inj c b _ _ β hc hb (by rw [h1, hv, h]; rfl) hβ)
     exact .inr ⟨g, cap, cur, hv, hg, by rw [hoth g hne]; exact hh, rest⟩
   | lnk gs j p =>
    obtain ⟨g1, g2, u, g3, g4, γ, ds, e', h1, h2, h3, h4⟩ := hm
    have hne : γ ≠ β := fun h => hcb (r.inj c b _ _ β hc hb (by rw [h1, h]) hβ)
    exact ⟨g1, g2, u, g3, g4, γ, ds, e', h1, h2, by rw [hoth γ hne]; exact h3, CR.mono hX _ ds h4⟩
 ·have back : ∀ c k, look (putM s.M b (.lnk fs' i q')) c = some k → ∃ k, look s.M c = some k := fun c k hc => by
   rw [look_put] at hc
   split at hc
   ·rename_i h; exact ⟨_, by rw [h]; exact hb⟩
   ·exact ⟨k, hc⟩
  obtain ⟨_, h1⟩ := back c k h1
  obtain ⟨_, h2⟩ := back c' k' h2
  exact r.inj c c' _ _ β' h1 h2 h3 h4
 ·obtain ⟨_, e', x', hx'⟩ := hq rr hr
  rw [e, hb] at hx'
  cases hx'
 ·refine ⟨hos.trans r.frm.os, htape.trans r.frm.tape, hout.trans r.frm.output, by have := r.frm.size; omega, fun k hk hF' => ?_⟩
  have hne : k ≠ β := fun h => by
   rcases hF with h' | h'
   ·omega
   ·exact hF' (by rw [h]; exact ⟨_, h'.2⟩)
  rw [hoth k hne]
  exact r.frm.block k hk hF'
theorem ER.set {w : World} {X : Nat → Prop} {sz : Nat} : ∀ (xs : List D) (cs : List Value) (i : Nat), ER w X sz xs cs → i < xs.length →
  ∃ v1 v2 v3, cs = v1 ++ v2 ++ v3 ∧ v1.length = i * sz ∧ v2.length = sz ∧ ∀ (x : D) (us : List Value), CR w X x us → us.length = sz → ER w X sz (xs.set i x) (v1 ++ us ++ v3)
 | [], _, i, _, h => by simp at h
 | d :: ds, cs, 0, hc, _ => by
  simp only [ER] at hc
  obtain ⟨v1, v2, rfl, hl, h1, h2⟩ := hc
  refine ⟨[], v1, v2, by simp, by simp, hl, fun x us hx hus => ?_⟩
  simp only [List.set_cons_zero, ER, List.nil_append]
  exact ⟨us, v2, rfl, hus, hx, h2⟩
 | d :: ds, cs, i + 1, hc, h => by
  simp only [ER] at hc
  obtain ⟨v1, v2, rfl, hl, h1, h2⟩ := hc
  obtain ⟨u1, u2, u3, rfl, hl1, hl2, hs⟩ := ER.set ds v2 i h2 (by simpa using h)
  refine ⟨v1 ++ u1, u2, u3, by simp, ?_, hl2, fun x us hx hus => ?_⟩
  ·rw [List.length_append, hl, hl1, Nat.add_mul]; omega
  ·simp only [List.set_cons_succ, ER]
   exact ⟨v1, u1 ++ us ++ u3, by simp, hl, h1, hs x us hx hus⟩
theorem ER.set1 {w : World} {X : Nat → Prop} : ∀ (xs : List D) (cs : List Value) (i : Nat) (x : D) (v : Value), ER w X 1 xs cs → CR w X x [v] → ER w X 1 (xs.set i x) (cs.set i v)
 | [], cs, i, x, v, h, hx => by
  simp only [ER] at h
  subst h
  simp [ER]
 | y :: xs, cs, i, x, v, h, hx => by
  simp only [ER] at h
  obtain ⟨v1, v2, rfl, h1, h2, h3⟩ := h
  obtain ⟨u, rfl⟩ := List.length_eq_one_iff.1 h1
  cases i with
  | zero =>
   simp only [List.set_cons_zero, List.singleton_append, ER]
   exact ⟨[v], v2, rfl, rfl, hx, h3⟩
  | succ i =>
   simp only [List.set_cons_succ, List.singleton_append, ER]
   exact ⟨[u], v2.set i v, rfl, rfl, h2, ER.set1 xs v2 i x v h3 hx⟩
theorem AR.put_row {M : Mem} {w' : World} {X X' : Nat → Prop} {b : Nat} {et : TypeId} {x x' : D} (hb : look M b = some (.row et x)) (hxx : rsz x' = rsz x) (h : ∀ β, X β → X' β ∧ w'.heap[β]? = w.heap[β]?)
  {y : AV} {v : Value} (hv : AR σ M w X y v) : AR σ (putM M b (.row et x')) w' X' y v := by
 have nf : ∀ {c z}, look M c = some (.fix z) → c ≠ b := fun hc e => by rw [e, hb] at hc; cases hc
 have nl : ∀ {c fs i q}, look M c = some (.lnk fs i q) → c ≠ b := fun hc e => by rw [e, hb] at hc; cases hc
 have nr : ∀ {c e z}, look M c = some (.row e z) → ∃ e' z', look (putM M b (.row et x')) c = some (.row e' z') ∧ rsz z' = rsz z := by
  intro c e z hc
  by_cases hcb : c = b
  ·subst hcb
   rw [hb] at hc
   obtain ⟨-, rfl⟩ := Blk.row.inj (Option.some.inj hc)
   exact ⟨et, x', by rw [look_put, if_pos rfl], hxx⟩
  ·exact ⟨e, z, by rw [look_put, if_neg hcb]; exact hc, rfl⟩
 cases y with
 | d y => exact VR.mono h y v hv
 | any => trivial
 | bq p q => exact hv
 | tpl c rs =>
  obtain ⟨z, β, vs, hc, hβ, hv, hr⟩ := hv
  exact ⟨z, β, vs, by rw [look_put, if_neg (nf hc)]; exact hc, hβ, hv, hr.mono fun d u hu => VR.mono h d u hu⟩
 | tpr c rs =>
  obtain ⟨e, z, vs, hc, hv, hr⟩ := hv
  obtain ⟨e', z', hc', _⟩ := nr hc
  exact ⟨e', z', vs, hc', hv, hr.mono fun d u hu => VR.mono h d u hu⟩
 | lp c p =>
  obtain ⟨fs, i, q, β, hc, rest⟩ := hv
  exact ⟨fs, i, q, β, by rw [look_put, if_neg (nl hc)]; exact hc, rest⟩
 | sub c p off n =>
  obtain ⟨z, β, k, m, l, hc, rest⟩ := hv
  exact ⟨z, β, k, m, l, by rw [look_put, if_neg (nf hc)]; exact hc, rest⟩
 | dat y => exact AR.mono (σ := σ) (M := M) h (.dat y) v hv
 | rpt c i n =>
  obtain ⟨e, z, hc, h1⟩ := hv
  obtain ⟨e', z', hc', hz⟩ := nr hc
  exact ⟨e', z', hc', by rw [hz]; exact h1⟩
 | row c =>
  obtain ⟨e, z, hc, hv⟩ := hv
  obtain ⟨e', z', hc', _⟩ := nr hc
  exact ⟨e', z', hc', hv⟩
 | ptr c p =>
  obtain ⟨z, β, hc, rest⟩ := hv
  exact ⟨z, β, by rw [look_put, if_neg (nf hc)]; exact hc, rest⟩
 | own c p off len cap =>
  obtain ⟨z, β, k, n, l, α, hc, rest⟩ := hv
  exact ⟨z, β, k, n, l, α, by rw [look_put, if_neg (nf hc)]; exact hc, rest⟩
theorem Rel.writeRowX (r : Rel w0 F σ s a w) {b β : Nat} {et : TypeId} {x x' : D} {sz n : Nat} {cs : List Value} {w' : World} (hb : look s.M b = some (.row et x)) (hxx : rsz x' = rsz x) (hβ : σ.blk b = some β)
  (hos : w'.os = w.os) (htape : w'.tape = w.tape) (hout : w'.output = w.output) (hsz : w'.heap.size = w.heap.size) (hoth : ∀ k, k ≠ β → w'.heap[k]? = w.heap[k]?)
  (hrc : RowC w (Xs σ s.M w) x' sz n cs) (hown : w'.ownsRow 0 et sz (σ.rv b) n cs) : Rel w0 F σ ⟨s.T, putM s.M b (.row et x')⟩ a w' := by
 have hX : ∀ j, Xs σ s.M w j → Xs σ (putM s.M b (.row et x')) w' j ∧ w'.heap[j]? = w.heap[j]? := fun j hj =>
  ⟨(Xs_put hb w w' hsz j).2 hj, hoth j (fun h => hj.2.2 b _ hb (by rw [h]; exact hβ))⟩
 obtain ⟨cs0, sz0, n0, q1, q2, q3, q4⟩ := r.mem b _ hb
 refine ⟨r.defs, r.len, fun i y hy => ?_, fun c y hc => ?_, fun c c' y y' β' h1 h2 h3 h4 => ?_, r.lk.put rfl (.inl rfl), ?_, r.okn⟩
 ·obtain ⟨v, hv, ha⟩ := r.tmp i y hy
  exact ⟨v, hv, ha.put_row hb hxx hX⟩
 ·rw [look_put] at hc
  split at hc
  ·rename_i hcb
   subst hcb
   obtain rfl := Option.some.inj hc
   exact ⟨cs, sz, n, q1, hown, hrc.mono hX, q4⟩
  ·rename_i hcb
   have hm := r.mem c y hc
   cases y with
   | fix z =>
    obtain ⟨γ, ds, e', h1, h2, h3, h4⟩ := hm
    have hne : γ ≠ β := fun h => hcb (r.inj c b _ _ β hc hb (by rw [h1, h]) hβ)
    exact ⟨γ, ds, e', h1, h2, by rw [hoth γ hne]; exact h3, CR.mono hX z ds h4⟩
   | row e' z =>
    obtain ⟨ds, sz, n, h1, h2, h3, hRB⟩ := hm
    refine ⟨ds, sz, n, h1, ⟨h2.1, ?_⟩, h3.mono hX, hRB⟩
    rcases h2.2 with h2 | ⟨g, cap, cur, hv, hg, hh, rest⟩
    ·exact .inl h2
    ·have hne : g ≠ β := fun h => hcb (r.inj c b _ _ β hc hb (by rw [h1, hv, h]; rfl) hβ)
     exact .inr ⟨g, cap, cur, hv, hg, by rw [hoth g hne]; exact hh, rest⟩
   | lnk gs j p =>
    obtain ⟨g1, g2, u, g3, g4, γ, ds, e', h1, h2, h3, h4⟩ := hm
    have hne : γ ≠ β := fun h => hcb (r.inj c b _ _ β hc hb (by rw [h1, h]) hβ)
    exact ⟨g1, g2, u, g3, g4, γ, ds, e', h1, h2, by rw [hoth γ hne]; exact h3, CR.mono hX _ ds h4⟩
 ·have back : ∀ c y, look (putM s.M b (.row et x')) c = some y → ∃ y, look s.M c = some y := fun c y hc => by
   rw [look_put] at hc
   split at hc
   ·rename_i h; exact ⟨_, by rw [h]; exact hb⟩
   ·exact ⟨y, hc⟩
  obtain ⟨_, h1⟩ := back c y h1
  obtain ⟨_, h2⟩ := back c' y' h2
  exact r.inj c c' _ _ β' h1 h2 h3 h4
 ·refine ⟨hos.trans r.frm.os, htape.trans r.frm.tape, hout.trans r.frm.output, by have := r.frm.size; omega, fun j hj hF' => ?_⟩
  have hne : j ≠ β := fun h => by
   rcases q4 β (by rw [← q1]; exact hβ) with h' | h'
   ·omega
   ·exact hF' (by rw [h]; exact ⟨_, h'.2⟩)
  rw [hoth j hne]
  exact r.frm.block j hj hF'
theorem Rel.writeRow (r : Rel w0 F σ s a w) {b β : Nat} {et : TypeId} {k : IntKind} {l l' : List Int} {w' : World} (hb : look s.M b = some (.row et (.ints k l))) (hβ : σ.blk b = some β)
  (hos : w'.os = w.os) (htape : w'.tape = w.tape) (hout : w'.output = w.output) (hsz : w'.heap.size = w.heap.size) (hoth : ∀ k, k ≠ β → w'.heap[k]? = w.heap[k]?)
  (hl : l'.length = l.length) (hown : w'.ownsRow 0 et 1 (σ.rv b) l.length (l'.map (Value.int k))) : Rel w0 F σ ⟨s.T, putM s.M b (.row et (.ints k l'))⟩ a w' :=
 r.writeRowX (x' := .ints k l') hb rfl hβ hos htape hout hsz hoth ⟨rfl, hl.symm, rfl⟩ hown
theorem Rel.congrM (r : Rel w0 F σ s a w) {M' : Mem} (h : ∀ c, look M' c = look s.M c) : Rel w0 F σ ⟨s.T, M'⟩ a w := by
 have hX : Xs σ M' w = Xs σ s.M w := by
  funext β
  simp only [Xs, h]
 have hA : ∀ (y : AV) (v : Value), AR σ M' w (Xs σ M' w) y v = AR σ s.M w (Xs σ s.M w) y v := fun y v => by
  rw [hX]
  cases y <;> simp only [AR, h]
 refine ⟨r.defs, r.len, fun i y hy => ?_, fun c y hc => ?_, fun c c' y y' β h1 h2 h3 h4 => ?_, fun c fs i rr hc => ?_, r.frm, r.okn⟩
 ·obtain ⟨v, hv, ha⟩ := r.tmp i y hy
  exact ⟨v, hv, by rw [hA]; exact ha⟩
 ·show BR σ w0 F.F w (Xs σ M' w) c y
  rw [hX]
  exact r.mem c y (by rw [← h]; exact hc)
 ·exact r.inj c c' y y' β (by rw [← h]; exact h1) (by rw [← h]; exact h2) h3 h4
 ·obtain ⟨e, x, hr⟩ := r.lk c fs i rr (by rw [← h]; exact hc)
  exact ⟨e, x, by rw [h]; exact hr⟩
theorem run_store (T : TabOk P tab) {t e : TypeId} {β o : Nat} {v1 v2 v3 : List Value} {yv : Value} (hh : w.heap[β]? = some (.cells (v1 ++ v2 ++ v3).toArray e (0, 0))) (ho : v1.length = o) (hll : v2.length = yv.cells.size)
  (hs0 : (tg tab t).size ≠ 0) (hn : yv.cells.size = (tg tab t).size) (hcell : ∀ v ∈ yv.cells.toList, isCell v = true) :
  (Instr.storeAt t (.pointer (some ⟨β, o, none⟩)) yv).run P w = .ok () (w.setRow β (v1 ++ yv.cells.toList ++ v3).toArray) := by
 obtain ⟨i, z, hi, hsz, _, _, _⟩ := (T t (tg_lt hs0)).info
 have hn : yv.cells.size = i.size := by omega
 have hrun := run_storeCells_at P β o e yv.cells.toList 0 _ w hh (by
  simp only [List.size_toArray, List.length_append, Array.length_toList]; omega) (fun v hv => by rw [isCell_one]; exact hcell v hv)
 simp only [Instr.storeAt, Instr.sureAddr, Sem.run_bind, Sem.run_pure, Result.andThen_ok, storeVar, sizeOf, typeInfo, program, Sem.run, hi, hn]
 simp only [ne_eq, not_true_eq_false, if_false, hrun, Nat.add_zero]
 congr 3
 rw [← ho]
 rw [List.append_assoc v1 v2 v3, List.take_left' rfl, ← List.append_assoc, List.append_assoc v1 v2 v3, ← List.drop_drop, List.drop_left' rfl, List.drop_left' (by simpa using hll)]
theorem st_store (hd : o.dst = none) {t : TypeId} {x y : Operand} (ho : o.op = .store t x y) {w' : World} {M' : Mem} {v : AV} (hrun : (Instr.storeAt t (a.eval x) (a.eval y)).run P w = .ok () w') (hr : ∃ σ', Rel w0 F σ' ⟨s.T, M'⟩ a w') {c : Prop} :
  Good P w0 F o s a w ⟨c, v, M'⟩ := by
 intro Q
 unfold Oper.wp execOp
 simp only [ho, Sem.run_bind, hrun, Result.andThen_ok, Sem.run_pure, Oper.upon_skip, hd, Act.put, St.put]
 exact hr
theorem rowSt (T : TabOk P tab) (r : Rel w0 F σ s a w) {t : TypeId} {x y : Operand} (ho : o.op = .store t x y) (hd : o.dst = none) {b i : Nat} {y0 : D} {e : TypeId} {sz : Nat} {xs : List D}
  (hx : AR σ s.M w (Xs σ s.M w) (.rpt b i none) (a.eval x)) (hy : VR1 w (Xs σ s.M w) y0 (a.eval y)) (hb : look s.M b = some (.row e (.slc sz xs))) (hil : i < xs.length) (hsz : (sk y0).size = sz) (hs0 : sz ≠ 0)
  (hs1 : (tg tab t).size = sz) {c : Prop} {v0 : AV} : Good P w0 F o s a w ⟨c, v0, putM s.M b (.row e (.slc sz (xs.set i y0)))⟩ := by
 obtain ⟨e', x0, hb', g, n, cap, hrv, hv⟩ := hx
 rw [hb] at hb'
 obtain ⟨rfl, rfl⟩ := Blk.row.inj (Option.some.inj hb')
 obtain ⟨cs, sz', n0, q1, q2, q3, q4⟩ := r.mem b _ hb
 obtain ⟨rfl, hpos, rfl, her⟩ := q3
 have hσ : σ.blk b = some g := by rw [q1, hrv]; rfl
 have hus := VR1.cells hy
 have hul : (a.eval y).cells.toList.length = sz' := by rw [← CR.sklen hus, hsz]
 obtain ⟨v1, v2, v3, rfl, hl1, hl2, hset⟩ := ER.set xs cs i her hil
 rcases q2.2 with ⟨h0, _⟩ | ⟨g', cap', cur, hv', hg0, hh, hnc, hcm, hcs, htake⟩
 ·rw [hrv] at h0; cases h0
 have hgg : g' = g := by rw [hrv] at hv'; injection hv' with h1 h2 h3; injection h1 with h1; injection h1 with h1; exact h1.symm
 subst hgg
 obtain ⟨rest, hrest⟩ : ∃ rest, rest = cur.toList.drop (xs.length * sz') := ⟨_, rfl⟩
 have hcur : cur.toList = v1 ++ v2 ++ (v3 ++ rest) := by
  rw [← List.append_assoc, ← htake, hrest, List.take_append_drop]
 have hrun := run_store (P := P) (w := w) (t := t) (e := e) (β := g') (o := i * sz') (v1 := v1) (v2 := v2) (v3 := v3 ++ rest) (yv := a.eval y) T (by
  rw [hh, ← hcur, Array.toArray_toList]) hl1 (by rw [hl2, ← hul, Array.length_toList]) (by omega) (by rw [← Array.length_toList, hul, hs1]) (CR.cell _ _ hus)
 have hv2 : a.eval x = .pointer (some ⟨g', i * sz', none⟩) := hv
 rw [← hv2] at hrun
 have hX : ∀ j, Xs σ s.M w j → Xs σ s.M w j ∧ (w.setRow g' (v1 ++ (a.eval y).cells.toList ++ (v3 ++ rest)).toArray).heap[j]? = w.heap[j]? := fun j hj =>
  ⟨hj, setRow_other w g' j _ (fun h => hj.2.2 b _ hb (by rw [h]; exact hσ))⟩
 refine st_store hd ho hrun ⟨σ, r.writeRowX (x' := .slc sz' (xs.set i y0)) (sz := sz') (n := xs.length) (cs := v1 ++ (a.eval y).cells.toList ++ v3) hb rfl hσ rfl rfl rfl (by simp) (fun j hj => setRow_other w g' j _ hj)
  ⟨rfl, hpos, by simp, hset _ _ hus hul⟩ ?_⟩
 have hlen : (v1 ++ (a.eval y).cells.toList ++ v3).length = xs.length * sz' := by
  have := q2.1
  simp only [List.length_append, hl2, hul] at this ⊢
  omega
 refine ⟨hlen, .inr ⟨g', cap', _, hv', hg0, setRow_heap w g' _ _ e _ hh, hnc, hcm, ?_, ?_⟩⟩
 ·have h2 := hcs
  rw [← Array.length_toList, hcur] at h2
  simp only [List.size_toArray, List.length_append, hl2, hul] at h2 ⊢
  omega
 ·show ((v1 ++ (a.eval y).cells.toList ++ (v3 ++ rest)).take (xs.length * sz')) = _
  rw [← List.append_assoc, List.take_left' hlen]
theorem aStore_sound (T : TabOk P tab) (r : Rel w0 F σ s a w) {t : TypeId} {x y : Operand} (ho : o.op = .store t x y) (hd : o.dst = none) (hc : (aStore tab t (evA s.T x) (evA s.T y) s.M).c) :
  Good P w0 F o s a w (aStore tab t (evA s.T x) (evA s.T y) s.M) := by
 have hx := ev_sound r x
 have hy := ev_sound r y
 unfold aStore at hc ⊢
 split at hc
 ·rename_i b p y0 heq heq'
  rw [heq] at hx
  rw [heq'] at hy
  obtain ⟨x0, β, hb, hσ, hp, hv⟩ := hx
  simp only [hb] at hc ⊢
  obtain ⟨hst, hs0, hs, htup⟩ := hc
  obtain ⟨β', cs, e, hσ', _, hh, hcr⟩ := r.mem b _ hb
  rw [hσ] at hσ'
  obtain rfl := Option.some.inj hσ'
  have hyc : VR1 w (Xs σ s.M w) (castD tab t y0) (a.eval y) := castD_sound (VR.one hy htup)
  have hus := VR1.cells hyc
  obtain ⟨v1, v2, v3, rfl, hl, hll, hnew⟩ := setP_reads p x0 _ cs _ hcr hst hus
  have R := T t (tg_lt hs0)
  obtain ⟨i, z, hi, hsz, _, _, _⟩ := R.info
  have hn : (a.eval y).cells.size = i.size := by
   have := CR.sklen hus
   rw [Array.length_toList] at this
   omega
  have hrun := run_storeCells_at P β (offS (sk x0) p) e (a.eval y).cells.toList 0 _ w hh (by
    simp only [List.size_toArray, List.length_append]; omega) (fun v hv => by rw [isCell_one]; exact CR.cell _ _ hus v hv)
  intro Q
  unfold Oper.wp execOp
  have hgo : (Instr.storeAt t (a.eval x) (a.eval y)).run P w = .ok () (w.setRow β (v1 ++ (a.eval y).cells.toList ++ v3).toArray) := by
   simp only [Instr.storeAt, hv, Instr.sureAddr, Sem.run_bind, Sem.run_pure, Result.andThen_ok, storeVar, sizeOf, typeInfo, program, Sem.run, hi, hn]
   simp only [ne_eq, not_true_eq_false, if_false, hrun, Nat.add_zero]
   congr 3
   rw [← hl]
   simp only [Array.length_toList] at hll
   rw [List.append_assoc v1 v2 v3, List.take_left' rfl, ← List.append_assoc, List.append_assoc v1 v2 v3, ← List.drop_drop, List.drop_left' rfl, List.drop_left' (by simpa using hll)]
  simp only [ho, Sem.run_bind, hgo, Result.andThen_ok, Sem.run_pure, Oper.upon_skip, hd, Act.put, St.put]
  refine ⟨σ, r.write hb hσ (sk_setP p x0 _ hst) rfl rfl rfl (by simp) (fun k hk => setRow_other w β k _ hk) (setRow_heap w β _ _ e _ hh) ?_⟩
  exact CR.mono (fun k hk => ⟨hk, setRow_other w β k _ (fun h => hk.2.2 b _ hb (by rw [h]; exact hσ))⟩) _ _ hnew
 ·rename_i b p off n k' n' l' heq heq'
  rw [heq] at hx
  rw [heq'] at hy
  obtain ⟨x0, β, k, m, l, hb, hσ, hp, hg, hon, hv⟩ := hx
  simp only [hb, hg] at hc ⊢
  obtain ⟨hn0, hs, rfl, rfl⟩ := hc
  obtain ⟨β', cs, e, hσ', _, hh, hcr⟩ := r.mem b _ hb
  rw [hσ] at hσ'
  obtain rfl := Option.some.inj hσ'
  obtain ⟨v1, v2, v3, rfl, hl, hgr⟩ := getP_reads p x0 cs hcr hp
  rw [hg] at hgr
  simp only [CR] at hgr
  obtain ⟨hlm, rfl⟩ := hgr
  obtain ⟨hl', hv'⟩ := (hy : l'.length = n' ∧ a.eval y = .agg (l'.map (Value.int k')).toArray)
  have hcells : (a.eval y).cells.toList = l'.map (Value.int k') := by rw [hv']; rfl
  have hlen : (l.take off ++ l' ++ l.drop (off + n')).length = m := by
   simp only [List.length_append, List.length_take, List.length_drop]; omega
  have hst : stP x0 p (.arr k' m (l.take off ++ l' ++ l.drop (off + n'))) := stP_same p x0 _ hp ⟨m, k', l, hg, rfl⟩
  have hus : CR w (Xs σ s.M w) (.arr k' m (l.take off ++ l' ++ l.drop (off + n'))) ((l.take off ++ l' ++ l.drop (off + n')).map (Value.int k')) := by
   simp only [CR]
   exact ⟨hlen, trivial⟩
  obtain ⟨u1, u2, u3, hcs, hul, hull, hnew⟩ := setP_reads p x0 _ _ _ hcr hst hus
  have e1 : u1 = v1 ∧ u2 ++ u3 = l.map (Value.int k') ++ v3 := by
   have h2 : v1 ++ (l.map (Value.int k') ++ v3) = u1 ++ (u2 ++ u3) := by rw [← List.append_assoc, hcs, List.append_assoc]
   have := List.append_inj h2 (by omega)
   exact ⟨this.1.symm, this.2.symm⟩
  obtain ⟨rfl, e2⟩ := e1
  have e3 : u2 = l.map (Value.int k') ∧ u3 = v3 := by
   refine List.append_inj e2 ?_
   rw [hull, List.length_map, List.length_map, hlen, hlm]
  obtain ⟨rfl, rfl⟩ := e3
  have hrun := run_store (P := P) (w := w) (t := t) (e := e) (β := β) (o := offS (sk x0) p + off) (v1 := u1 ++ (l.take off).map (Value.int k')) (v2 := ((l.drop off).take n').map (Value.int k')) (v3 := (l.drop (off + n')).map (Value.int k') ++ u3) (yv := a.eval y) T (by
    rw [hh]
    congr 3
    have : l = l.take off ++ ((l.drop off).take n' ++ l.drop (off + n')) := by
     rw [← List.drop_drop, List.take_append_drop, List.take_append_drop]
    conv => lhs; rw [this]
    simp only [List.map_append, List.append_assoc]) (by simp only [List.length_append, List.length_map, List.length_take]; omega)
   (by rw [← Array.length_toList, hcells]; simp only [List.length_map, List.length_take, List.length_drop]; omega) (by omega)
   (by rw [← Array.length_toList, hcells, List.length_map]; omega) (fun v hv => by rw [hcells] at hv; obtain ⟨_, _, rfl⟩ := List.mem_map.1 hv; rfl)
  rw [← hv] at hrun
  refine st_store hd ho hrun ⟨σ, r.write (x' := setP x0 p (.arr k' m (l.take off ++ l' ++ l.drop (off + n')))) hb hσ (sk_setP p x0 _ hst) rfl rfl rfl (by simp) (fun k hk => setRow_other w β k _ hk) (setRow_heap w β _ _ e _ hh) ?_⟩
  refine CR.mono (fun k hk => ⟨hk, setRow_other w β k _ (fun h => hk.2.2 b _ hb (by rw [h]; exact hσ))⟩) _ _ ?_
  rw [hcells]
  simp only [List.map_append, List.append_assoc] at hnew ⊢
  exact hnew
 ·rename_i b i k' z heq heq'
  rw [heq] at hx
  rw [heq'] at hy
  obtain ⟨e, x0, hb, g, n, cap, hrv, hv⟩ := hx
  cases x0 with
  | ints k l =>
   simp only [hb] at hc ⊢
   obtain ⟨hil, rfl, hs1⟩ := hc
   obtain ⟨cs, sz, n0, q1, q2, q3, q4⟩ := r.mem b _ hb
   obtain ⟨rfl, rfl, rfl⟩ := q3
   have hσ : σ.blk b = some g := by rw [q1, hrv]; rfl
   have ey : a.eval y = .int k' z := by
    have h' := (hy : _ ∧ _).1
    simp only [List.cons.injEq, and_true] at h'
    exact h'
   rcases q2.2 with ⟨h0, _⟩ | ⟨g', cap', cur, hv', hg0, hh, hnc, hcm, hcs, htake⟩
   ·rw [hrv] at h0; cases h0
   have hgg : g' = g := by rw [hrv] at hv'; injection hv' with h1 h2 h3; injection h1 with h1; injection h1 with h1; exact h1.symm
   subst hgg
   have hlen : i < cur.toList.length := by rw [Array.length_toList]; omega
   have hsplit : cur.toList = cur.toList.take i ++ [cur.toList[i]] ++ cur.toList.drop (i + 1) := by
    rw [List.append_assoc, List.singleton_append, ← List.drop_eq_getElem_cons hlen, List.take_append_drop]
   have hrun := run_store (P := P) (w := w) (t := t) (e := e) (β := g') (o := i) (v1 := cur.toList.take i) (v2 := [cur.toList[i]]) (v3 := cur.toList.drop (i + 1)) (yv := a.eval y) T (by
    rw [hh, ← hsplit, Array.toArray_toList]) (by rw [List.length_take]; omega) (by rw [ey]; rfl) (by omega) (by rw [ey, hs1]; rfl) (by
    intro v hv
    rw [ey] at hv
    obtain rfl := List.mem_singleton.1 (show v ∈ [Value.int k' z] from hv)
    rfl)
   have hset : cur.toList.take i ++ (a.eval y).cells.toList ++ cur.toList.drop (i + 1) = cur.toList.set i (Value.int k' z) := by
    rw [ey, List.set_eq_take_append_cons_drop, if_pos hlen, List.append_assoc]
    rfl
   rw [hset] at hrun
   have hv2 : a.eval x = .pointer (some ⟨g', i, none⟩) := by rw [hv]; show Value.pointer (some ⟨g', i * 1, none⟩) = _; rw [Nat.mul_one]
   rw [← hv2] at hrun
   refine st_store hd ho hrun ⟨σ, r.writeRow hb hσ rfl rfl rfl (by simp) (fun j hj => setRow_other w g' j _ hj) List.length_set ?_⟩
   refine ⟨by simp, .inr ⟨g', cap', _, hv', hg0, setRow_heap w g' _ _ e _ hh, hnc, hcm, ?_, ?_⟩⟩
   ·rw [List.size_toArray, List.length_set, Array.length_toList]; exact hcs
   ·show (cur.toList.set i (Value.int k' z)).take (l.length * 1) = _
    rw [List.take_set, htake, List.map_set]
  | _ =>
   simp only [hb] at hc
   exact hc.elim
 ·rename_i b i z heq heq'
  rw [heq] at hx
  rw [heq'] at hy
  obtain ⟨e, x0, hb, g, n, cap, hrv, hv⟩ := hx
  cases x0 with
  | slc sz1 xs =>
   simp only [hb] at hc ⊢
   obtain ⟨hil, rfl, hs1⟩ := hc
   obtain ⟨cs, sz, n0, q1, q2, q3, q4⟩ := r.mem b _ hb
   obtain ⟨rfl, _, rfl, her⟩ := q3
   have hσ : σ.blk b = some g := by rw [q1, hrv]; rfl
   have hy1 : CR w (Xs σ s.M w) (.str z) [a.eval y] := hy
   obtain ⟨zc, ey⟩ : ∃ u, a.eval y = .string u := by
    simp only [CR] at hy1
    exact ⟨_, by simpa using hy1.1⟩
   rcases q2.2 with ⟨h0, _⟩ | ⟨g', cap', cur, hv', hg0, hh, hnc, hcm, hcs, htake⟩
   ·rw [hrv] at h0; cases h0
   have hgg : g' = g := by rw [hrv] at hv'; injection hv' with h1 h2 h3; injection h1 with h1; injection h1 with h1; exact h1.symm
   subst hgg
   have hlen : i < cur.toList.length := by rw [Array.length_toList]; omega
   have hsplit : cur.toList = cur.toList.take i ++ [cur.toList[i]] ++ cur.toList.drop (i + 1) := by
    rw [List.append_assoc, List.singleton_append, ← List.drop_eq_getElem_cons hlen, List.take_append_drop]
   have hrun := run_store (P := P) (w := w) (t := t) (e := e) (β := g') (o := i) (v1 := cur.toList.take i) (v2 := [cur.toList[i]]) (v3 := cur.toList.drop (i + 1)) (yv := a.eval y) T (by
    rw [hh, ← hsplit, Array.toArray_toList]) (by rw [List.length_take]; omega) (by rw [ey]; rfl) (by omega) (by rw [ey, hs1]; rfl) (by
    intro v hv
    rw [ey] at hv
    obtain rfl := List.mem_singleton.1 (show v ∈ [Value.string zc] from hv)
    rfl)
   have hset : cur.toList.take i ++ (a.eval y).cells.toList ++ cur.toList.drop (i + 1) = cur.toList.set i (a.eval y) := by
    rw [List.set_eq_take_append_cons_drop, if_pos hlen, List.append_assoc, ey]
    rfl
   rw [hset] at hrun
   have hv2 : a.eval x = .pointer (some ⟨g', i, none⟩) := by rw [hv]; show Value.pointer (some ⟨g', i * 1, none⟩) = _; rw [Nat.mul_one]
   rw [← hv2] at hrun
   refine st_store hd ho hrun ⟨σ, r.writeRowX (x' := .slc 1 (xs.set i (.str z))) (sz := 1) (n := xs.length) (cs := cs.set i (a.eval y)) hb rfl hσ rfl rfl rfl (by simp) (fun j hj => setRow_other w g' j _ hj) ⟨rfl, by omega, by simp, ER.set1 xs cs i _ _ her hy1⟩ ?_⟩
   refine ⟨by simpa using q2.1, .inr ⟨g', cap', _, hv', hg0, setRow_heap w g' _ _ e _ hh, hnc, hcm, ?_, ?_⟩⟩
   ·rw [List.size_toArray, List.length_set, Array.length_toList]; exact hcs
   ·show (cur.toList.set i (a.eval y)).take (xs.length * 1) = _
    rw [List.take_set, htake]
  | _ =>
   simp only [hb] at hc
   exact hc.elim
 ·rename_i b i kz z heq heq'
  rw [heq] at hx
  rw [heq'] at hy
  obtain ⟨e, x0, hb, g, n, cap, hrv, hv⟩ := hx
  cases x0 with
  | slc sz1 xs =>
   simp only [hb] at hc ⊢
   obtain ⟨hil, rfl, hs1⟩ := hc
   obtain ⟨cs, sz, n0, q1, q2, q3, q4⟩ := r.mem b _ hb
   obtain ⟨rfl, _, rfl, her⟩ := q3
   have hσ : σ.blk b = some g := by rw [q1, hrv]; rfl
   have hy1 : CR w (Xs σ s.M w) (.ints kz z) [a.eval y] := hy
   obtain ⟨zc, zn, zcap, ey⟩ : ∃ u n c, a.eval y = .slice u n c := by
    simp only [CR] at hy1
    obtain ⟨ad, cp, hv0, _⟩ := hy1
    exact ⟨ad, _, cp, by simpa using hv0⟩
   rcases q2.2 with ⟨h0, _⟩ | ⟨g', cap', cur, hv', hg0, hh, hnc, hcm, hcs, htake⟩
   ·rw [hrv] at h0; cases h0
   have hgg : g' = g := by rw [hrv] at hv'; injection hv' with h1 h2 h3; injection h1 with h1; injection h1 with h1; exact h1.symm
   subst hgg
   have hlen : i < cur.toList.length := by rw [Array.length_toList]; omega
   have hsplit : cur.toList = cur.toList.take i ++ [cur.toList[i]] ++ cur.toList.drop (i + 1) := by
    rw [List.append_assoc, List.singleton_append, ← List.drop_eq_getElem_cons hlen, List.take_append_drop]
   have hrun := run_store (P := P) (w := w) (t := t) (e := e) (β := g') (o := i) (v1 := cur.toList.take i) (v2 := [cur.toList[i]]) (v3 := cur.toList.drop (i + 1)) (yv := a.eval y) T (by
    rw [hh, ← hsplit, Array.toArray_toList]) (by rw [List.length_take]; omega) (by rw [ey]; rfl) (by omega) (by rw [ey, hs1]; rfl) (by
    intro v hv
    rw [ey] at hv
    obtain rfl := List.mem_singleton.1 (show v ∈ [Value.slice zc zn zcap] from hv)
    rfl)
   have hset : cur.toList.take i ++ (a.eval y).cells.toList ++ cur.toList.drop (i + 1) = cur.toList.set i (a.eval y) := by
    rw [List.set_eq_take_append_cons_drop, if_pos hlen, List.append_assoc, ey]
    rfl
   rw [hset] at hrun
   have hv2 : a.eval x = .pointer (some ⟨g', i, none⟩) := by rw [hv]; show Value.pointer (some ⟨g', i * 1, none⟩) = _; rw [Nat.mul_one]
   rw [← hv2] at hrun
   refine st_store hd ho hrun ⟨σ, r.writeRowX (x' := .slc 1 (xs.set i (.ints kz z))) (sz := 1) (n := xs.length) (cs := cs.set i (a.eval y)) hb rfl hσ rfl rfl rfl (by simp) (fun j hj => setRow_other w g' j _ hj) ⟨rfl, by omega, by simp, ER.set1 xs cs i _ _ her hy1⟩ ?_⟩
   refine ⟨by simpa using q2.1, .inr ⟨g', cap', _, hv', hg0, setRow_heap w g' _ _ e _ hh, hnc, hcm, ?_, ?_⟩⟩
   ·rw [List.size_toArray, List.length_set, Array.length_toList]; exact hcs
   ·show (cur.toList.set i (a.eval y)).take (xs.length * 1) = _
    rw [List.take_set, htake]
  | _ =>
   simp only [hb] at hc
   exact hc.elim
 ·rename_i b i fs0 heq heq'
  rw [heq] at hx
  rw [heq'] at hy
  have hx2 := hx
  obtain ⟨e, x0, hb, -⟩ := hx2
  cases x0 with
  | slc sz1 xs =>
   simp only [hb] at hc ⊢
   obtain ⟨hil, hsz, hs0, hs1⟩ := hc
   exact rowSt T r ho hd hx (show VR1 w (Xs σ s.M w) (.st fs0) (a.eval y) from hy) hb hil hsz hs0 hs1
  | _ =>
   simp only [hb] at hc
   exact hc.elim
 ·rename_i b i k0 n0 l0 heq heq'
  rw [heq] at hx
  rw [heq'] at hy
  have hx2 := hx
  obtain ⟨e, x0, hb, -⟩ := hx2
  cases x0 with
  | slc sz1 xs =>
   simp only [hb] at hc ⊢
   obtain ⟨hil, hsz, hs0, hs1⟩ := hc
   exact rowSt T r ho hd hx (show VR1 w (Xs σ s.M w) (.arr k0 n0 l0) (a.eval y) from hy) hb hil hsz hs0 hs1
  | _ =>
   simp only [hb] at hc
   exact hc.elim
 ·rename_i b p y0 heq heq'
  rw [heq] at hx
  rw [heq'] at hy
  obtain ⟨fs, i, q, β, hb, hσ, hp, hv⟩ := hx
  simp only [hb] at hc ⊢
  cases p with
  | nil => exact hc.elim
  | cons j p' =>
   simp only at hc ⊢
   rcases beq_cases j i with ⟨hji, rfl⟩ | ⟨hji, hne⟩
   ·simp only [hji, cond_true] at hc; exact hc.elim
   ·simp only [hji, cond_false] at hc ⊢
    obtain ⟨hst, hs0, hs, htup⟩ := hc
    obtain ⟨g1, g2, u, g3, g4, β', cs, e, hσ', _, hh, hcr⟩ := r.mem b _ hb
    rw [hσ] at hσ'
    obtain rfl := Option.some.inj hσ'
    have hsk := sk_setv g1 g2 u
    have hyc : VR1 w (Xs σ s.M w) (castD tab t y0) (a.eval y) := castD_sound (VR.one hy htup)
    have hus := VR1.cells hyc
    have hst2 : stP (.st (fs.set i (.val u))) (j :: p') (castD tab t y0) := by
     obtain ⟨q1, q2⟩ := hst
     exact ⟨by simpa using q1, by rw [getDset_ne fs _ _ hne]; exact q2⟩
    obtain ⟨v1, v2, v3, rfl, hl, hll, hnew⟩ := setP_reads (j :: p') _ _ cs _ hcr hst2 hus
    rw [hsk] at hl
    have hrun := run_store (P := P) (w := w) (yv := a.eval y) T hh hl (by simpa using hll) hs0 (by
     have := CR.sklen hus
     rw [Array.length_toList] at this
     omega) (fun v hv => CR.cell _ _ hus v hv)
    rw [← hv] at hrun
    have eset : setP (.st (fs.set i (.val u))) (j :: p') (castD tab t y0) = .st ((fs.set j (setP (fs.getD j default) p' (castD tab t y0))).set i (.val u)) := by
     simp only [setP, getDset_ne fs _ _ hne]
     rw [List.set_comm _ _ (Ne.symm hne)]
    rw [eset] at hnew
    have hsk2 : sk (.st (fs.set j (setP (fs.getD j default) p' (castD tab t y0)))) = sk (.st fs) := sk_setP (j :: p') (.st fs) _ hst
    refine st_store hd ho hrun ⟨σ, r.writeL (u' := u) hb hσ hsk2 (by simpa using g1) (by rw [getDset_ne fs _ _ (Ne.symm hne)]; exact g2) g3 (fun rr hr => ⟨g4 rr hr, by subst hr; exact r.lk b fs i rr hb⟩) rfl rfl rfl (by simp) (fun k hk => setRow_other w β k _ hk) (setRow_heap w β _ _ e _ hh) ?_⟩
    exact CR.mono (fun k hk => ⟨hk, setRow_other w β k _ (fun h => hk.2.2 b _ hb (by rw [h]; exact hσ))⟩) _ _ hnew
 ·rename_i b p rr heq heq'
  rw [heq] at hx
  rw [heq'] at hy
  obtain ⟨fs, i, q, β, hb, hσ, hp, hv⟩ := hx
  obtain ⟨er, xr, hr, hrv⟩ := hy
  simp only [hb, hr] at hc ⊢
  split at hc
  ·rename_i j
   obtain ⟨rfl, hs⟩ := hc
   obtain ⟨g1, g2, u, g3, g4, β', cs, e, hσ', _, hh, hcr⟩ := r.mem b _ hb
   rw [hσ] at hσ'
   obtain rfl := Option.some.inj hσ'
   have hsk := sk_setv g1 g2 u
   have hcell : isCell (a.eval y) = true := by
    obtain ⟨_, _, _, _, q2, _⟩ := r.mem rr _ hr
    rw [hrv]
    rcases q2.2 with ⟨h, _⟩ | ⟨g, cap, cur, h, _⟩ <;> rw [h] <;> rfl
   have hcs : (a.eval y).cells.toList = [a.eval y] := by
    cases hh : a.eval y <;> first | rfl | (rw [hh] at hcell; cases hcell)
   have hus : CR w (Xs σ s.M w) (.val (a.eval y)) [a.eval y] := by
    simp only [CR]
    exact ⟨trivial, hcell⟩
   have hst : stP (.st (fs.set j (.val u))) [j] (.val (a.eval y)) := by
    refine ⟨by simpa using g1, ?_⟩
    rw [getDset_eq fs _ _ g1]
    exact rfl
   obtain ⟨v1, v2, v3, rfl, hl, hll, hnew⟩ := setP_reads [j] _ _ cs _ hcr hst hus
   rw [hsk] at hl
   have hrun := run_store (P := P) (w := w) (yv := a.eval y) T hh hl (by rw [← Array.length_toList, hcs]; exact hll) (show (tg tab t).size ≠ 0 by omega) (by
    rw [← Array.length_toList, hcs, hs]; rfl) (fun v hv => by rw [hcs] at hv; simp at hv; rw [hv]; exact hcell)
   rw [← hv] at hrun
   rw [hcs] at hrun
   have eset : setP (.st (fs.set j (.val u))) [j] (.val (a.eval y)) = .st (fs.set j (.val (a.eval y))) := by
    simp only [setP, List.set_set]
   rw [eset] at hnew
   refine st_store hd ho hrun ⟨σ, r.writeL (u' := a.eval y) hb hσ rfl g1 g2 hcell (fun r2 h2 => by obtain rfl := Option.some.inj h2; exact ⟨hrv, er, xr, hr⟩) rfl rfl rfl (by simp) (fun k hk => setRow_other w β k _ hk) (setRow_heap w β _ _ e _ hh) ?_⟩
   exact CR.mono (fun k hk => ⟨hk, setRow_other w β k _ (fun h => hk.2.2 b _ hb (by rw [h]; exact hσ))⟩) _ _ hnew
  ·exact hc.elim
 ·exact hc.elim
theorem Xs_new {M : Mem} {d : Nat} {k : Blk} (hd : look M d = none) {w w' : World} (hg : Grow w w') {σ' : Sg} (hσ : ∀ c, c ≠ d → σ'.blk c = σ.blk c) (hnew : σ'.blk d = some w.heap.size) (hok : σ'.ok = σ.ok) :
  ∀ β, Xs σ M w β → Xs σ' (putM M d k) w' β ∧ w'.heap[β]? = w.heap[β]? := by
 intro β hβ
 refine ⟨⟨Nat.lt_of_lt_of_le hβ.1 hg.size, by rw [hok]; exact hβ.2.1, fun c y hc => ?_⟩, hg.block β hβ.1⟩
 rw [look_put] at hc
 split at hc
 ·rename_i h
  rw [h, hnew]
  intro e
  have := hβ.1
  have := Option.some.inj e
  omega
 ·rename_i h
  rw [hσ c h]
  exact hβ.2.2 c y hc
theorem AR.put_new {M : Mem} {w' : World} {X X' : Nat → Prop} {d : Nat} {k : Blk} (hd : look M d = none) (h : ∀ β, X β → X' β ∧ w'.heap[β]? = w.heap[β]?) {σ' : Sg} (hσ : ∀ c, c ≠ d → σ'.blk c = σ.blk c ∧ σ'.rv c = σ.rv c)
  {y : AV} {v : Value} (hv : AR σ M w X y v) : AR σ' (putM M d k) w' X' y v := by
 have ne : ∀ {c : Nat} {z : Blk}, look M c = some z → c ≠ d := fun hc e => by rw [e, hd] at hc; cases hc
 cases y with
 | d y => exact VR.mono h y v hv
 | any => trivial
 | bq p q => exact hv
 | tpl c rs =>
  obtain ⟨z, β, vs, hc, hβ, hv, hr⟩ := hv
  exact ⟨z, β, vs, by rw [look_put, if_neg (ne hc)]; exact hc, by rw [(hσ c (ne hc)).1]; exact hβ, hv, hr.mono fun d u hu => VR.mono h d u hu⟩
 | tpr c rs =>
  obtain ⟨e, z, vs, hc, hv, hr⟩ := hv
  exact ⟨e, z, vs, by rw [look_put, if_neg (ne hc)]; exact hc, by rw [(hσ c (ne hc)).2]; exact hv, hr.mono fun d u hu => VR.mono h d u hu⟩
 | lp c p =>
  obtain ⟨fs, i, q, β, hc, hβ, rest⟩ := hv
  exact ⟨fs, i, q, β, by rw [look_put, if_neg (ne hc)]; exact hc, by rw [(hσ c (ne hc)).1]; exact hβ, rest⟩
 | sub c p off n =>
  obtain ⟨z, β, k, m, l, hc, hβ, rest⟩ := hv
  exact ⟨z, β, k, m, l, by rw [look_put, if_neg (ne hc)]; exact hc, by rw [(hσ c (ne hc)).1]; exact hβ, rest⟩
 | dat y => exact AR.mono (σ := σ) (M := M) h (.dat y) v hv
 | row c =>
  obtain ⟨e, z, hc, hv⟩ := hv
  exact ⟨e, z, by rw [look_put, if_neg (ne hc)]; exact hc, by rw [(hσ c (ne hc)).2]; exact hv⟩
 | rpt c i n =>
  obtain ⟨e, z, hc, hv⟩ := hv
  exact ⟨e, z, by rw [look_put, if_neg (ne hc)]; exact hc, by rw [(hσ c (ne hc)).2]; exact hv⟩
 | ptr c p =>
  obtain ⟨z, β, hc, hβ, hp, hv⟩ := hv
  exact ⟨z, β, by rw [look_put, if_neg (ne hc)]; exact hc, by rw [(hσ c (ne hc)).1]; exact hβ, hp, hv⟩
 | own c p off len cap =>
  obtain ⟨z, β, k, n, l, α, hc, hβ, rest⟩ := hv
  exact ⟨z, β, k, n, l, α, by rw [look_put, if_neg (ne hc)]; exact hc, by rw [(hσ c (ne hc)).1]; exact hβ, rest⟩
theorem Rel.lkp (r : Rel w0 F σ s a w) {d : Nat} {k : Blk} (hd : look s.M d = none) (hk : isLnkK k = false) : Lks (putM s.M d k) := r.lk.put hk (.inr fun e x h => by rw [hd] at h; cases h)
theorem Rel.new (r : Rel w0 F σ s a w) {d : Nat} {k : Blk} {w' : World} {v : Value} (hd : look s.M d = none) (hkl : Lks (putM s.M d k)) (hg : Grow w w') (hlt : w.heap.size < w'.heap.size)
  (hb : ∀ σ' : Sg, σ'.ok = σ.ok → (∀ c, c ≠ d → σ'.blk c = σ.blk c) → σ'.blk d = some w.heap.size → σ'.rv d = v → (∀ c, c ≠ d → σ'.rv c = σ.rv c) → BR σ' w0 F.F w' (Xs σ' (putM s.M d k) w') d k) :
  Rel w0 F ⟨fun c => if c = d then some w.heap.size else σ.blk c, fun c => if c = d then v else σ.rv c, σ.ok⟩ ⟨s.T, putM s.M d k⟩ a w' := by
 have hσ : ∀ c, c ≠ d → (if c = d then some w.heap.size else σ.blk c) = σ.blk c := fun c h => if_neg h
 have hX := Xs_new (σ := σ) (σ' := ⟨fun c => if c = d then some w.heap.size else σ.blk c, fun c => if c = d then v else σ.rv c, σ.ok⟩) (k := k) hd hg hσ (if_pos rfl) rfl
 have ne : ∀ {c : Nat} {z : Blk}, look s.M c = some z → c ≠ d := fun hc e => by rw [e, hd] at hc; cases hc
 have old : ∀ c z β, look s.M c = some z → σ.blk c = some β → β < w.heap.size := by
  intro c z β hc hβ
  have hm := r.mem c z hc
  cases z with
  | fix z =>
   obtain ⟨γ, ds, e', h1, h2, h3, h4⟩ := hm
   rw [hβ] at h1
   obtain rfl := Option.some.inj h1
   exact block_lt h3
  | row e' z =>
   obtain ⟨ds, sz, n, h1, h2, h3, _⟩ := hm
   rw [hβ] at h1
   exact (h2.lt β h1.symm).2
  | lnk fs i q =>
   obtain ⟨g1, g2, u, g3, g4, γ, ds, e', h1, h2, h3, h4⟩ := hm
   rw [hβ] at h1
   obtain rfl := Option.some.inj h1
   exact block_lt h3
 refine ⟨r.defs, r.len, fun i y hy => ?_, fun c z hc => ?_, fun c c' z z' β h1 h2 h3 h4 => ?_, hkl, r.frm.trans (hg.frm F.any), r.okn⟩
 ·obtain ⟨v, hv, ha⟩ := r.tmp i y hy
  exact ⟨v, hv, ha.put_new hd hX (fun c h => ⟨if_neg h, if_neg h⟩)⟩
 ·rw [look_put] at hc
  split at hc
  ·rename_i h
   subst h
   obtain rfl := Option.some.inj hc
   exact hb _ rfl hσ (if_pos rfl) (if_pos rfl) (fun c h => if_neg h)
  ·rename_i h
   have hm := r.mem c z hc
   cases z with
   | fix z =>
    obtain ⟨γ, ds, e', h1, h2, h3, h4⟩ := hm
    exact ⟨γ, ds, e', by simp only [if_neg h]; exact h1, h2, by rw [hg.block γ (block_lt h3)]; exact h3, CR.mono hX z ds h4⟩
   | row e' z =>
    obtain ⟨ds, sz, n, h1, h2, h3, hRB⟩ := hm
    exact ⟨ds, sz, n, by simp only [if_neg h]; exact h1, by simp only [if_neg h]; exact ownsRow_grow hg h2, h3.mono hX, by simp only [if_neg h]; exact hRB⟩
   | lnk fs i q =>
    obtain ⟨g1, g2, u, g3, g4, γ, ds, e', h1, h2, h3, h4⟩ := hm
    refine ⟨g1, g2, u, g3, fun rr hq => ?_, γ, ds, e', by simp only [if_neg h]; exact h1, h2, by rw [hg.block γ (block_lt h3)]; exact h3, CR.mono hX _ ds h4⟩
    subst hq
    obtain ⟨er, xr, hr⟩ := r.lk c fs i rr hc
    simp only [if_neg (ne hr)]
    exact g4 rr rfl
 ·simp only at h3 h4
  rw [look_put] at h1 h2
  by_cases e1 : c = d <;> by_cases e2 : c' = d
  ·rw [e1, e2]
  ·rw [if_pos e1] at h3
   rw [if_neg e2] at h4 h2
   have := old c' z' β h2 h4
   have := Option.some.inj h3
   omega
  ·rw [if_neg e1] at h3 h1
   rw [if_pos e2] at h4
   have := old c z β h1 h3
   have := Option.some.inj h4
   omega
  ·rw [if_neg e1] at h3 h1
   rw [if_neg e2] at h4 h2
   exact r.inj c c' z z' β h1 h2 h3 h4
theorem Rel.new' (r : Rel w0 F σ s a w) {d : Nat} {k : Blk} (hd : look s.M d = none) (hkl : isLnkK k = false)
  (hb : ∀ σ' : Sg, σ'.blk d = none → σ'.rv d = .slice none 0 0 → BR σ' w0 F.F w (Xs σ' (putM s.M d k) w) d k) :
  Rel w0 F ⟨fun c => if c = d then none else σ.blk c, fun c => if c = d then .slice none 0 0 else σ.rv c, σ.ok⟩ ⟨s.T, putM s.M d k⟩ a w := by
 have ne : ∀ {c : Nat} {z : Blk}, look s.M c = some z → c ≠ d := fun hc e => by rw [e, hd] at hc; cases hc
 have hX : ∀ β, Xs σ s.M w β → Xs ⟨fun c => if c = d then none else σ.blk c, fun c => if c = d then .slice none 0 0 else σ.rv c, σ.ok⟩ (putM s.M d k) w β ∧ w.heap[β]? = w.heap[β]? := by
  intro β hβ
  refine ⟨⟨hβ.1, hβ.2.1, fun c y hc => ?_⟩, rfl⟩
  rw [look_put] at hc
  split at hc
  ·rename_i h
   simp only [h, if_true]
   intro e
   cases e
  ·rename_i h
   simp only [if_neg h]
   exact hβ.2.2 c y hc
 refine ⟨r.defs, r.len, fun i y hy => ?_, fun c z hc => ?_, fun c c' z z' β h1 h2 h3 h4 => ?_, r.lk.put hkl (.inr fun e x h => by rw [hd] at h; cases h), r.frm, r.okn⟩
 ·obtain ⟨v, hv, ha⟩ := r.tmp i y hy
  exact ⟨v, hv, ha.put_new hd hX (fun c h => ⟨if_neg h, if_neg h⟩)⟩
 ·rw [look_put] at hc
  split at hc
  ·rename_i h
   subst h
   obtain rfl := Option.some.inj hc
   exact hb _ (if_pos rfl) (if_pos rfl)
  ·rename_i h
   have hm := r.mem c z hc
   cases z with
   | fix z =>
    obtain ⟨γ, ds, e', h1, h2, h3, h4⟩ := hm
    exact ⟨γ, ds, e', by simp only [if_neg h]; exact h1, h2, h3, CR.mono hX z ds h4⟩
   | row e' z =>
    obtain ⟨ds, sz, n, h1, h2, h3, hRB⟩ := hm
    exact ⟨ds, sz, n, by simp only [if_neg h]; exact h1, by simp only [if_neg h]; exact h2, h3.mono hX, by simp only [if_neg h]; exact hRB⟩
   | lnk fs i q =>
    obtain ⟨g1, g2, u, g3, g4, γ, ds, e', h1, h2, h3, h4⟩ := hm
    refine ⟨g1, g2, u, g3, fun rr hq => ?_, γ, ds, e', by simp only [if_neg h]; exact h1, h2, h3, CR.mono hX _ ds h4⟩
    subst hq
    obtain ⟨er, xr, hr⟩ := r.lk c fs i rr hc
    simp only [if_neg (ne hr)]
    exact g4 rr rfl
 ·simp only at h3 h4
  rw [look_put] at h1 h2
  by_cases e1 : c = d <;> by_cases e2 : c' = d
  ·rw [e1, e2]
  ·rw [if_pos e1] at h3; cases h3
  ·rw [if_pos e2] at h4; cases h4
  ·rw [if_neg e1] at h3 h1
   rw [if_neg e2] at h4 h2
   exact r.inj c c' z z' β h1 h2 h3 h4
theorem alloc_good (r : Rel w0 F σ s a w) {d : Nat} {x : D} {t : TypeId} {v : Value} (hd : look s.M d = none) (h1000 : d < 1000) (hdst : o.dst = some d) (hx : VR1 w (Xs σ s.M w) x v)
  (hrun : (execOp a.eval o).run P w = .ok (.value (.pointer (some ⟨w.heap.size, 0, none⟩))) (w.alloc (.cells v.cells t))) :
  Good P w0 F o s a w ⟨True, .ptr d [], putM s.M d (.fix x)⟩ := by
 intro Q
 unfold Oper.wp
 rw [hrun]
 have hg := Grow.alloc w (.cells v.cells t)
 have R := r.new (k := .fix x) (v := v) hd (r.lkp hd rfl) hg (by simp) (fun σ' hk h0 h1 h2 _ => ?_)
 ·refine ⟨_, (R.put o.dst ?_)⟩
  exact ⟨x, w.heap.size, by rw [look_put, if_pos rfl], if_pos rfl, by cases x <;> exact True.intro, by rw [offS_nil]⟩
 ·have hX := Xs_new (σ := σ) (σ' := σ') (k := .fix x) hd hg h0 h1 hk
  exact ⟨w.heap.size, v.cells.toList, t, h1, .inl ⟨h1000, r.frm.size⟩, by rw [heap_alloc_new], CR.mono hX x _ (VR1.cells hx)⟩
end
end Go.Vg
