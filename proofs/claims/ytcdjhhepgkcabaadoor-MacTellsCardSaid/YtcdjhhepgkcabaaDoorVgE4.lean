/- Vg, part E4: addresses, fields, elements. -/
import Derived.Test.YtcdjhhepgkcabaaDoorVgE3
import Derived.Laws.BytesString
namespace Go.Vg
open Go Go.RowKit

theorem okP_append : ∀ (p : List Nat) (x : D) (q : List Nat), okP x p → okP (getP x p) q → okP x (p ++ q)
  | [], x, q, _, h => by simpa [getP] using h
  | i :: p, .st fs, q, h, h' => ⟨h.1, okP_append p _ q h.2 (by simpa [getP] using h')⟩
  | i :: p, .arr k n l, q, h, h' => by
    obtain ⟨h1, rfl⟩ := h
    simp only [getP] at h'
    cases q with
    | nil => exact ⟨h1, rfl⟩
    | cons j q => exact absurd h' (by simp [okP])
  | i :: p, .val _, _, h, _ => h.elim
  | i :: p, .ints _ _, _, h, _ => h.elim
  | i :: p, .slc _ _, _, h, _ => h.elim
  | i :: p, .tup _, _, h, _ => h.elim
  | i :: p, .str _, _, h, _ => h.elim
  | i :: p, .ref _, _, h, _ => h.elim
  | i :: p, .clo _ _, _, h, _ => h.elim

theorem okP_getP_append : ∀ (p : List Nat) (x : D) (q : List Nat), okP x p → getP x (p ++ q) = getP (getP x p) q
  | [], x, q, _ => by simp [getP]
  | i :: p, .st fs, q, h => by simpa [getP] using okP_getP_append p _ q h.2
  | i :: p, .arr k n l, q, h => by
    obtain ⟨h1, rfl⟩ := h
    simp only [List.cons_append, List.nil_append, getP]
    cases q <;> rfl
  | i :: p, .val _, _, h => h.elim
  | i :: p, .ints _ _, _, h => h.elim
  | i :: p, .slc _ _, _, h => h.elim
  | i :: p, .tup _, _, h => h.elim
  | i :: p, .str _, _, h => h.elim
  | i :: p, .ref _, _, h => h.elim
  | i :: p, .clo _ _, _, h => h.elim

theorem off_append {x : D} {p : List Nat} (hp : okP x p) (q : List Nat) (h : sk (getP x p) ≠ .one ∨ q = []) : offS (sk x) (p ++ q) = offS (sk x) p + offS (sk (getP x p)) q := by
  rw [offS_append p (sk x) q (fun _ _ => trivial) (by
    rw [subS_getP p x hp]
    exact h.symm), subS_getP p x hp]

section
variable {P : Program} {tab : Tab} {w0 : World} {F : Env} {σ : Sg} {s : St} {a : Act} {w : World} {o : Oper}

/-- As good_of, the result told by parts. -/
theorem good_c {r : Rel w0 F σ s a w} {c : Prop} {x : AV} {v : Value} (hrun : (execOp a.eval o).run P w = .ok (.value v) w) (hv : AR σ s.M w (Xs σ s.M w) x v) : Good P w0 F o s a w ⟨c, x, s.M⟩ :=
  fun Q => good_pure (P := P) (o := o) r hrun hv Q

theorem un_sound (r : Rel w0 F σ s a w) {op : UnOp} {t : TypeId} {x : Operand} (ho : o.op = .unOp op t x) (hc : (aUn op (evA s.T x) s.M).c) : Good P w0 F o s a w (aUn op (evA s.T x) s.M) := by
  have hx := ev_sound r x
  unfold aUn at hc ⊢
  split at hc
  · rename_i k n heq
    rw [heq] at hx
    refine good_c (r := r) (v := .int k (k.wrap (0 - n))) ?_ (vr_of_int w (Xs σ s.M w) _ _)
    have ex := ar_int hx
    unfold execOp; simp only [ho, ex]; rfl
  · rename_i k n heq
    rw [heq] at hx
    refine good_c (r := r) (v := .int k (ixor k (if k.signed then -1 else k.max) n)) ?_ (vr_of_int w (Xs σ s.M w) _ _)
    have ex := ar_int hx
    unfold execOp; simp only [ho, ex]; rfl
  · rename_i b heq
    rw [heq] at hx
    refine good_c (r := r) (v := .bool !b) ?_ (vr_of_bool w (Xs σ s.M w) _)
    have ex := ar_val hx
    unfold execOp; simp only [ho, ex]; rfl
  · exact hc.elim

theorem extract_sound (r : Rel w0 F σ s a w) {i : Nat} {x : Operand} (ho : o.op = .extract x i) (hc : (aExtract (evA s.T x) i s.M).c) : Good P w0 F o s a w (aExtract (evA s.T x) i s.M) := by
  have hx := ev_sound r x
  unfold aExtract at hc ⊢
  split at hc
  · rename_i ds heq
    rw [heq] at hx
    obtain ⟨vs, hv, hall⟩ := hx
    obtain ⟨hi, htup⟩ := hc
    obtain ⟨y, hy, hr⟩ := hall.get i (ds.getD i default) (by simp [List.getElem?_eq_getElem hi])
    refine good_c (r := r) (v := y) ?_ (VR1.up hr)
    unfold execOp
    simp only [ho, hv, Instr.extract, List.getElem?_toArray, hy]
    rfl
  · exact hc.elim

theorem index_add (w : World) {e : TypeId} (T : TabOk P tab) (he : (tg tab e).size ≠ 0) : (sizeOf e).run P w = .ok (tg tab e).size w := by
  obtain ⟨i, z, hi, hsz, _⟩ := (T e (tg_lt he)).info
  rw [← hsz]
  simp [sizeOf, typeInfo, program, Sem.run, hi]

theorem at_cells {X : Nat → Prop} {ad : Option Addr} {cs : List Value} (h : At w X ad cs) (hne : 0 < cs.length) :
    ∃ β o, ad = some ⟨β, o, none⟩ ∧ X β ∧ ∀ (j : Nat) (v : Value), cs[j]? = some v → w.cell? ⟨β, o + j, none⟩ = some v := by
  rcases h with rfl | h
  · simp at hne
  · exact h

theorem run_indexAt_slice {t e : TypeId} {k : IntKind} {i : Int} {ad : Addr} {len cap sz : Nat} (ht : P.underlying t = some (.slice e)) (hsz : (sizeOf e).run P w = .ok sz w) (h0 : 0 ≤ i) (h1 : i < len) :
    (Instr.indexAt t (.slice (some ad) len cap) (.int k i)).run P w = .ok (.pointer (some (ad.add (i.toNat * sz)))) w := by
  simp [Instr.indexAt, asIntOf, run_underlying ht, h0, h1, hsz]

theorem run_indexAt_arr {t e : TypeId} {k : IntKind} {i : Int} {ad : Addr} {n sz : Nat} (ht : P.underlying t = some (.array n e)) (hsz : (sizeOf e).run P w = .ok sz w) (h0 : 0 ≤ i) (h1 : i < n) :
    (Instr.indexAt t (.pointer (some ad)) (.int k i)).run P w = .ok (.pointer (some (ad.add (i.toNat * sz)))) w := by
  simp [Instr.indexAt, asIntOf, run_underlying ht, h0, h1, hsz, Instr.sureAddr]

theorem indexAddr_sound (T : TabOk P tab) (r : Rel w0 F σ s a w) {t : TypeId} {x y : Operand} (ho : o.op = .indexAddr t x y) (hc : (aIndexAddr tab t (unref (evA s.T x)) (evA s.T y) s.M).c) :
    Good P w0 F o s a w (aIndexAddr tab t (unref (evA s.T x)) (evA s.T y) s.M) := by
  have hx := unref_sound (ev_sound r x)
  have hy := ev_sound r y
  unfold aIndexAddr at hc ⊢
  split at hc
  · rename_i k i heqy
    rw [heqy] at hy
    have ey := ar_int hy
    have run : ∀ v, (Instr.indexAt t (a.eval x) (.int k i)).run P w = .ok v w → (execOp a.eval o).run P w = .ok (.value v) w := fun v h => by
      unfold execOp
      simp only [ho, ey, Sem.run_bind, h, Result.andThen_ok, Sem.run_pure]
    split at hc
    · rename_i b p heqx
      rw [heqx] at hx
      obtain ⟨z, β, hb, hσ, hp, hv⟩ := hx
      simp only [hb] at hc ⊢
      split at hc
      · rename_i n e hbb hty
        obtain rfl := Blk.fix.inj (Option.some.inj hbb)
        split at hc
        · rename_i k' m l hg
          obtain ⟨h0, h1, rfl, hs1⟩ := hc
          have ht := (T t (tg_lt' (by rw [hty]; simp))).tarr _ _ hty
          refine good_c (r := r) (v := .pointer (some ⟨β, offS (sk z) (p ++ [i.toNat]), none⟩)) (run _ ?_) ⟨z, β, hb, hσ, okP_append p z _ hp (by rw [hg]; exact ⟨by omega, rfl⟩), rfl⟩
          rw [hv, run_indexAt_arr ht (index_add w T (by omega)) h0 h1, hs1, addr_add_none, off_append hp _ (.inl (by rw [hg]; simp [sk])), hg]
          simp [sk, offS]
        · exact hc.elim
      · exact hc.elim
    · rename_i b p off len cap heqx
      rw [heqx] at hx
      obtain ⟨z, β, k', n, l, α, hb, hσ, hp, hg, hn, hlc, hv, hα⟩ := hx
      split at hc
      · rename_i e hty
        obtain ⟨h0, h1, hs1⟩ := hc
        have ht := (T t (tg_lt' (by rw [hty]; simp))).tslice _ hty
        have hα' := hα (by omega)
        refine good_c (r := r) (v := .pointer (some ⟨β, offS (sk z) (p ++ [off + i.toNat]), none⟩)) (run _ ?_) ⟨z, β, hb, hσ, okP_append p z _ hp (by rw [hg]; exact ⟨by omega, rfl⟩), rfl⟩
        rw [hv, run_indexAt_slice ht (index_add w T (by omega)) h0 h1, hs1, hα', addr_add_none, off_append hp _ (.inl (by rw [hg]; simp [sk])), hg]
        simp [sk, offS, Nat.add_assoc]
      · exact hc.elim
    · rename_i k' l heqx
      rw [heqx] at hx
      obtain ⟨ad, c, hv, hlc, hat⟩ := hx
      simp only [List.cons.injEq, and_true] at hv
      split at hc
      · rename_i e hty
        obtain ⟨h0, h1, hs1⟩ := hc
        have ht := (T t (tg_lt' (by rw [hty]; simp))).tslice _ hty
        obtain ⟨β, o', rfl, hX, hcells⟩ := at_cells hat (by rw [List.length_map]; omega)
        have hi : i.toNat < l.length := by omega
        refine good_c (r := r) (v := .pointer (some ⟨β, o' + i.toNat, none⟩)) (run _ ?_) ⟨β, o' + i.toNat, [.int k' (l.getD i.toNat 0)], rfl, hX, ⟨rfl, rfl⟩, fun j u hu => ?_⟩
        · rw [hv, run_indexAt_slice ht (index_add w T (by omega)) h0 h1, hs1, addr_add_none, Nat.mul_one]
        · cases j with
          | zero =>
            simp only [List.getElem?_cons_zero, Option.some.injEq] at hu
            rw [Nat.add_zero, ← hu]
            exact hcells _ _ (by simp [List.getElem?_eq_getElem hi])
          | succ j => simp at hu
      · exact hc.elim
    · rename_i sz xs heqx
      rw [heqx] at hx
      obtain ⟨ad, c, cs, hv, hlc, hat, her⟩ := hx
      simp only [List.cons.injEq, and_true] at hv
      split at hc
      · rename_i e hty
        obtain ⟨h0, h1, hs0, rfl, hshp⟩ := hc
        have ht := (T t (tg_lt' (by rw [hty]; simp))).tslice _ hty
        have hi : i.toNat < xs.length := by omega
        have hel := ER.elem xs cs her i.toNat (xs.getD i.toNat default) (by simp [List.getElem?_eq_getElem hi])
        have hlen := ER.len xs cs her
        have hpos : (i.toNat + 1) * (tg tab e).size ≤ xs.length * (tg tab e).size := Nat.mul_le_mul_right _ hi
        rw [Nat.add_mul, Nat.one_mul] at hpos
        obtain ⟨β, o', rfl, hX, hcells⟩ := at_cells hat (by omega)
        rw [hshp]
        refine good_c (r := r) (v := .pointer (some ⟨β, o' + i.toNat * (tg tab e).size, none⟩)) (run _ ?_) ⟨β, o' + i.toNat * (tg tab e).size, _, rfl, hX, hel.1, fun j u hu => ?_⟩
        · rw [hv, run_indexAt_slice ht (index_add w T hs0) h0 h1, addr_add_none]
        · rw [List.getElem?_take] at hu
          split at hu
          · rw [List.getElem?_drop] at hu
            rw [Nat.add_assoc]
            exact hcells _ _ hu
          · cases hu
      · exact hc.elim
    · rename_i b heqx
      rw [heqx] at hx
      obtain ⟨e', x', hb, hv⟩ := hx
      split at hc
      · rename_i e et k' l hty hbb
        obtain ⟨h0, h1, hs1⟩ := hc
        have ht := (T t (tg_lt' (by rw [hty]; simp))).tslice _ hty
        rw [hb] at hbb
        obtain ⟨cs, sz, n, q1, q2, q3⟩ := r.mem b _ hb
        obtain rfl := (Blk.row.inj (Option.some.inj hbb)).2
        obtain ⟨rfl, rfl, rfl⟩ := q3
        rcases q2.2 with ⟨_, hz⟩ | ⟨g, cap, cur, hrv, _⟩
        · omega
        · refine good_c (r := r) (v := .pointer (some ⟨g, i.toNat * 1, none⟩)) (run _ ?_) ⟨e', _, g, _, cap, hb, hrv, rfl⟩
          rw [hv, hrv, run_indexAt_slice ht (index_add w T (by omega)) h0 h1, hs1, addr_add_none, Nat.zero_add]
      · rename_i e et sz' xs hty hbb
        obtain ⟨h0, h1, hs0, hs1⟩ := hc
        have ht := (T t (tg_lt' (by rw [hty]; simp))).tslice _ hty
        rw [hb] at hbb
        obtain ⟨cs, sz, n, q1, q2, q3⟩ := r.mem b _ hb
        obtain rfl := (Blk.row.inj (Option.some.inj hbb)).2
        obtain ⟨rfl, _, rfl, _⟩ := q3
        rcases q2.2 with ⟨_, hz⟩ | ⟨g, cap, cur, hrv, _⟩
        · omega
        · refine good_c (r := r) (v := .pointer (some ⟨g, i.toNat * sz, none⟩)) (run _ ?_) ⟨e', _, g, _, cap, hb, hrv, rfl⟩
          rw [hv, hrv, run_indexAt_slice ht (index_add w T hs0) h0 h1, hs1, addr_add_none, Nat.zero_add]
      · exact hc.elim
    · rename_i k' m l heqx
      rw [heqx] at hx
      obtain ⟨β, o', cs, hv, hX, hcr, hcells⟩ := hx
      split at hc
      · rename_i n e hty
        obtain ⟨h0, h1, rfl, hs1⟩ := hc
        have ht := (T t (tg_lt' (by rw [hty]; simp))).tarr _ _ hty
        simp only [CR] at hcr
        obtain ⟨hl, rfl⟩ := hcr
        have hi : i.toNat < l.length := by omega
        refine good_c (r := r) (v := .pointer (some ⟨β, o' + i.toNat, none⟩)) (run _ ?_) ⟨β, o' + i.toNat, [.int k' (l.getD i.toNat 0)], rfl, hX, ⟨rfl, rfl⟩, fun j u hu => ?_⟩
        · rw [hv, run_indexAt_arr ht (index_add w T (by omega)) h0 h1, hs1, addr_add_none, Nat.mul_one]
        · cases j with
          | zero =>
            simp only [List.getElem?_cons_zero, Option.some.injEq] at hu
            rw [Nat.add_zero, ← hu]
            exact hcells _ _ (by simp [List.getElem?_eq_getElem hi])
          | succ j => simp at hu
      · exact hc.elim
    · exact hc.elim
  · exact hc.elim

end
end Go.Vg
