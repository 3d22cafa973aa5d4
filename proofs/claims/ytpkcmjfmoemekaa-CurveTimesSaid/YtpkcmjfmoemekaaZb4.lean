/- Vg, part E4: addresses, fields, elements. -/
import Derived.Test.YtpkcmjfmoemekaaZb3
import Derived.Laws.BytesString
namespace Go.Vg
open Go Go.RowKit
theorem okP_append : ∀ (p : List Nat) (x : D) (q : List Nat), okP x p → okP (getP x p) q → okP x (p ++ q)
 | [], x, q, _, h => by simpa [getP] using h
 | i :: p, .st fs, q, h, h' => ⟨h.1, okP_append p _ q h.2 (by simpa [getP] using h')⟩
 | i :: p, .arr k n l, q, h, h' => by
  obtain ⟨h1, rfl⟩ := h
  simp only [getP] at h'
  cases q with
  | nil => exact ⟨h1, rfl⟩
  | cons j q => exact absurd h' (by simp [okP])
 | i :: p, .val _, _, h, _ => h.elim
 | i :: p, .ints _ _, _, h, _ => h.elim
 | i :: p, .slc _ _, _, h, _ => h.elim
 | i :: p, .tup _, _, h, _ => h.elim
 | i :: p, .str _, _, h, _ => h.elim
 | i :: p, .ref _, _, h, _ => h.elim
 | i :: p, .clo _ _, _, h, _ => h.elim
theorem off_append {x : D} {p : List Nat} (hp : okP x p) (q : List Nat) (h : sk (getP x p) ≠ .one ∨ q = []) : offS (sk x) (p ++ q) = offS (sk x) p + offS (sk (getP x p)) q := by
 rw [offS_append p (sk x) q (fun _ _ => trivial) (by
  rw [subS_getP p x hp]
  exact h.symm), subS_getP p x hp]
section
variable {P : Program} {tab : Tab} {w0 : World} {F : Env} {σ : Sg} {s : St} {a : Act} {w : World} {o : Oper}
theorem good_c {r : Rel w0 F σ s a w} {c : Prop} {x : AV} {v : Value} (hrun : (execOp a.eval o).run P w = .ok (.value v) w) (hv : AR σ s.M w (Xs σ s.M w) x v) : Good P w0 F o s a w ⟨c, x, s.M⟩ :=
 fun Q => good_pure (P := P) (o := o) r hrun hv Q
theorem un_sound (r : Rel w0 F σ s a w) {op : UnOp} {t : TypeId} {x : Operand} (ho : o.op = .unOp op t x) (hc : (aUn op (evA s.T x) s.M).c) : Good P w0 F o s a w (aUn op (evA s.T x) s.M) := by
 have hx := ev_sound r x
 unfold aUn at hc ⊢
 split at hc
 ·rename_i k n heq
  rw [heq] at hx
  refine good_c (r := r) (v := .int k (k.wrap (0 - n))) ?_ (vr_of_int w (Xs σ s.M w) _ _)
  have ex := ar_int hx
  unfold execOp; simp only [ho, ex]; rfl
 ·rename_i k n heq
  rw [heq] at hx
  refine good_c (r := r) (v := .int k (ixor k (if k.signed then -1 else k.max) n)) ?_ (vr_of_int w (Xs σ s.M w) _ _)
  have ex := ar_int hx
  unfold execOp; simp only [ho, ex]; rfl
 ·rename_i b heq
  rw [heq] at hx
  refine good_c (r := r) (v := .bool !b) ?_ (vr_of_bool w (Xs σ s.M w) _)
  have ex := ar_val hx
  unfold execOp; simp only [ho, ex]; rfl
 ·exact hc.elim
theorem extract_sound (r : Rel w0 F σ s a w) {i : Nat} {x : Operand} (ho : o.op = .extract x i) (hc : (aExtract (evA s.T x) i s.M).c) : Good P w0 F o s a w (aExtract (evA s.T x) i s.M) := by
 have hx := ev_sound r x
 unfold aExtract at hc ⊢
 split at hc
 ·rename_i b rs heq
  rw [heq] at hx
  obtain ⟨z, β, vs, hb, hσ, hv, hall⟩ := hx
  cases i with
  | zero =>
   refine good_c (r := r) (v := .pointer (some ⟨β, 0, none⟩)) ?_ ⟨z, β, hb, hσ, by cases z <;> exact True.intro, by rw [offS_nil]⟩
   unfold execOp
   simp only [ho, hv, Instr.extract, List.getElem?_toArray]
   rfl
  | succ i =>
   obtain ⟨hi, htup⟩ := hc
   obtain ⟨y, hy, hr⟩ := hall.get i (rs.getD i default) (by simp [List.getElem?_eq_getElem hi])
   refine good_c (r := r) (v := y) ?_ hr
   unfold execOp
   simp only [ho, hv, Instr.extract, List.getElem?_toArray, List.getElem?_cons_succ, hy]
   rfl
 ·rename_i ds heq
  rw [heq] at hx
  obtain ⟨vs, hv, hall⟩ := hx
  obtain ⟨hi, htup⟩ := hc
  obtain ⟨y, hy, hr⟩ := hall.get i (ds.getD i default) (by simp [List.getElem?_eq_getElem hi])
  refine good_c (r := r) (v := y) ?_ (VR1.up hr)
  unfold execOp
  simp only [ho, hv, Instr.extract, List.getElem?_toArray, hy]
  rfl
 ·rename_i b rs heq
  rw [heq] at hx
  obtain ⟨e, z, vs, hb, hv, hall⟩ := hx
  cases i with
  | zero =>
   refine good_c (r := r) (v := σ.rv b) ?_ ⟨e, z, hb, rfl⟩
   unfold execOp
   simp only [ho, hv, Instr.extract, List.getElem?_toArray]
   rfl
  | succ i =>
   obtain ⟨hi, htup⟩ := hc
   obtain ⟨y, hy, hr⟩ := hall.get i (rs.getD i default) (by simp [List.getElem?_eq_getElem hi])
   refine good_c (r := r) (v := y) ?_ hr
   unfold execOp
   simp only [ho, hv, Instr.extract, List.getElem?_toArray, List.getElem?_cons_succ, hy]
   rfl
 ·exact hc.elim
theorem index_add (w : World) {e : TypeId} (T : TabOk P tab) (he : (tg tab e).size ≠ 0) : (sizeOf e).run P w = .ok (tg tab e).size w := by
 obtain ⟨i, z, hi, hsz, _⟩ := (T e (tg_lt he)).info
 rw [← hsz]
 simp [sizeOf, typeInfo, program, Sem.run, hi]
theorem at_cells {X : Nat → Prop} {ad : Option Addr} {cs : List Value} (h : At w X ad cs) (hne : 0 < cs.length) :
  ∃ β o, ad = some ⟨β, o, none⟩ ∧ X β ∧ ∀ (j : Nat) (v : Value), cs[j]? = some v → w.cell? ⟨β, o + j, none⟩ = some v := by
 rcases h with rfl | h
 ·simp at hne
 ·exact h
theorem run_indexAt_slice {t e : TypeId} {k : IntKind} {i : Int} {ad : Addr} {len cap sz : Nat} (ht : P.underlying t = some (.slice e)) (hsz : (sizeOf e).run P w = .ok sz w) (h0 : 0 ≤ i) (h1 : i < len) :
  (Instr.indexAt t (.slice (some ad) len cap) (.int k i)).run P w = .ok (.pointer (some (ad.add (i.toNat * sz)))) w := by
 simp [Instr.indexAt, asIntOf, run_underlying ht, h0, h1, hsz]
theorem run_indexAt_arr {t e : TypeId} {k : IntKind} {i : Int} {ad : Addr} {n sz : Nat} (ht : P.underlying t = some (.array n e)) (hsz : (sizeOf e).run P w = .ok sz w) (h0 : 0 ≤ i) (h1 : i < n) :
  (Instr.indexAt t (.pointer (some ad)) (.int k i)).run P w = .ok (.pointer (some (ad.add (i.toNat * sz)))) w := by
 simp [Instr.indexAt, asIntOf, run_underlying ht, h0, h1, hsz, Instr.sureAddr]
theorem ones_take : ∀ (fs : List D) (i : Nat), ones fs → i ≤ fs.length → Sk.sizes ((sks fs).take i) = i
 | _, 0, _, _ => by simp [Sk.sizes]
 | [], i + 1, _, h => by simp at h
 | d :: fs, i + 1, h, hi => by
  have h1 := h d (by simp)
  have ih := ones_take fs i (fun x hx => h x (List.mem_cons_of_mem _ hx)) (by simpa using hi)
  simp only [sks, List.take_succ_cons, Sk.sizes, h1, Sk.size, ih]
  omega
theorem ones_get {fs : List D} (h : ones fs) {i : Nat} (hi : i < fs.length) : sk (fs.getD i default) = .one := by
 rw [List.getD_eq_getElem?_getD, List.getElem?_eq_getElem hi]
 exact h _ (List.getElem_mem hi)
theorem offS_one : ∀ p : List Nat, offS .one p = 0 := fun p => by cases p <;> rfl
theorem indexAddr_sound (T : TabOk P tab) (r : Rel w0 F σ s a w) {t : TypeId} {x y : Operand} (ho : o.op = .indexAddr t x y) (hc : (aIndexAddr tab t (unref (evA s.T x)) (evA s.T y) s.M).c) :
  Good P w0 F o s a w (aIndexAddr tab t (unref (evA s.T x)) (evA s.T y) s.M) := by
 have hx := unref_sound (ev_sound r x)
 have hy := ev_sound r y
 unfold aIndexAddr at hc ⊢
 split at hc
 ·rename_i k i heqy
  rw [heqy] at hy
  have ey := ar_int hy
  have run : ∀ v, (Instr.indexAt t (a.eval x) (.int k i)).run P w = .ok v w → (execOp a.eval o).run P w = .ok (.value v) w := fun v h => by
   unfold execOp
   simp only [ho, ey, Sem.run_bind, h, Result.andThen_ok, Sem.run_pure]
  split at hc
  ·rename_i b p heqx
   rw [heqx] at hx
   obtain ⟨z, β, hb, hσ, hp, hv⟩ := hx
   simp only [hb] at hc ⊢
   split at hc
   ·rename_i n e hbb hty
    obtain rfl := Blk.fix.inj (Option.some.inj hbb)
    split at hc
    ·rename_i k' m l hg
     have ht := (T t (tg_lt' (by rw [hty]; simp))).tarr _ _ hty
     split at hc
     ·obtain ⟨h0, h1, rfl, hs1⟩ := hc
      refine good_c (r := r) (v := .pointer (some ⟨β, offS (sk z) (p ++ [i.toNat]), none⟩)) (run _ ?_) ⟨z, β, hb, hσ, okP_append p z _ hp (by rw [hg]; exact ⟨by omega, rfl⟩), rfl⟩
      rw [hv, run_indexAt_arr ht (index_add w T (by omega)) h0 h1, hs1, addr_add_none, off_append hp _ (.inl (by rw [hg]; simp [sk])), hg]
      simp [sk, offS]
     ·rename_i n2 _
      obtain ⟨h0, h1, hm, hs2, hn2⟩ := hc
      refine good_c (r := r) (v := .pointer (some ⟨β, offS (sk z) p + i.toNat * n2, none⟩)) (run _ ?_) ⟨z, β, k', m, l, hb, hσ, hp, hg, ?_, rfl⟩
      ·rw [hv, run_indexAt_arr ht (index_add w T (by omega)) h0 h1, hs2, addr_add_none]
      ·rw [hm]
       have : (i.toNat + 1) * n2 ≤ n * n2 := Nat.mul_le_mul_right _ (by omega)
       rw [Nat.add_mul, Nat.one_mul] at this
       exact this
    ·rename_i fs hg
     have ht := (T t (tg_lt' (by rw [hty]; simp))).tarr _ _ hty
     obtain ⟨h0, h1, hl, ho1, hs1⟩ := hc
     have hi : i.toNat < fs.length := by omega
     refine good_c (r := r) (v := .pointer (some ⟨β, offS (sk z) (p ++ [i.toNat]), none⟩)) (run _ ?_) ⟨z, β, hb, hσ, okP_append p z _ hp (by rw [hg]; exact ⟨hi, trivial⟩), rfl⟩
     rw [hv, run_indexAt_arr ht (index_add w T (by omega)) h0 h1, hs1, addr_add_none, off_append hp _ (.inl (by rw [hg]; simp [sk])), hg]
     simp only [sk, offS, ones_take fs _ ho1 (Nat.le_of_lt hi), Nat.mul_one]
     have e : (sks fs).getD i.toNat .one = .one := by
      rw [sks_getD fs _ hi, ones_get ho1 hi]
     rw [e, offS_one, Nat.add_zero]
    ·exact hc.elim
   ·exact hc.elim
  ·rename_i b p heqx
   rw [heqx] at hx
   obtain ⟨fs, i0, q, β, hb, hσ, hp, hv⟩ := hx
   simp only [hb] at hc ⊢
   split at hc
   ·rename_i gs _ _ n e hbb hty
    obtain ⟨rfl, rfl, rfl⟩ := Blk.lnk.inj (Option.some.inj hbb)
    split at hc
    ·rename_i k' m l hg
     obtain ⟨h0, h1, rfl, hs1⟩ := hc
     have ht := (T t (tg_lt' (by rw [hty]; simp))).tarr _ _ hty
     refine good_c (r := r) (v := .pointer (some ⟨β, offS (sk (.st fs)) (p ++ [i.toNat]), none⟩)) (run _ ?_) ⟨fs, _, _, β, hb, hσ, okP_append p (.st fs) _ hp (by rw [hg]; exact ⟨by omega, rfl⟩), rfl⟩
     rw [hv, run_indexAt_arr ht (index_add w T (by omega)) h0 h1, hs1, addr_add_none, off_append hp _ (.inl (by rw [hg]; simp [sk])), hg]
     simp [sk, offS]
    ·exact hc.elim
   ·exact hc.elim
  ·rename_i b p off m heqx
   rw [heqx] at hx
   obtain ⟨z, β, k', m', l, hb, hσ, hp, hg, hon, hv⟩ := hx
   split at hc
   ·rename_i n e hty
    obtain ⟨h0, h1, rfl, hs1⟩ := hc
    have ht := (T t (tg_lt' (by rw [hty]; simp))).tarr _ _ hty
    refine good_c (r := r) (v := .pointer (some ⟨β, offS (sk z) (p ++ [off + i.toNat]), none⟩)) (run _ ?_) ⟨z, β, hb, hσ, okP_append p z _ hp (by rw [hg]; exact ⟨by omega, rfl⟩), rfl⟩
    rw [hv, run_indexAt_arr ht (index_add w T (by omega)) h0 h1, hs1, addr_add_none, off_append hp _ (.inl (by rw [hg]; simp [sk])), hg]
    simp [sk, offS, Nat.add_assoc]
   ·exact hc.elim
  ·rename_i b p off len cap heqx
   rw [heqx] at hx
   obtain ⟨z, β, k', n, l, α, hb, hσ, hp, hg, hn, hlc, hv, hα⟩ := hx
   split at hc
   ·rename_i e hty
    obtain ⟨h0, h1, hs1⟩ := hc
    have ht := (T t (tg_lt' (by rw [hty]; simp))).tslice _ hty
    have hα' := hα (by omega)
    refine good_c (r := r) (v := .pointer (some ⟨β, offS (sk z) (p ++ [off + i.toNat]), none⟩)) (run _ ?_) ⟨z, β, hb, hσ, okP_append p z _ hp (by rw [hg]; exact ⟨by omega, rfl⟩), rfl⟩
    rw [hv, run_indexAt_slice ht (index_add w T (by omega)) h0 h1, hs1, hα', addr_add_none, off_append hp _ (.inl (by rw [hg]; simp [sk])), hg]
    simp [sk, offS, Nat.add_assoc]
   ·exact hc.elim
  ·rename_i k' l heqx
   rw [heqx] at hx
   obtain ⟨ad, c, hv, hlc, hat⟩ := hx
   simp only [List.cons.injEq, and_true] at hv
   split at hc
   ·rename_i e hty
    obtain ⟨h0, h1, hs1⟩ := hc
    have ht := (T t (tg_lt' (by rw [hty]; simp))).tslice _ hty
    obtain ⟨β, o', rfl, hX, hcells⟩ := at_cells hat (by rw [List.length_map]; omega)
    have hi : i.toNat < l.length := by omega
    refine good_c (r := r) (v := .pointer (some ⟨β, o' + i.toNat, none⟩)) (run _ ?_) ⟨β, o' + i.toNat, [.int k' (l.getD i.toNat 0)], rfl, hX, ⟨rfl, rfl⟩, fun j u hu => ?_⟩
    ·rw [hv, run_indexAt_slice ht (index_add w T (by omega)) h0 h1, hs1, addr_add_none, Nat.mul_one]
    ·cases j with
     | zero =>
      simp only [List.getElem?_cons_zero, Option.some.injEq] at hu
      rw [Nat.add_zero, ← hu]
      exact hcells _ _ (by simp [List.getElem?_eq_getElem hi])
     | succ j => simp at hu
   ·exact hc.elim
  ·rename_i sz xs heqx
   rw [heqx] at hx
   obtain ⟨ad, c, cs, hv, hlc, hat, her⟩ := hx
   simp only [List.cons.injEq, and_true] at hv
   split at hc
   ·rename_i e hty
    obtain ⟨h0, h1, hs0, rfl, hshp⟩ := hc
    have ht := (T t (tg_lt' (by rw [hty]; simp))).tslice _ hty
    have hi : i.toNat < xs.length := by omega
    have hel := ER.elem xs cs her i.toNat (xs.getD i.toNat default) (by simp [List.getElem?_eq_getElem hi])
    have hlen := ER.len xs cs her
    have hpos : (i.toNat + 1) * (tg tab e).size ≤ xs.length * (tg tab e).size := Nat.mul_le_mul_right _ hi
    rw [Nat.add_mul, Nat.one_mul] at hpos
    obtain ⟨β, o', rfl, hX, hcells⟩ := at_cells hat (by omega)
    rw [hshp]
    refine good_c (r := r) (v := .pointer (some ⟨β, o' + i.toNat * (tg tab e).size, none⟩)) (run _ ?_) ⟨β, o' + i.toNat * (tg tab e).size, _, rfl, hX, hel.1, fun j u hu => ?_⟩
    ·rw [hv, run_indexAt_slice ht (index_add w T hs0) h0 h1, addr_add_none]
    ·rw [List.getElem?_take] at hu
     split at hu
     ·rw [List.getElem?_drop] at hu
      rw [Nat.add_assoc]
      exact hcells _ _ hu
     ·cases hu
   ·exact hc.elim
  ·rename_i b heqx
   rw [heqx] at hx
   obtain ⟨e', x', hb, hv⟩ := hx
   split at hc
   ·rename_i e et k' l hty hbb
    obtain ⟨h0, h1, hs1⟩ := hc
    have ht := (T t (tg_lt' (by rw [hty]; simp))).tslice _ hty
    rw [hb] at hbb
    obtain ⟨cs, sz, n, q1, q2, q3, _⟩ := r.mem b _ hb
    obtain rfl := (Blk.row.inj (Option.some.inj hbb)).2
    obtain ⟨rfl, rfl, rfl⟩ := q3
    rcases q2.2 with ⟨_, hz⟩ | ⟨g, cap, cur, hrv, _⟩
    ·omega
    ·refine good_c (r := r) (v := .pointer (some ⟨g, i.toNat * 1, none⟩)) (run _ ?_) ⟨e', _, hb, g, _, cap, hrv, rfl⟩
     rw [hv, hrv, run_indexAt_slice ht (index_add w T (by omega)) h0 h1, hs1, addr_add_none, Nat.zero_add]
   ·rename_i e et sz' xs hty hbb
    obtain ⟨h0, h1, hs0, hs1⟩ := hc
    have ht := (T t (tg_lt' (by rw [hty]; simp))).tslice _ hty
    rw [hb] at hbb
    obtain ⟨cs, sz, n, q1, q2, q3, _⟩ := r.mem b _ hb
    obtain rfl := (Blk.row.inj (Option.some.inj hbb)).2
    obtain ⟨rfl, _, rfl, _⟩ := q3
    rcases q2.2 with ⟨_, hz⟩ | ⟨g, cap, cur, hrv, _⟩
    ·omega
    ·refine good_c (r := r) (v := .pointer (some ⟨g, i.toNat * sz, none⟩)) (run _ ?_) ⟨e', _, hb, g, _, cap, hrv, rfl⟩
     rw [hv, hrv, run_indexAt_slice ht (index_add w T hs0) h0 h1, hs1, addr_add_none, Nat.zero_add]
   ·exact hc.elim
  ·rename_i b j n heqx
   rw [heqx] at hx
   obtain ⟨e', x', hb, α, c, hv, hlc, hα⟩ := hx
   split at hc
   ·rename_i e et x2 hty hbb
    obtain ⟨h0, h1, hs0, hs1⟩ := hc
    have ht := (T t (tg_lt' (by rw [hty]; simp))).tslice _ hty
    rw [hb] at hbb
    obtain rfl := (Blk.row.inj (Option.some.inj hbb)).2
    obtain ⟨g, nn, cap, hrv, hle, rfl⟩ := hα (by omega)
    refine good_c (r := r) (v := .pointer (some ⟨g, (j + i.toNat) * rsz x', none⟩)) (run _ ?_) ⟨e', _, hb, g, _, cap, hrv, rfl⟩
    rw [hv, run_indexAt_slice ht (index_add w T hs0) h0 h1, hs1, addr_add_none, Nat.add_mul]
   ·exact hc.elim
  ·rename_i k' m l heqx
   rw [heqx] at hx
   obtain ⟨β, o', cs, hv, hX, hcr, hcells⟩ := hx
   split at hc
   ·rename_i n e hty
    have ht := (T t (tg_lt' (by rw [hty]; simp))).tarr _ _ hty
    simp only [CR] at hcr
    obtain ⟨hl, rfl⟩ := hcr
    split at hc
    case h_2 n2 _ =>
     obtain ⟨h0, h1, hm, hs2, hn2⟩ := hc
     have hle : (i.toNat + 1) * n2 ≤ n * n2 := Nat.mul_le_mul_right _ (by omega)
     rw [Nat.add_mul, Nat.one_mul] at hle
     refine good_c (r := r) (v := .pointer (some ⟨β, o' + i.toNat * n2, none⟩)) (run _ ?_) ⟨β, o' + i.toNat * n2, ((l.drop (i.toNat * n2)).take n2).map (Value.int k'), rfl, hX, ?_, fun j u hu => ?_⟩
     ·rw [hv, run_indexAt_arr ht (index_add w T (by omega)) h0 h1, hs2, addr_add_none]
     ·simp only [CR]
      exact ⟨by rw [List.length_take, List.length_drop]; omega, trivial⟩
     ·rw [List.map_take, List.map_drop, List.getElem?_take] at hu
      split at hu
      ·rw [List.getElem?_drop] at hu
       rw [Nat.add_assoc]
       exact hcells _ _ hu
      ·cases hu
    obtain ⟨h0, h1, rfl, hs1⟩ := hc
    have hi : i.toNat < l.length := by omega
    refine good_c (r := r) (v := .pointer (some ⟨β, o' + i.toNat, none⟩)) (run _ ?_) ⟨β, o' + i.toNat, [.int k' (l.getD i.toNat 0)], rfl, hX, ⟨rfl, rfl⟩, fun j u hu => ?_⟩
    ·rw [hv, run_indexAt_arr ht (index_add w T (by omega)) h0 h1, hs1, addr_add_none, Nat.mul_one]
    ·cases j with
     | zero =>
      simp only [List.getElem?_cons_zero, Option.some.injEq] at hu
      rw [Nat.add_zero, ← hu]
      exact hcells _ _ (by simp [List.getElem?_eq_getElem hi])
     | succ j => simp at hu
   ·exact hc.elim
  ·rename_i fs heqx
   rw [heqx] at hx
   obtain ⟨β, o', cs, hv, hX, hcr, hcells⟩ := hx
   split at hc
   ·rename_i n e hty
    have ht := (T t (tg_lt' (by rw [hty]; simp))).tarr _ _ hty
    obtain ⟨h0, h1, hl, ho1, hs1⟩ := hc
    have hi : i.toNat < fs.length := by omega
    simp only [CR] at hcr
    obtain ⟨v1, v2, v3, rfl, hlen, hg, _⟩ := CRs.nth fs cs i.toNat hcr hi
    rw [ones_take fs _ ho1 (Nat.le_of_lt hi)] at hlen
    refine good_c (r := r) (v := .pointer (some ⟨β, o' + i.toNat, none⟩)) (run _ ?_) ⟨β, o' + i.toNat, v2, rfl, hX, hg, fun j u hu => ?_⟩
    ·rw [hv, run_indexAt_arr ht (index_add w T (by omega)) h0 h1, hs1, addr_add_none, Nat.mul_one]
    ·rw [← hlen, Nat.add_assoc]
     refine hcells _ _ ?_
     rw [List.append_assoc, List.getElem?_append_right (by omega), Nat.add_sub_cancel_left]
     have hj : j < v2.length := (List.getElem?_eq_some_iff.1 hu).1
     rw [List.getElem?_append_left hj]
     exact hu
   ·exact hc.elim
  ·exact hc.elim
 ·exact hc.elim
end
end Go.Vg
namespace Go.Vg
open Go Go.RowKit
section
variable {P : Program} {tab : Tab} {w0 : World} {F : Env} {σ : Sg} {s : St} {a : Act} {w : World} {o : Oper}
theorem run_fieldAt (T : TabOk P tab) {t : TypeId} {ts : List (Nat × TypeId)} (hty : (tg tab t).ty = .st ts) {f : Nat} (hf : f < ts.length) {β o' : Nat} {x : D} (hs : sk x = sk (tg tab t).zero) :
  (Instr.fieldAt t (.pointer (some ⟨β, o', none⟩)) f).run P w = .ok (.pointer (some ⟨β, o' + offS (sk x) [f], none⟩)) w := by
 obtain ⟨fa, zs, hu, hz, hzl, hfa, hall⟩ := (T t (tg_lt' (by rw [hty]; simp))).tst ts hty
 obtain ⟨fd, h1, h2, h3, h4, h5, h6⟩ := hall f (ts[f]).1 (ts[f]).2 (by rw [List.getElem?_eq_getElem hf])
 obtain ⟨i, z, hi, hsz, _⟩ := (T _ (tg_lt h5)).info
 have hoff : offS (sk x) [f] = fd.offset := by
  rw [hs, hz, h2, h4]
  simp [sk, offS, offS_nil]
 rw [← h3] at hi hsz h5
 have hne : i.size ≠ 0 := by rw [hsz]; exact h5
 simp [Instr.fieldAt, run_underlying hu, h1, Instr.sureAddr, fieldPlace, sizeOf, typeInfo, hi, hne, addr_add_none, hoff]
theorem fieldAddr_sound (T : TabOk P tab) (r : Rel w0 F σ s a w) {t : TypeId} {x : Operand} {f : Nat} (ho : o.op = .fieldAddr t x f) (hc : (aFieldAddr tab t (unref (evA s.T x)) f s.M).c) :
  Good P w0 F o s a w (aFieldAddr tab t (unref (evA s.T x)) f s.M) := by
 have hx := unref_sound (ev_sound r x)
 have run : ∀ v, (Instr.fieldAt t (a.eval x) f).run P w = .ok v w → (execOp a.eval o).run P w = .ok (.value v) w := fun v h => by
  unfold execOp
  simp only [ho, Sem.run_bind, h, Result.andThen_ok, Sem.run_pure]
 unfold aFieldAddr at hc ⊢
 split at hc
 ·rename_i b p heqx
  rw [heqx] at hx
  obtain ⟨z, β, hb, hσ, hp, hv⟩ := hx
  simp only [hb] at hc ⊢
  split at hc
  ·rename_i y ts hbb hty
   obtain rfl := Blk.fix.inj (Option.some.inj hbb)
   obtain ⟨hs, hf⟩ := hc
   obtain ⟨fs, hg, hfl⟩ := nfields T hty hs
   refine good_c (r := r) (v := .pointer (some ⟨β, offS (sk z) (p ++ [f]), none⟩)) (run _ ?_) ⟨z, β, hb, hσ, okP_append p z _ hp (by rw [hg]; exact ⟨by omega, by simp [okP]⟩), rfl⟩
   rw [hv, run_fieldAt T hty hf hs, off_append hp _ (.inl (by rw [hg]; simp [sk]))]
  ·exact hc.elim
 ·rename_i fs heqx
  rw [heqx] at hx
  obtain ⟨β, o', cs, hv, hX, hcr, hcells⟩ := hx
  split at hc
  ·rename_i ts hty
   obtain ⟨hs, hf⟩ := hc
   obtain ⟨fs', hg, hfl⟩ := nfields T hty hs
   obtain rfl := D.st.inj hg
   obtain ⟨v1, v2, v3, rfl, hl, hg'⟩ := getP_reads [f] (.st fs) cs hcr ⟨by omega, by simp [okP]⟩
   simp only [getP] at hg'
   refine good_c (r := r) (v := .pointer (some ⟨β, o' + offS (sk (.st fs)) [f], none⟩)) (run _ ?_) ⟨β, o' + offS (sk (.st fs)) [f], v2, rfl, hX, hg', fun j u hu => ?_⟩
   ·rw [hv, run_fieldAt T hty hf hs]
   ·rw [← hl, Nat.add_assoc]
    refine hcells _ _ ?_
    have hj : j < v2.length := by
     rcases Nat.lt_or_ge j v2.length with h | h
     ·exact h
     ·rw [List.getElem?_eq_none h] at hu; cases hu
    rw [List.append_assoc, List.getElem?_append_right (by omega), List.getElem?_append_left (by omega)]
    rw [show v1.length + j - v1.length = j from by omega]
    exact hu
  ·exact hc.elim
 ·rename_i b p heqx
  rw [heqx] at hx
  obtain ⟨fs, i0, q, β, hb, hσ, hp, hv⟩ := hx
  simp only [hb] at hc ⊢
  split at hc
  ·rename_i gs _ _ ts hbb hty
   obtain ⟨rfl, rfl, rfl⟩ := Blk.lnk.inj (Option.some.inj hbb)
   obtain ⟨hs, hf⟩ := hc
   obtain ⟨fs', hg, hfl⟩ := nfields T hty hs
   refine good_c (r := r) (v := .pointer (some ⟨β, offS (sk (.st fs)) (p ++ [f]), none⟩)) (run _ ?_) ⟨fs, _, _, β, hb, hσ, okP_append p (.st fs) _ hp (by rw [hg]; exact ⟨by omega, by simp [okP]⟩), rfl⟩
   rw [hv, run_fieldAt T hty hf hs, off_append hp _ (.inl (by rw [hg]; simp [sk]))]
  ·exact hc.elim
 ·exact hc.elim
theorem field_sound (T : TabOk P tab) (r : Rel w0 F σ s a w) {t : TypeId} {x : Operand} {f : Nat} (ho : o.op = .field t x f) (hc : (aField tab t (evA s.T x) f s.M).c) :
  Good P w0 F o s a w (aField tab t (evA s.T x) f s.M) := by
 have hx := ev_sound r x
 unfold aField at hc ⊢
 split at hc
 ·rename_i fs ts heqx hty
  rw [heqx] at hx
  obtain ⟨cs, hv, hcr⟩ := hx
  split at hc
  ·rename_i o' t' hts
   obtain ⟨hs, ha, hsz⟩ := hc
   obtain ⟨fs', hg, hfl⟩ := nfields T hty hs
   obtain rfl := D.st.inj hg
   obtain ⟨fa, zs, hu, hz, hzl, hfa, hall⟩ := (T t (tg_lt' (by rw [hty]; simp))).tst ts hty
   obtain ⟨fd, h1, h2, h3, h4, h5, h6⟩ := hall f _ _ hts
   have hf : f < ts.length := by
    rcases Nat.lt_or_ge f ts.length with h | h
    ·exact h
    ·rw [List.getElem?_eq_none h] at hts; cases hts
   obtain ⟨v1, v2, v3, rfl, hl, hg', _⟩ := CRs.nth fs cs f hcr (by omega)
   obtain ⟨v, hrun, hvr⟩ := run_part (v1 := v1) (v3 := v3) T h5 hsz ha hg'
   have hoff : v1.length = fd.offset := by
    rw [hl, h2, h4]
    rw [hz] at hs
    simp only [sk, Sk.st.injEq] at hs
    rw [hs]
   refine good_c (r := r) (v := v) ?_ (VR1.up hvr)
   rw [hoff] at hrun
   rw [← h3] at hrun
   unfold execOp
   simp only [ho, hv, Instr.field, Sem.run_bind, run_underlying hu, Result.andThen_ok, h1, asAgg, Sem.run_pure, hrun]
  ·exact hc.elim
 ·exact hc.elim
theorem bstr_get (l : List Int) (i : Nat) (hi : i < l.length) : (bstr l)[i]? = some (UInt8.ofNat (l.getD i 0).toNat) := by
 have h1 : i < (bstr l).size := by rw [bstr_size]; exact hi
 rw [getElem?_pos (bstr l) i h1]
 congr 1
 have h2 : ((l.map fun n => UInt8.ofNat n.toNat).toArray)[i]? = some (UInt8.ofNat (l.getD i 0).toNat) := by simp [List.getElem?_eq_getElem hi]
 exact (Array.getElem?_eq_some_iff.1 h2).2
theorem byte_back {x : Int} (h : 0 ≤ x ∧ x < 256) : ((UInt8.ofNat x.toNat).toNat : Int) = x := by
 simp only [UInt8.toNat_ofNat']
 omega
theorem index_sound (T : TabOk P tab) (r : Rel w0 F σ s a w) {t : TypeId} {x y : Operand} (ho : o.op = .index t x y) (hc : (aIndex tab t (evA s.T x) (evA s.T y) s.M).c) :
  Good P w0 F o s a w (aIndex tab t (evA s.T x) (evA s.T y) s.M) := by
 have hx := ev_sound r x
 have hy := ev_sound r y
 unfold aIndex at hc ⊢
 split at hc
 ·rename_i k m l k' i heqx heqy
  rw [heqx] at hx
  rw [heqy] at hy
  have ey := ar_int hy
  obtain ⟨hl, ex⟩ := hx
  split at hc
  ·rename_i n e hty
   have ht := (T t (tg_lt' (by rw [hty]; simp))).tarr _ _ hty
   split at hc
   case h_2 n2 hn2e =>
    obtain ⟨h0, h1, hm, hs2, hn2⟩ := hc
    have hle : (i.toNat + 1) * n2 ≤ n * n2 := Nat.mul_le_mul_right _ (by omega)
    rw [Nat.add_mul, Nat.one_mul] at hle
    have hes : (tg tab e).size ≠ 0 := by omega
    have hA : (tg tab e).ty.agg = true := by
     unfold arrT at hn2e
     split at hn2e
     ·rename_i hh; rw [hh]; rfl
     ·cases hn2e
    have hcr : CR w (Xs σ s.M w) (.arr k n2 ((l.drop (i.toNat * n2)).take n2)) (((l.drop (i.toNat * n2)).take n2).map (Value.int k)) := by
     simp only [CR]
     exact ⟨by rw [List.length_take, List.length_drop]; omega, trivial⟩
    have hsplit : l.map (Value.int k) = (l.take (i.toNat * n2)).map (Value.int k) ++ ((l.drop (i.toNat * n2)).take n2).map (Value.int k) ++ (l.drop (i.toNat * n2 + n2)).map (Value.int k) := by
     have : l = l.take (i.toNat * n2) ++ ((l.drop (i.toNat * n2)).take n2 ++ l.drop (i.toNat * n2 + n2)) := by
      rw [← List.drop_drop, List.take_append_drop, List.take_append_drop]
     conv => lhs; rw [this]
     simp only [List.map_append, List.append_assoc]
    obtain ⟨v, hrun, hvr⟩ := run_part (v1 := (l.take (i.toNat * n2)).map (Value.int k)) (v3 := (l.drop (i.toNat * n2 + n2)).map (Value.int k)) T hes (by simp [sk, Sk.size, hs2]) (by rw [hA]; rfl) hcr
    rw [← hsplit, List.length_map, List.length_take, Nat.min_eq_left (by omega)] at hrun
    refine good_c (r := r) (v := v) ?_ (VR1.up hvr)
    unfold execOp
    simp only [ho, ex, ey, Instr.index, asIntOf, Sem.run_bind, Sem.run_pure, Result.andThen_ok, run_underlying ht, h0, h1, and_self, if_true, index_add w T hes, hs2, hrun]
   obtain ⟨h0, h1, rfl, hte, hs1⟩ := hc
   have he := (T e (tg_lt (by omega))).tint _ hte
   refine good_c (r := r) (v := .int k (l.getD i.toNat 0)) ?_ (vr_of_int w (Xs σ s.M w) _ _)
   have hA : (isAgg e).run P w = .ok false w := by
    unfold isAgg; rw [Sem.run_bind, run_underlying he w]; simp
   have hi : i.toNat < l.length := by omega
   have hp : (part e (l.map (Value.int k)).toArray (i.toNat * 1)).run P w = .ok (.int k (l.getD i.toNat 0)) w := by
    simp only [part, Sem.run_bind, hA, Result.andThen_ok, Bool.false_eq_true, if_false, Nat.mul_one]
    simp [List.getElem?_eq_getElem hi]
   unfold execOp
   simp only [ho, ex, ey, Instr.index, asIntOf, Sem.run_bind, Sem.run_pure, Result.andThen_ok, run_underlying ht, h0, h1, and_self, if_true, index_add w T (show (tg tab e).size ≠ 0 by omega), hs1, hp]
  ·exact hc.elim
 ·rename_i fs k' i heqx heqy
  rw [heqx] at hx
  rw [heqy] at hy
  have ey := ar_int hy
  obtain ⟨cs, ex, hcr⟩ : ∃ cs : List Value, a.eval x = .agg cs.toArray ∧ CR w (Xs σ s.M w) (.st fs) cs := hx
  split at hc
  ·rename_i n e hty
   obtain ⟨⟨h0, h1, hl, ho1, hs1, hagg⟩, hld⟩ := ldC_elim hc
   rw [hld]
   have ht := (T t (tg_lt' (by rw [hty]; simp))).tarr _ _ hty
   have hi : i.toNat < fs.length := by omega
   have hes : (tg tab e).size ≠ 0 := by omega
   simp only [CR] at hcr
   obtain ⟨v1, v2, v3, hcs, hlen, hg, _⟩ := CRs.nth fs cs i.toNat hcr hi
   rw [ones_take fs _ ho1 (Nat.le_of_lt hi)] at hlen
   have hone := ones_get ho1 hi
   have hag : (fs.getD i.toNat default).isAgg = (tg tab e).ty.agg := by
    rw [hagg]
    generalize fs.getD i.toNat default = d at hone
    cases d <;> first | rfl | cases hone
   obtain ⟨v, hrun, hvr⟩ := run_part (v1 := v1) (v3 := v3) T hes (by rw [hone, hs1]; rfl) hag hg
   rw [← hcs, hlen] at hrun
   refine good_c (r := r) (v := v) ?_ (VR1.up hvr)
   unfold execOp
   simp only [ho, ex, ey, Instr.index, asIntOf, Sem.run_bind, Sem.run_pure, Result.andThen_ok, run_underlying ht, h0, h1, and_self, if_true, index_add w T hes, hs1, Nat.mul_one, hrun]
  ·exact hc.elim
 ·rename_i l k' i heqx heqy
  rw [heqx] at hx
  rw [heqy] at hy
  have ey := ar_int hy
  obtain ⟨ex, hb⟩ := ar_str hx
  split at hc
  ·rename_i hty
   obtain ⟨h0, h1⟩ := hc
   have ht := (T t (tg_lt' (by rw [hty]; simp))).tstr hty
   have hi : i.toNat < l.length := by omega
   refine good_c (r := r) (v := .int .u8 (l.getD i.toNat 0)) ?_ (vr_of_int w (Xs σ s.M w) _ _)
   have hbb : 0 ≤ l.getD i.toNat 0 ∧ l.getD i.toNat 0 < 256 := by
    refine hb _ ?_
    rw [List.getD_eq_getElem?_getD, List.getElem?_eq_getElem hi]
    exact List.getElem_mem hi
   unfold execOp
   simp only [ho, ex, ey, Instr.index, asIntOf, Sem.run_bind, Sem.run_pure, Result.andThen_ok, run_underlying ht, h0, if_true, bstr_get l i.toNat hi, byte_back hbb]
  ·exact hc.elim
 ·exact hc.elim
theorem len_sound (T : TabOk P tab) (r : Rel w0 F σ s a w) {c : Call} {t : TypeId} {x : Operand} (ho : o.op = .call c) (hcal : c.callee = .builtin .len) (hargs : c.args.toList = [x]) (hat : c.argTypes.toList = [t])
  (hc : (aLen tab t (evA s.T x) s.M).c) : Good P w0 F o s a w (aLen tab t (evA s.T x) s.M) := by
 have hx := ev_sound r x
 have e1 : c.args = #[x] := by rw [← Array.toList_inj, hargs]
 have e2 : c.argTypes = #[t] := by rw [← Array.toList_inj, hat]
 have run : ∀ n : Nat, (Builtin.len_ #[t] o.type #[a.eval x]).run P w = .ok (goInt n) w → (execOp a.eval o).run P w = .ok (.value (.int .i64 n)) w := fun n h => by
  unfold execOp
  simp only [ho, resolve, hcal, e1, e2, Sem.run_bind, Sem.run_pure, Result.andThen_ok, invoke, builtin, List.map_toArray, List.map_cons, List.map_nil, h]
  rfl
 have done : ∀ n : Nat, (Builtin.len_ #[t] o.type #[a.eval x]).run P w = .ok (goInt n) w → Good P w0 F o s a w (ok (.val (.int .i64 n)) s.M) := fun n h =>
  good_c (r := r) (run n h) (vr_of_int w (Xs σ s.M w) _ _)
 have sl : ∀ {e : TypeId} {ad : Option Addr} {n cap : Nat}, (tg tab t).ty = .slice e → a.eval x = .slice ad n cap → (Builtin.len_ #[t] o.type #[a.eval x]).run P w = .ok (goInt n) w := by
  intro e ad n cap hty hv
  have ht := (T t (tg_lt' (by rw [hty]; simp))).tslice _ hty
  rw [hv]
  simp [Builtin.len_, run_underlying ht]
 unfold aLen at hc ⊢
 split at hc
 ·rename_i k l heqx
  rw [heqx] at hx
  obtain ⟨ad, cp, hv, _⟩ := hx
  simp only [List.cons.injEq, and_true] at hv
  split at hc
  ·rename_i e hty
   exact done _ (sl hty hv)
  ·exact hc.elim
 ·rename_i sz xs heqx
  rw [heqx] at hx
  obtain ⟨ad, cp, cs, hv, _⟩ := hx
  simp only [List.cons.injEq, and_true] at hv
  split at hc
  ·rename_i e hty
   exact done _ (sl hty hv)
  ·exact hc.elim
 ·rename_i l heqx
  rw [heqx] at hx
  obtain ⟨ex, hb⟩ := ar_str hx
  split at hc
  ·rename_i hty
   have ht := (T t (tg_lt' (by rw [hty]; simp))).tstr hty
   refine done _ ?_
   rw [ex]
   simp [Builtin.len_, run_underlying ht, bstr_size]
  ·exact hc.elim
 ·rename_i heqx
  rw [heqx] at hx
  have ex := ar_val hx
  split at hc
  ·rename_i e hty
   exact done 0 (sl hty ex)
  ·exact hc.elim
 ·rename_i b p off len cap heqx
  rw [heqx] at hx
  obtain ⟨z, β, k', n, l, α, hb, hσ, hp, hg, hn, hlc, hv, hα⟩ := hx
  split at hc
  ·rename_i e hty
   exact done _ (sl hty hv)
  ·exact hc.elim
 ·rename_i b heqx
  rw [heqx] at hx
  obtain ⟨e', x', hb, hv⟩ := hx
  obtain ⟨cs, sz, n, h1, h2, h3, _⟩ := r.mem b _ hb
  have hn : ∃ ad cap, σ.rv b = .slice ad n cap := by
   rcases h2.2 with ⟨h, h0⟩ | ⟨g, cap, cur, h, _⟩
   ·exact ⟨none, 0, by rw [h, h0]⟩
   ·exact ⟨_, _, h⟩
  obtain ⟨ad, cap, hn⟩ := hn
  rw [hn] at hv
  split at hc
  ·rename_i e e2 k l hty hbb
   rw [hb] at hbb
   obtain ⟨rfl, rfl⟩ := Blk.row.inj (Option.some.inj hbb)
   obtain ⟨_, rfl, _⟩ := h3
   exact done _ (sl hty hv)
  ·rename_i e e2 k xs hty hbb
   rw [hb] at hbb
   obtain ⟨rfl, rfl⟩ := Blk.row.inj (Option.some.inj hbb)
   obtain ⟨_, _, rfl, _⟩ := h3
   exact done _ (sl hty hv)
  ·exact hc.elim
 ·rename_i b i n heqx
  rw [heqx] at hx
  obtain ⟨e', x', hb, α, c', hv, _⟩ := hx
  split at hc
  ·rename_i e hty
   exact done _ (sl hty hv)
  ·exact hc.elim
 ·exact hc.elim
end
end Go.Vg
namespace Go.Vg
open Go Go.RowKit
section
variable {P : Program} {tab : Tab} {w0 : World} {F : Env} {σ : Sg} {s : St} {a : Act} {w : World} {o : Oper}
theorem bnd_sound (r : Rel w0 F σ s a w) {d i : Int} {x : Option Operand} (h : bnd d (x.map (evA s.T)) = some i) : (x.map a.eval = none ∧ i = d) ∨ ∃ k, x.map a.eval = some (.int k i) := by
 cases x with
 | none => simp [bnd] at h; exact .inl ⟨rfl, h.symm⟩
 | some x =>
  have hx := ev_sound r x
  simp only [Option.map_some] at h ⊢
  unfold bnd at h
  split at h
  ·rename_i heq; cases heq
  ·rename_i k j heq
   rw [Option.some.inj heq] at hx
   obtain rfl := Option.some.inj h
   exact .inr ⟨k, by rw [ar_int hx]⟩
  ·cases h
theorem run_bounds {b : Bool} {len cap : Nat} {lo hi : Option Value} {i j : Int} (hlo : (lo = none ∧ i = 0) ∨ ∃ k, lo = some (.int k i)) (hhi : (hi = none ∧ j = (len : Int)) ∨ ∃ k, hi = some (.int k j))
  (h0 : 0 ≤ i) (h1 : i ≤ j) (h2 : j ≤ (cap : Int)) : (Instr.sliceBounds b len cap lo hi none).run P w = .ok (i.toNat, j.toNat, cap) w := by
 have hj : (0 : Int) ≤ j := Int.le_trans h0 h1
 rcases hlo with ⟨rfl, rfl⟩ | ⟨k, rfl⟩ <;> rcases hhi with ⟨rfl, rfl⟩ | ⟨k', rfl⟩
 ·simp [Instr.sliceBounds]
 ·simp [Instr.sliceBounds, Instr.sliceBound, asIntOf, hj, h2]
 ·have h1' : i ≤ (len : Int) := h1
  simp [Instr.sliceBounds, Instr.sliceBound, asIntOf, h0, h1']
 ·have h3 : i ≤ (j.toNat : Int) := by omega
  simp [Instr.sliceBounds, Instr.sliceBound, asIntOf, hj, h2, h0]
  intro h; omega
theorem chunks_len (k : IntKind) (n : Nat) : ∀ (c : Nat) (l : List Int), (chunks k n c l).length = c
 | 0, _ => rfl
 | c + 1, l => by simp only [chunks, List.length_cons, chunks_len k n c]
theorem chunks_ER {w : World} {X : Nat → Prop} {k : IntKind} {n : Nat} : ∀ (c : Nat) (l : List Int), c * n ≤ l.length → ER w X n (chunks k n c l) ((l.take (c * n)).map (Value.int k))
 | 0, l, _ => by simp [chunks, ER]
 | c + 1, l, h => by
  rw [Nat.add_mul, Nat.one_mul] at h ⊢
  simp only [chunks, ER]
  refine ⟨(l.take n).map (Value.int k), ((l.drop n).take (c * n)).map (Value.int k), ?_, ?_, ?_, chunks_ER c (l.drop n) (by rw [List.length_drop]; omega)⟩
  ·rw [← List.map_append]
   congr 1
   rw [Nat.add_comm, List.take_add]
  ·rw [List.length_map, List.length_take]; omega
  ·simp only [CR]
   exact ⟨by rw [List.length_take]; omega, trivial⟩
theorem row_reads {X X' : Nat → Prop} {e : TypeId} {x : D} {b : Nat} {F : Nat → Nat → Prop} (hm : BR σ w0 F w X b (.row e x)) (h : ∀ β, X β → X' β ∧ w.heap[β]? = w.heap[β]?) (hg : ∀ g, (σ.rv b).ownBlock = some g → g < w.heap.size → X' g) :
  VR w X' x (σ.rv b) ∧ isCell (σ.rv b) = true := by
 obtain ⟨cs, sz, n, h1, h2, h3, _⟩ := hm
 have hat : ∃ ad cap, σ.rv b = .slice ad n cap ∧ n ≤ cap ∧ At w X' ad cs := by
  rcases h2.2 with ⟨h, h0⟩ | ⟨g, cap, cur, h, hg', hh, hnc, hcm, hsz, htk⟩
  ·refine ⟨none, 0, by rw [h, h0], by omega, .inl ?_⟩
   exact List.eq_nil_of_length_eq_zero (by rw [h2.1, h0, Nat.zero_mul])
  ·refine ⟨_, cap, h, hnc, .inr ⟨g, 0, rfl, hg g (by rw [h]; rfl) (block_lt hh), fun j u hu => ?_⟩⟩
   have := h2.cells (g := g) (by rw [h]; rfl) j u hu
   rw [addr_add_none] at this
   exact this
 obtain ⟨ad, cap, hv', hnc, hat⟩ := hat
 rw [hv']
 refine ⟨?_, rfl⟩
 cases x with
 | ints k l => obtain ⟨_, rfl, rfl⟩ := h3; exact ⟨ad, cap, rfl, hnc, hat⟩
 | slc sz' xs => obtain ⟨_, _, rfl, her⟩ := h3; exact ⟨ad, cap, cs, rfl, hnc, hat, ER.mono h _ _ _ her⟩
 | _ => exact h3.elim
theorem slice_sound (T : TabOk P tab) (r : Rel w0 F σ s a w) {t : TypeId} {x : Operand} {lo hi mx : Option Operand} (ho : o.op = .slice t x lo hi mx)
  (hc : (aSlice tab t (evA s.T x) (lo.map (evA s.T)) (hi.map (evA s.T)) (mx.map (evA s.T)) s.M).c) :
  Good P w0 F o s a w (aSlice tab t (evA s.T x) (lo.map (evA s.T)) (hi.map (evA s.T)) (mx.map (evA s.T)) s.M) := by
 have hx := ev_sound r x
 have run : ∀ v, (Instr.sliceAt t (a.eval x) (lo.map a.eval) (hi.map a.eval) (mx.map a.eval)).run P w = .ok v w → (execOp a.eval o).run P w = .ok (.value v) w := fun v h => by
  unfold execOp
  simp only [ho, Sem.run_bind, h, Result.andThen_ok, Sem.run_pure]
 unfold aSlice at hc ⊢
 split at hc
 ·rename_i mv hmx
  obtain ⟨mo, rfl, hmo⟩ : ∃ mo, mx = some mo ∧ evA s.T mo = mv := by
   cases mx with
   | none => cases hmx
   | some mo => exact ⟨mo, rfl, Option.some.inj hmx⟩
  split at hc
  ·rename_i b p off len cap e heqx hty
   rw [heqx] at hx
   obtain ⟨z, β, k', n, l, α, hb, hσ, hp, hg, hn, hlc, hv, hα⟩ := hx
   have ht := (T t (tg_lt' (by rw [hty]; simp))).tslice _ hty
   split at hc
   ·rename_i hvv hhi
    obtain ⟨ho2, rfl, hho⟩ : ∃ ho2, hi = some ho2 ∧ evA s.T ho2 = hvv := by
     cases hi with
     | none => cases hhi
     | some ho2 => exact ⟨ho2, rfl, Option.some.inj hhi⟩
    split at hc
    ·rename_i i j k hbi hbj hbk
     obtain ⟨h0, h1, h2, h3, hs1⟩ := hc
     have hlo := bnd_sound r hbi
     have hj := bnd_sound r (x := some ho2) (by rw [Option.map_some, hho]; exact hbj)
     have hk := bnd_sound r (x := some mo) (by rw [Option.map_some, hmo]; exact hbk)
     obtain ⟨kj, ej⟩ : ∃ kj, a.eval ho2 = .int kj j := by
      rcases hj with ⟨h, _⟩ | ⟨kj, h⟩
      ·cases h
      ·exact ⟨kj, Option.some.inj h⟩
     obtain ⟨kk, ek⟩ : ∃ kk, a.eval mo = .int kk k := by
      rcases hk with ⟨h, _⟩ | ⟨kk, h⟩
      ·cases h
      ·exact ⟨kk, Option.some.inj h⟩
     refine good_c (r := r) (v := .slice (some (if k.toNat = i.toNat then α else α.add (i.toNat * 1))) (j.toNat - i.toNat) (k.toNat - i.toNat)) (run _ ?_)
      ⟨z, β, k', n, l, _, hb, hσ, hp, hg, by omega, by omega, rfl, fun hpos => ?_⟩
     ·rw [hv]
      have hbd : (Instr.sliceBounds true len cap (lo.map a.eval) (some (.int kj j)) (some (.int kk k))).run P w = .ok (i.toNat, j.toNat, k.toNat) w := by
       have q1 : 0 ≤ j := by omega
       have q2 : 0 ≤ k := by omega
       have q3 : j ≤ max k 0 := by omega
       have q4 : i ≤ max j 0 := by omega
       have q5 : ¬ max k 0 < j := by omega
       rcases hlo with ⟨e1, e2⟩ | ⟨k2, e1⟩
       ·rw [e1, e2]
        simp [Instr.sliceBounds, Instr.sliceBound, asIntOf, q1, q2, q3, h3, q5]
       ·rw [e1]
        simp [Instr.sliceBounds, Instr.sliceBound, asIntOf, q1, q2, q3, h3, h0, q4]
      simp only [Option.map_some, ej, ek, Instr.sliceAt, Instr.slice, Sem.run_bind, run_underlying ht, Result.andThen_ok, hbd, index_add w T (show (tg tab e).size ≠ 0 by omega), hs1, Sem.run_pure]
      congr 2
      split <;> simp
     ·rw [if_neg (by omega), hα (by omega), addr_add_none, Nat.mul_one, Nat.add_assoc]
    ·exact hc.elim
   ·exact hc.elim
  ·exact hc.elim
 ·rename_i hmx
  have hmx' : mx.map a.eval = none := by cases mx <;> simp at hmx ⊢
  rw [hmx'] at run
  split at hc
  ·rename_i k l e heqx hty
   rw [heqx] at hx
   obtain ⟨ad, c, hv, hlc, hat⟩ := hx
   simp only [List.cons.injEq, and_true] at hv
   have ht := (T t (tg_lt' (by rw [hty]; simp))).tslice _ hty
   split at hc
   ·rename_i i j hbi hbj
    obtain ⟨h0, h1, h2, hs1⟩ := hc
    have hlo := bnd_sound r hbi
    have hhi := bnd_sound r hbj
    refine good_c (r := r) (v := .slice (if c = i.toNat then ad else ad.map (·.add (i.toNat * 1))) (j.toNat - i.toNat) (c - i.toNat)) (run _ ?_) ?_
    ·rw [hv]
     simp only [Instr.sliceAt, Instr.slice, Sem.run_bind, run_underlying ht, Result.andThen_ok, run_bounds hlo hhi h0 h1 (show j ≤ (c : Int) by omega), index_add w T (show (tg tab e).size ≠ 0 by omega), hs1, Sem.run_pure]
    ·refine ⟨_, _, by simp only [List.length_drop, List.length_take]; congr 3; omega, by simp only [List.length_drop, List.length_take]; omega, ?_⟩
     rw [List.map_drop, List.map_take, List.drop_take]
     by_cases hz : j.toNat - i.toNat = 0
     ·rw [hz, List.take_zero]; exact .inl rfl
     ·obtain ⟨β, o', rfl, hX, hcells⟩ := at_cells hat (by rw [List.length_map]; omega)
      rw [if_neg (by omega)]
      simp only [Option.map_some, addr_add_none, Nat.mul_one]
      exact At.cut hX hcells _ _
   ·exact hc.elim
  ·rename_i sz xs e heqx hty
   rw [heqx] at hx
   obtain ⟨ad, c, cs, hv, hlc, hat, her⟩ := hx
   simp only [List.cons.injEq, and_true] at hv
   have ht := (T t (tg_lt' (by rw [hty]; simp))).tslice _ hty
   split at hc
   ·rename_i i j hbi hbj
    obtain ⟨h0, h1, h2, hs0, rfl⟩ := hc
    have hlo := bnd_sound r hbi
    have hhi := bnd_sound r hbj
    refine good_c (r := r) (v := .slice (if c = i.toNat then ad else ad.map (·.add (i.toNat * (tg tab e).size))) (j.toNat - i.toNat) (c - i.toNat)) (run _ ?_) ?_
    ·rw [hv]
     simp only [Instr.sliceAt, Instr.slice, Sem.run_bind, run_underlying ht, Result.andThen_ok, run_bounds hlo hhi h0 h1 (show j ≤ (c : Int) by omega), index_add w T hs0, Sem.run_pure]
    ·have hcut := (ER.cut i.toNat _ _ (ER.cut j.toNat xs cs her).2).1
     refine ⟨_, _, _, by simp only [List.length_drop, List.length_take]; congr 3; omega, by simp only [List.length_drop, List.length_take]; omega, ?_, hcut⟩
     rw [List.drop_take]
     by_cases hz : j.toNat - i.toNat = 0
     ·left
      rw [← Nat.sub_mul, hz, Nat.zero_mul, List.take_zero]
     ·have hlen := ER.len xs cs her
      have hpos : 0 < xs.length * (tg tab e).size := Nat.mul_pos (by omega) (by omega)
      obtain ⟨β, o', rfl, hX, hcells⟩ := at_cells hat (by omega)
      rw [if_neg (by omega)]
      simp only [Option.map_some, addr_add_none]
      exact At.cut hX hcells _ _
   ·exact hc.elim
  ·rename_i l heqx hty
   rw [heqx] at hx
   obtain ⟨ex, hb⟩ := ar_str hx
   have ht := (T t (tg_lt' (by rw [hty]; simp))).tstr hty
   split at hc
   ·rename_i i j hbi hbj
    obtain ⟨h0, h1, h2⟩ := hc
    have hlo := bnd_sound r hbi
    have hhi := bnd_sound r hbj
    refine good_c (r := r) (v := .string ((bstr l).extract i.toNat j.toNat)) (run _ ?_) ?_
    ·rw [ex]
     simp only [Instr.sliceAt, Instr.slice, Sem.run_bind, run_underlying ht, Result.andThen_ok, bstr_size, run_bounds hlo hhi h0 h1 h2, Sem.run_pure, Option.isSome_none, Bool.false_eq_true, if_false]
    ·refine ⟨?_, fun z hz => hb z (List.mem_of_mem_take (List.mem_of_mem_drop hz))⟩
     congr 2
     apply ByteArray.ext
     rw [ByteArray.data_extract]
     unfold bstr
     apply Array.ext'
     simp [List.drop_take]
   ·exact hc.elim
  ·rename_i b p off len cap e heqx hty
   rw [heqx] at hx
   obtain ⟨z, β, k', n, l, α, hb, hσ, hp, hg, hn, hlc, hv, hα⟩ := hx
   have ht := (T t (tg_lt' (by rw [hty]; simp))).tslice _ hty
   split at hc
   ·rename_i i j hbi hbj
    obtain ⟨h0, h1, h2, hs1⟩ := hc
    have hlo := bnd_sound r hbi
    have hhi := bnd_sound r hbj
    refine good_c (r := r) (v := .slice (some (if cap = i.toNat then α else α.add (i.toNat * 1))) (j.toNat - i.toNat) (cap - i.toNat)) (run _ ?_)
     ⟨z, β, k', n, l, _, hb, hσ, hp, hg, by omega, by omega, rfl, fun hpos => ?_⟩
    ·rw [hv]
     simp only [Instr.sliceAt, Instr.slice, Sem.run_bind, run_underlying ht, Result.andThen_ok, run_bounds hlo hhi h0 h1 h2, index_add w T (show (tg tab e).size ≠ 0 by omega), hs1, Sem.run_pure]
     congr 2
     split <;> simp
    ·rw [if_neg (by omega), hα (by omega), addr_add_none, Nat.mul_one, Nat.add_assoc]
   ·exact hc.elim
  ·rename_i b p n e heqx hty
   rw [heqx] at hx
   obtain ⟨z, β, hb, hσ, hp, hv⟩ := hx
   simp only [hb] at hc ⊢
   have ht := (T t (tg_lt' (by rw [hty]; simp))).tarr _ _ hty
   split at hc
   ·rename_i k' m l hg
    split at hc
    ·rename_i i j hbi hbj
     obtain ⟨h0, h1, h2, rfl, hs1⟩ := hc
     have hlo := bnd_sound r hbi
     have hhi := bnd_sound r hbj
     refine good_c (r := r) (v := .slice (some (if m = i.toNat then ⟨β, offS (sk z) p, none⟩ else (⟨β, offS (sk z) p, none⟩ : Addr).add (i.toNat * 1))) (j.toNat - i.toNat) (m - i.toNat)) (run _ ?_)
      ⟨z, β, k', m, l, _, hb, hσ, hp, hg, by omega, by omega, rfl, fun hpos => ?_⟩
     ·rw [hv]
      simp only [Instr.sliceAt, Instr.sureAddr, Sem.run_bind, run_underlying ht, Result.andThen_ok, Sem.run_pure, run_bounds hlo hhi h0 h1 h2, index_add w T (show (tg tab e).size ≠ 0 by omega), hs1]
     ·rw [if_neg (by omega), addr_add_none, Nat.mul_one]
    ·exact hc.elim
   ·exact hc.elim
  ·rename_i b p off m n e heqx hty
   rw [heqx] at hx
   obtain ⟨z, β, k', m', l, hb, hσ, hp, hg, hon, hv⟩ := hx
   have ht := (T t (tg_lt' (by rw [hty]; simp))).tarr _ _ hty
   split at hc
   ·rename_i i j hbi hbj
    obtain ⟨h0, h1, h2, rfl, hs1⟩ := hc
    have hlo := bnd_sound r hbi
    have hhi := bnd_sound r hbj
    refine good_c (r := r) (v := .slice (some (if m = i.toNat then ⟨β, offS (sk z) p + off, none⟩ else (⟨β, offS (sk z) p + off, none⟩ : Addr).add (i.toNat * 1))) (j.toNat - i.toNat) (m - i.toNat)) (run _ ?_)
     ⟨z, β, k', m', l, _, hb, hσ, hp, hg, by omega, by omega, rfl, fun hpos => ?_⟩
    ·rw [hv]
     simp only [Instr.sliceAt, Instr.sureAddr, Sem.run_bind, run_underlying ht, Result.andThen_ok, Sem.run_pure, run_bounds hlo hhi h0 h1 h2, index_add w T (show (tg tab e).size ≠ 0 by omega), hs1]
    ·rw [if_neg (by omega), addr_add_none, Nat.mul_one, Nat.add_assoc]
   ·exact hc.elim
  ·rename_i k m l n e heqx hty
   rw [heqx] at hx
   obtain ⟨β, o', cs, hv, hX, hcr, hcells⟩ := hx
   have ht := (T t (tg_lt' (by rw [hty]; simp))).tarr _ _ hty
   simp only [CR] at hcr
   obtain ⟨hl, rfl⟩ := hcr
   split at hc
   ·rename_i i j hbi hbj _
    obtain ⟨h0, h1, h2, rfl, hs1⟩ := hc
    have hlo := bnd_sound r hbi
    have hhi := bnd_sound r hbj
    refine good_c (r := r) (v := .slice (some (if m = i.toNat then ⟨β, o', none⟩ else (⟨β, o', none⟩ : Addr).add (i.toNat * 1))) (j.toNat - i.toNat) (m - i.toNat)) (run _ ?_) ?_
    ·rw [hv]
     simp only [Instr.sliceAt, Instr.sureAddr, Sem.run_bind, run_underlying ht, Result.andThen_ok, Sem.run_pure, run_bounds hlo hhi h0 h1 h2, index_add w T (show (tg tab e).size ≠ 0 by omega), hs1]
    ·refine ⟨_, _, by simp only [List.length_drop, List.length_take]; congr 3; omega, by simp only [List.length_drop, List.length_take]; omega, ?_⟩
     rw [List.map_drop, List.map_take, List.drop_take]
     by_cases hz : j.toNat - i.toNat = 0
     ·rw [hz, List.take_zero]; exact .inl rfl
     ·rw [if_neg (by omega), addr_add_none, Nat.mul_one]
      exact At.cut hX hcells _ _
   ·rename_i i j n2 hbi hbj _
    obtain ⟨h0, h1, h2, hm, hs2, hn2⟩ := hc
    have hlo := bnd_sound r hbi
    have hhi := bnd_sound r hbj
    have hle : j.toNat * n2 ≤ n * n2 := Nat.mul_le_mul_right _ (by omega)
    have hsub : i.toNat * n2 + (j.toNat - i.toNat) * n2 = j.toNat * n2 := by rw [← Nat.add_mul]; congr 1; omega
    refine good_c (r := r) (v := .slice (some (if n = i.toNat then ⟨β, o', none⟩ else (⟨β, o', none⟩ : Addr).add (i.toNat * n2))) (j.toNat - i.toNat) (n - i.toNat)) (run _ ?_) ?_
    ·rw [hv]
     simp only [Instr.sliceAt, Instr.sureAddr, Sem.run_bind, run_underlying ht, Result.andThen_ok, Sem.run_pure, run_bounds hlo hhi h0 h1 h2, index_add w T (show (tg tab e).size ≠ 0 by omega), hs2]
    ·refine ⟨_, _, ((l.drop (i.toNat * n2)).take ((j.toNat - i.toNat) * n2)).map (Value.int k), by rw [chunks_len], by rw [chunks_len]; omega, ?_, chunks_ER _ _ (by rw [List.length_drop]; omega)⟩
     rw [List.map_take, List.map_drop]
     by_cases hz : j.toNat - i.toNat = 0
     ·rw [hz, Nat.zero_mul, List.take_zero]; exact .inl rfl
     ·rw [if_neg (by omega), addr_add_none]
      exact At.cut hX hcells _ _
   ·exact hc.elim
  ·rename_i b e heqx hty
   rw [heqx] at hx
   obtain ⟨e', x', hb, hv⟩ := hx
   simp only [hb] at hc ⊢
   have ht := (T t (tg_lt' (by rw [hty]; simp))).tslice _ hty
   split at hc
   ·rename_i i j hbi hbj
    obtain ⟨h0, h1, h2, hs0, hsz⟩ := hc
    have hlo := bnd_sound r hbi
    have hhi := bnd_sound r hbj
    obtain ⟨cs, sz, n, q1, q2, q3, _⟩ := r.mem b _ hb
    have hn : rlen x' = n := by
     cases x' with
     | ints k l => exact q3.2.1.symm
     | slc s2 xs => exact q3.2.2.1.symm
     | _ => exact q3.elim
    rw [hn] at h2 hhi
    rcases q2.2 with ⟨hrv, hz⟩ | ⟨g, cap, cur, hrv, _, _, hnc, _⟩
    ·refine good_c (r := r) (v := .slice (if 0 = i.toNat then none else (none : Option Addr).map (·.add (i.toNat * (tg tab e).size))) (j.toNat - i.toNat) (0 - i.toNat)) (run _ ?_) ⟨e', x', hb, _, _, rfl, by omega, fun h => absurd h (by omega)⟩
     rw [hv, hrv]
     simp only [Instr.sliceAt, Instr.slice, Sem.run_bind, run_underlying ht, Result.andThen_ok]
     rw [run_bounds hlo (by rw [hz] at hhi; exact hhi) h0 h1 (show j ≤ ((0 : Nat) : Int) by omega)]
     simp only [Result.andThen_ok, Sem.run_bind, index_add w T hs0, Sem.run_pure]
    ·refine good_c (r := r) (v := .slice (if cap = i.toNat then some ⟨g, 0, none⟩ else (some (⟨g, 0, none⟩ : Addr)).map (·.add (i.toNat * (tg tab e).size))) (j.toNat - i.toNat) (cap - i.toNat)) (run _ ?_) ⟨e', x', hb, _, _, rfl, by omega, fun h => ⟨g, n, cap, hrv, by omega, ?_⟩⟩
     ·rw [hv, hrv]
      simp only [Instr.sliceAt, Instr.slice, Sem.run_bind, run_underlying ht, Result.andThen_ok]
      rw [run_bounds hlo hhi h0 h1 (show j ≤ (cap : Int) by omega)]
      simp only [Result.andThen_ok, Sem.run_bind, index_add w T hs0, Sem.run_pure]
     ·rw [if_neg (by omega), hsz]
      simp only [Option.map_some, addr_add_none, Nat.zero_add]
   ·exact hc.elim
  ·exact hc.elim
theorem min_sound (r : Rel w0 F σ s a w) {c : Call} (mx : Bool) (ho : o.op = .call c) (hcal : c.callee = .builtin (if mx then .max else .min))
  (hc : (aMin (fun y x => if mx then decide (x < y) else decide (y < x)) (c.args.toList.map (evA s.T)) s.M).c) : Good P w0 F o s a w (aMin (fun y x => if mx then decide (x < y) else decide (y < x)) (c.args.toList.map (evA s.T)) s.M) := by
 unfold aMin at hc ⊢
 split at hc
 ·rename_i k x k' y heq
  obtain rfl : k' = k := hc
  have hl : c.args.toList.length = 2 := by simpa using congrArg List.length heq
  obtain ⟨o1, o2, hargs⟩ : ∃ o1 o2, c.args.toList = [o1, o2] := by
   match hm : c.args.toList, hl with
   | [o1, o2], _ => exact ⟨o1, o2, rfl⟩
  have e1 : c.args = #[o1, o2] := by rw [← Array.toList_inj, hargs]
  rw [hargs] at heq
  simp only [List.map_cons, List.map_nil, List.cons.injEq, and_true] at heq
  have h1 := ev_sound r o1
  have h2 := ev_sound r o2
  rw [heq.1] at h1
  rw [heq.2] at h2
  have ex := ar_int h1
  have ey := ar_int h2
  cases mx
  ·refine good_c (r := r) (v := .int k' (bif decide (y < x) then y else x)) ?_ (vr_of_int w (Xs σ s.M w) _ _)
   unfold execOp
   simp only [ho, resolve, hcal, e1, Sem.run_bind, Sem.run_pure, Result.andThen_ok, invoke, builtin, List.map_toArray, List.map_cons, List.map_nil, ex, ey, Bool.false_eq_true, if_false]
   simp only [Builtin.min_, List.foldlM_cons, List.foldlM_nil, Builtin.min2, Sem.run_bind, Sem.run_pure, Result.andThen_ok]
   congr 3
   by_cases h : y < x <;> simp [h]
  ·refine good_c (r := r) (v := .int k' (bif decide (x < y) then y else x)) ?_ (vr_of_int w (Xs σ s.M w) _ _)
   unfold execOp
   simp only [ho, resolve, hcal, e1, Sem.run_bind, Sem.run_pure, Result.andThen_ok, invoke, builtin, List.map_toArray, List.map_cons, List.map_nil, ex, ey, if_true]
   simp only [Builtin.max_, List.foldlM_cons, List.foldlM_nil, Builtin.max2, Sem.run_bind, Sem.run_pure, Result.andThen_ok]
   congr 3
   by_cases h : x < y <;> simp [h]
 ·exact hc.elim
theorem row_part {X X' : Nat → Prop} {e : TypeId} {x : D} {b i n : Nat} {v : Value} {F : Nat → Nat → Prop} (hm : BR σ w0 F w X b (.row e x)) (h : ∀ β, X β → X' β ∧ w.heap[β]? = w.heap[β]?) (hg : ∀ g, (σ.rv b).ownBlock = some g → g < w.heap.size → X' g)
  (hv : RP (σ.rv b) (rsz x) i (some n) v) : (∀ k l, x = .ints k l → VR w X' (.ints k ((l.drop i).take n)) v) ∧ (∀ sz xs, x = .slc sz xs → VR w X' (.slc sz ((xs.drop i).take n)) v) := by
 obtain ⟨cs, sz, n0, h1, h2, h3, _⟩ := hm
 obtain ⟨α, c, rfl, hlc, hα⟩ := hv
 have hcells : n ≠ 0 → i + n ≤ n0 ∧ ∃ g, α = some ⟨g, i * rsz x, none⟩ ∧ X' g ∧ ∀ (j : Nat) (u : Value), cs[j]? = some u → w.cell? ⟨g, 0 + j, none⟩ = some u := by
  intro hn
  obtain ⟨g, nn, cap, hrv, hle, rfl⟩ := hα hn
  rcases h2.2 with ⟨h, h0⟩ | ⟨g', cap', cur, h, hg', hh, hnc, hcm, hsz, htk⟩
  ·rw [hrv] at h; cases h
  ·rw [hrv] at h
   injection h with e1 e2 e3
   injection e1 with e1
   injection e1 with e1
   subst e1 e2
   refine ⟨hle, g, rfl, hg g (by rw [hrv]; rfl) (block_lt hh), fun j u hu => ?_⟩
   have := h2.cells (g := g) (by rw [hrv]; rfl) j u hu
   rw [addr_add_none] at this
   exact this
 constructor
 ·rintro k l rfl
  obtain ⟨rfl, rfl, rfl⟩ := h3
  by_cases hn : n = 0
  ·subst hn
   exact ⟨α, c, by simp, by simp, .inl (by simp)⟩
  ·obtain ⟨hle, g, rfl, hX, hc⟩ := hcells hn
   refine ⟨_, c, by simp only [List.length_take, List.length_drop]; congr 3; omega, by simp only [List.length_take, List.length_drop]; omega, ?_⟩
   rw [List.map_take, List.map_drop]
   have := At.cut (X := X') hX hc i n
   rw [Nat.zero_add] at this
   show At w X' (some ⟨g, i * 1, none⟩) _
   rw [Nat.mul_one]
   exact this
 ·rintro s2 xs rfl
  obtain ⟨rfl, hs0, rfl, her⟩ := h3
  have hcut := (ER.cut n _ _ (ER.cut i xs cs her).1).2
  by_cases hn : n = 0
  ·subst hn
   exact ⟨α, c, [], by simp, by simp, .inl rfl, by simp [ER]⟩
  ·obtain ⟨hle, g, rfl, hX, hc⟩ := hcells hn
   refine ⟨_, c, _, by simp only [List.length_take, List.length_drop]; congr 3; omega, by simp only [List.length_take, List.length_drop]; omega, ?_, ER.mono h _ _ _ hcut⟩
   have := At.cut (X := X') hX hc (i * sz) (n * sz)
   rw [Nat.zero_add] at this
   exact this
theorem toD_sound (r : Rel w0 F σ s a w) {y : AV} {v : Value} {d : D} (hy : AR σ s.M w (Xs σ s.M w) y v) (h : toD s.M y = some d) :
  VR w (fun β => β < w.heap.size) d v ∧ ((∃ x, y = .d x) → VR w (Xs σ s.M w) d v) := by
 have hX : ∀ β, Xs σ s.M w β → β < w.heap.size ∧ w.heap[β]? = w.heap[β]? := fun β hβ => ⟨hβ.1, rfl⟩
 cases y with
 | d x =>
  obtain rfl := Option.some.inj h
  exact ⟨VR.mono hX _ _ hy, fun _ => hy⟩
 | any => cases h
 | bq p q => cases h
 | rpt b i n =>
  refine ⟨?_, fun ⟨x, hx⟩ => by cases hx⟩
  cases n with
  | none => cases h
  | some n =>
   obtain ⟨e, x, hb, hv⟩ := hy
   simp only [toD, hb] at h
   obtain ⟨g1, g2⟩ := row_part (X' := fun β => β < w.heap.size) (r.mem b _ hb) hX (fun g _ hlt => hlt) hv
   cases x with
   | ints k l =>
    obtain rfl := Option.some.inj h
    exact g1 k l rfl
   | slc sz xs =>
    obtain rfl := Option.some.inj h
    exact g2 sz xs rfl
   | _ => cases h
 | tpl c rs => cases h
 | tpr c rs => cases h
 | sub c p off n => cases h
 | lp b p =>
  refine ⟨?_, fun ⟨x, hx⟩ => by cases hx⟩
  obtain ⟨fs, i, q, β, hb, hσ, hp, hv⟩ := hy
  cases p with
  | cons _ _ => cases h
  | nil =>
   simp only [toD, hb] at h
   cases q with
   | none => cases h
   | some rr =>
    simp only at h
    split at h
    ·rename_i er z hr
     obtain rfl := Option.some.inj h
     obtain ⟨g1, g2, u, g3, g4, β', cs, e, hσ', _, hh, hcr⟩ := r.mem b _ hb
     rw [hσ] at hσ'
     obtain rfl := Option.some.inj hσ'
     obtain ⟨hz, hzc⟩ := row_reads (X' := fun β => β < w.heap.size) (r.mem rr _ hr) hX (fun g _ hlt => hlt)
     rw [g4 rr rfl] at hcr
     simp only [CR] at hcr
     have hcr := CRs.mono hX _ _ hcr
     obtain ⟨v1, v2, v3, rfl, hl, hg, hset⟩ := CRs.nth _ cs i hcr (by simpa using g1)
     rw [getDset_eq fs _ _ g1] at hg
     obtain ⟨rfl, _⟩ := hg
     have hz1 : CR w (fun β => β < w.heap.size) z [σ.rv rr] := by
      obtain ⟨_, _, _, _, _, h3, _⟩ := r.mem rr _ hr
      cases z with
      | ints k l => exact hz
      | slc sz' xs => exact hz
      | _ => exact h3.elim
     have := hset z _ hz1
     rw [List.set_set] at this
     have hcells : ∀ (j : Nat) (u : Value), (v1 ++ [σ.rv rr] ++ v3)[j]? = some u → w.cell? ⟨β, 0 + j, none⟩ = some u := by
      intro j u hu'
      rw [Nat.zero_add, cell_of_row w β j _ e (0, 0) hh]
      simpa using hu'
     have this : CR w (fun β => β < w.heap.size) (.st (fs.set i z)) (v1 ++ [σ.rv rr] ++ v3) := by
      simp only [CR]
      exact this
     exact (⟨β, 0, _, by rw [hv, offS_nil], block_lt hh, this, hcells⟩ : CR w (fun β => β < w.heap.size) (.ref _) [v])
    ·cases h
 | ptr b p =>
  refine ⟨?_, fun ⟨x, hx⟩ => by cases hx⟩
  obtain ⟨z, β, hb, hσ, hp, hv⟩ := hy
  simp only [toD, hb, Option.some.injEq] at h
  subst h
  obtain ⟨β', cs, e, hσ', _, hh, hcr⟩ := r.mem b _ hb
  rw [hσ] at hσ'
  obtain rfl := Option.some.inj hσ'
  obtain ⟨us, hu, hcells⟩ := ptr_cells hh hcr hp
  exact (⟨β, _, us, by rw [hv], block_lt hh, CR.mono hX _ _ hu, hcells⟩ : CR w _ (.ref _) [v])
 | dat x =>
  obtain rfl := Option.some.inj h
  refine ⟨?_, fun ⟨x, hx⟩ => by cases hx⟩
  obtain ⟨β, o', cs, e, h1, h2, h3⟩ := hy
  exact (⟨β, o', cs, by rw [e], h1.1, CR.mono hX _ _ h2, h3⟩ : CR w _ (.ref _) [v])
 | row b =>
  refine ⟨?_, fun ⟨x, hx⟩ => by cases hx⟩
  obtain ⟨e, x, hb, hv⟩ := hy
  simp only [toD, hb, Option.some.injEq] at h
  subst h
  rw [hv]
  exact (row_reads (r.mem b _ hb) hX (fun g _ hlt => hlt)).1
 | own b p off len cap =>
  refine ⟨?_, fun ⟨x, hx⟩ => by cases hx⟩
  obtain ⟨z, β, k, n, l, α, hb, hσ, hp, hg, hn, hlc, hv, hα⟩ := hy
  simp only [toD, hb, hg, Option.some.injEq] at h
  subst h
  obtain ⟨β', cs, e, hσ', _, hh, hcr⟩ := r.mem b _ hb
  rw [hσ] at hσ'
  obtain rfl := Option.some.inj hσ'
  obtain ⟨us, hu, hcells⟩ := ptr_cells hh hcr hp
  rw [hg] at hu
  simp only [CR] at hu
  obtain ⟨hl, rfl⟩ := hu
  refine ⟨some α, cap, ?_, ?_, ?_⟩
  ·rw [hv]; simp only [List.length_take, List.length_drop]; congr 3; omega
  ·simp only [List.length_take, List.length_drop]; omega
  ·by_cases h0 : cap = 0
   ·left
    have : len = 0 := by omega
    simp [this]
   ·rw [hα (by omega), List.map_take, List.map_drop]
    exact At.cut (X := fun β => β < w.heap.size) (block_lt hh) hcells off len
end
end Go.Vg
