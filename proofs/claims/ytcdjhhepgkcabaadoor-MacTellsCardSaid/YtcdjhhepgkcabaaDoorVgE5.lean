/- Vg, part E5: fields, elements of values, slices, len, min, max. -/
import Derived.Test.YtcdjhhepgkcabaaDoorVgE4
namespace Go.Vg
open Go Go.RowKit

section
variable {P : Program} {tab : Tab} {w0 : World} {F : Env} {σ : Sg} {s : St} {a : Act} {w : World} {o : Oper}

theorem run_fieldAt (T : TabOk P tab) {t : TypeId} {ts : List (Nat × TypeId)} (hty : (tg tab t).ty = .st ts) {f : Nat} (hf : f < ts.length) {β o' : Nat} {x : D} (hs : sk x = sk (tg tab t).zero) :
    (Instr.fieldAt t (.pointer (some ⟨β, o', none⟩)) f).run P w = .ok (.pointer (some ⟨β, o' + offS (sk x) [f], none⟩)) w := by
  obtain ⟨fa, zs, hu, hz, hzl, hfa, hall⟩ := (T t (tg_lt' (by rw [hty]; simp))).tst ts hty
  obtain ⟨fd, h1, h2, h3, h4, h5, h6⟩ := hall f (ts[f]).1 (ts[f]).2 (by rw [List.getElem?_eq_getElem hf])
  obtain ⟨i, z, hi, hsz, _⟩ := (T _ (tg_lt h5)).info
  have hoff : offS (sk x) [f] = fd.offset := by
    rw [hs, hz, h2, h4]
    simp [sk, offS, offS_nil]
  rw [← h3] at hi hsz h5
  have hne : i.size ≠ 0 := by rw [hsz]; exact h5
  simp [Instr.fieldAt, run_underlying hu, h1, Instr.sureAddr, fieldPlace, sizeOf, typeInfo, hi, hne, addr_add_none, hoff]

theorem nfields (T : TabOk P tab) {t : TypeId} {ts : List (Nat × TypeId)} (hty : (tg tab t).ty = .st ts) {x : D} (hs : sk x = sk (tg tab t).zero) : ∃ fs, x = .st fs ∧ fs.length = ts.length := by
  obtain ⟨fa, zs, hu, hz, hzl, hfa, hall⟩ := (T t (tg_lt' (by rw [hty]; simp))).tst ts hty
  rw [hz] at hs
  cases x <;> simp [sk] at hs
  rename_i fs
  exact ⟨fs, rfl, by rw [← hzl, ← sks_length fs, hs, sks_length]⟩

theorem fieldAddr_sound (T : TabOk P tab) (r : Rel w0 F σ s a w) {t : TypeId} {x : Operand} {f : Nat} (ho : o.op = .fieldAddr t x f) (hc : (aFieldAddr tab t (unref (evA s.T x)) f s.M).c) :
    Good P w0 F o s a w (aFieldAddr tab t (unref (evA s.T x)) f s.M) := by
  have hx := unref_sound (ev_sound r x)
  have run : ∀ v, (Instr.fieldAt t (a.eval x) f).run P w = .ok v w → (execOp a.eval o).run P w = .ok (.value v) w := fun v h => by
    unfold execOp
    simp only [ho, Sem.run_bind, h, Result.andThen_ok, Sem.run_pure]
  unfold aFieldAddr at hc ⊢
  split at hc
  · rename_i b p heqx
    rw [heqx] at hx
    obtain ⟨z, β, hb, hσ, hp, hv⟩ := hx
    simp only [hb] at hc ⊢
    split at hc
    · rename_i y ts hbb hty
      obtain rfl := Blk.fix.inj (Option.some.inj hbb)
      obtain ⟨hs, hf⟩ := hc
      obtain ⟨fs, hg, hfl⟩ := nfields T hty hs
      refine good_c (r := r) (v := .pointer (some ⟨β, offS (sk z) (p ++ [f]), none⟩)) (run _ ?_) ⟨z, β, hb, hσ, okP_append p z _ hp (by rw [hg]; exact ⟨by omega, by simp [okP]⟩), rfl⟩
      rw [hv, run_fieldAt T hty hf hs, off_append hp _ (.inl (by rw [hg]; simp [sk]))]
    · exact hc.elim
  · rename_i fs heqx
    rw [heqx] at hx
    obtain ⟨β, o', cs, hv, hX, hcr, hcells⟩ := hx
    split at hc
    · rename_i ts hty
      obtain ⟨hs, hf⟩ := hc
      obtain ⟨fs', hg, hfl⟩ := nfields T hty hs
      obtain rfl := D.st.inj hg
      obtain ⟨v1, v2, v3, rfl, hl, hg'⟩ := getP_reads [f] (.st fs) cs hcr ⟨by omega, by simp [okP]⟩
      simp only [getP] at hg'
      refine good_c (r := r) (v := .pointer (some ⟨β, o' + offS (sk (.st fs)) [f], none⟩)) (run _ ?_) ⟨β, o' + offS (sk (.st fs)) [f], v2, rfl, hX, hg', fun j u hu => ?_⟩
      · rw [hv, run_fieldAt T hty hf hs]
      · rw [← hl, Nat.add_assoc]
        refine hcells _ _ ?_
        have hj : j < v2.length := by
          rcases Nat.lt_or_ge j v2.length with h | h
          · exact h
          · rw [List.getElem?_eq_none h] at hu; cases hu
        rw [List.append_assoc, List.getElem?_append_right (by omega), List.getElem?_append_left (by omega)]
        rw [show v1.length + j - v1.length = j from by omega]
        exact hu
    · exact hc.elim
  · exact hc.elim

theorem run_part {t : TypeId} (T : TabOk P tab) {x : D} {v1 v2 v3 : List Value} {X : Nat → Prop} (hs0 : (tg tab t).size ≠ 0) (hs : (sk x).size = (tg tab t).size) (ha : x.isAgg = (tg tab t).ty.agg) (hc : CR w X x v2) :
    ∃ v, (part t (v1 ++ v2 ++ v3).toArray v1.length).run P w = .ok v w ∧ VR1 w X x v := by
  have R := T t (tg_lt hs0)
  obtain ⟨i, z, hi, hsz, _, _, _⟩ := R.info
  obtain ⟨d, hd, hagg⟩ := R.tagg
  have hlen : v2.length = i.size := by rw [← CR.sklen hc, hs, hsz]
  have hrunA : (isAgg t).run P w = .ok (tg tab t).ty.agg w := by
    unfold isAgg
    rw [Sem.run_bind, run_underlying hd w]
    cases d <;> simp_all
  cases hx : x.isAgg with
  | true =>
    have hagg' : (tg tab t).ty.agg = true := by rw [← ha, hx]
    refine ⟨.agg v2.toArray, ?_, VR1.of_agg hc hx⟩
    simp only [part, Sem.run_bind, hrunA, hagg', Result.andThen_ok, if_true, sizeOf, typeInfo, Sem.run, program, Sem.bind, hi]
    simp [← hlen]
  | false =>
    have hagg' : (tg tab t).ty.agg = false := by rw [← ha, hx]
    have h1 : v2.length = 1 := by
      rw [← CR.sklen hc]
      cases x <;> first | rfl | cases hx | (simp only [CR] at hc)
    obtain ⟨u, rfl⟩ : ∃ u, v2 = [u] := by
      cases v2 with
      | nil => cases h1
      | cons u us => cases us with
        | nil => exact ⟨u, rfl⟩
        | cons _ _ => simp at h1
    refine ⟨u, ?_, VR1.of_cell hc hx⟩
    simp only [part, Sem.run_bind, hrunA, hagg', Result.andThen_ok, Bool.false_eq_true, if_false]
    rw [List.getElem?_toArray, List.append_assoc, List.getElem?_append_right (by omega)]
    simp

theorem field_sound (T : TabOk P tab) (r : Rel w0 F σ s a w) {t : TypeId} {x : Operand} {f : Nat} (ho : o.op = .field t x f) (hc : (aField tab t (evA s.T x) f s.M).c) :
    Good P w0 F o s a w (aField tab t (evA s.T x) f s.M) := by
  have hx := ev_sound r x
  unfold aField at hc ⊢
  split at hc
  · rename_i fs ts heqx hty
    rw [heqx] at hx
    obtain ⟨cs, hv, hcr⟩ := hx
    split at hc
    · rename_i o' t' hts
      obtain ⟨hs, ha, hsz⟩ := hc
      obtain ⟨fs', hg, hfl⟩ := nfields T hty hs
      obtain rfl := D.st.inj hg
      obtain ⟨fa, zs, hu, hz, hzl, hfa, hall⟩ := (T t (tg_lt' (by rw [hty]; simp))).tst ts hty
      obtain ⟨fd, h1, h2, h3, h4, h5, h6⟩ := hall f _ _ hts
      have hf : f < ts.length := by
        rcases Nat.lt_or_ge f ts.length with h | h
        · exact h
        · rw [List.getElem?_eq_none h] at hts; cases hts
      obtain ⟨v1, v2, v3, rfl, hl, hg', _⟩ := CRs.nth fs cs f hcr (by omega)
      obtain ⟨v, hrun, hvr⟩ := run_part (v1 := v1) (v3 := v3) T h5 hsz ha hg'
      have hoff : v1.length = fd.offset := by
        rw [hl, h2, h4]
        rw [hz] at hs
        simp only [sk, Sk.st.injEq] at hs
        rw [hs]
      refine good_c (r := r) (v := v) ?_ (VR1.up hvr)
      rw [hoff] at hrun
      rw [← h3] at hrun
      unfold execOp
      simp only [ho, hv, Instr.field, Sem.run_bind, run_underlying hu, Result.andThen_ok, h1, asAgg, Sem.run_pure, hrun]
    · exact hc.elim
  · exact hc.elim

theorem bstr_get (l : List Int) (i : Nat) (hi : i < l.length) : (bstr l)[i]? = some (UInt8.ofNat (l.getD i 0).toNat) := by
  have h1 : i < (bstr l).size := by rw [bstr_size]; exact hi
  rw [getElem?_pos (bstr l) i h1]
  congr 1
  have h2 : ((l.map fun n => UInt8.ofNat n.toNat).toArray)[i]? = some (UInt8.ofNat (l.getD i 0).toNat) := by simp [List.getElem?_eq_getElem hi]
  exact (Array.getElem?_eq_some_iff.1 h2).2

theorem byte_back {x : Int} (h : 0 ≤ x ∧ x < 256) : ((UInt8.ofNat x.toNat).toNat : Int) = x := by
  simp only [UInt8.toNat_ofNat']
  omega

theorem index_sound (T : TabOk P tab) (r : Rel w0 F σ s a w) {t : TypeId} {x y : Operand} (ho : o.op = .index t x y) (hc : (aIndex tab t (evA s.T x) (evA s.T y) s.M).c) :
    Good P w0 F o s a w (aIndex tab t (evA s.T x) (evA s.T y) s.M) := by
  have hx := ev_sound r x
  have hy := ev_sound r y
  unfold aIndex at hc ⊢
  split at hc
  · rename_i k m l k' i heqx heqy
    rw [heqx] at hx
    rw [heqy] at hy
    have ey := ar_int hy
    obtain ⟨hl, ex⟩ := hx
    split at hc
    · rename_i n e hty
      obtain ⟨h0, h1, rfl, hte, hs1⟩ := hc
      have ht := (T t (tg_lt' (by rw [hty]; simp))).tarr _ _ hty
      have he := (T e (tg_lt (by omega))).tint _ hte
      refine good_c (r := r) (v := .int k (l.getD i.toNat 0)) ?_ (vr_of_int w (Xs σ s.M w) _ _)
      have hA : (isAgg e).run P w = .ok false w := by
        unfold isAgg; rw [Sem.run_bind, run_underlying he w]; simp
      have hi : i.toNat < l.length := by omega
      have hp : (part e (l.map (Value.int k)).toArray (i.toNat * 1)).run P w = .ok (.int k (l.getD i.toNat 0)) w := by
        simp only [part, Sem.run_bind, hA, Result.andThen_ok, Bool.false_eq_true, if_false, Nat.mul_one]
        simp [List.getElem?_eq_getElem hi]
      unfold execOp
      simp only [ho, ex, ey, Instr.index, asIntOf, Sem.run_bind, Sem.run_pure, Result.andThen_ok, run_underlying ht, h0, h1, and_self, if_true, index_add w T (show (tg tab e).size ≠ 0 by omega), hs1, hp]
    · exact hc.elim
  · rename_i l k' i heqx heqy
    rw [heqx] at hx
    rw [heqy] at hy
    have ey := ar_int hy
    obtain ⟨ex, hb⟩ := ar_str hx
    split at hc
    · rename_i hty
      obtain ⟨h0, h1⟩ := hc
      have ht := (T t (tg_lt' (by rw [hty]; simp))).tstr hty
      have hi : i.toNat < l.length := by omega
      refine good_c (r := r) (v := .int .u8 (l.getD i.toNat 0)) ?_ (vr_of_int w (Xs σ s.M w) _ _)
      have hbb : 0 ≤ l.getD i.toNat 0 ∧ l.getD i.toNat 0 < 256 := by
        refine hb _ ?_
        rw [List.getD_eq_getElem?_getD, List.getElem?_eq_getElem hi]
        exact List.getElem_mem hi
      unfold execOp
      simp only [ho, ex, ey, Instr.index, asIntOf, Sem.run_bind, Sem.run_pure, Result.andThen_ok, run_underlying ht, h0, if_true, bstr_get l i.toNat hi, byte_back hbb]
    · exact hc.elim
  · exact hc.elim

theorem len_sound (T : TabOk P tab) (r : Rel w0 F σ s a w) {c : Call} {t : TypeId} {x : Operand} (ho : o.op = .call c) (hcal : c.callee = .builtin .len) (hargs : c.args.toList = [x]) (hat : c.argTypes.toList = [t])
    (hc : (aLen tab t (evA s.T x) s.M).c) : Good P w0 F o s a w (aLen tab t (evA s.T x) s.M) := by
  have hx := ev_sound r x
  have e1 : c.args = #[x] := by rw [← Array.toList_inj, hargs]
  have e2 : c.argTypes = #[t] := by rw [← Array.toList_inj, hat]
  have run : ∀ n : Nat, (Builtin.len_ #[t] o.type #[a.eval x]).run P w = .ok (goInt n) w → (execOp a.eval o).run P w = .ok (.value (.int .i64 n)) w := fun n h => by
    unfold execOp
    simp only [ho, resolve, hcal, e1, e2, Sem.run_bind, Sem.run_pure, Result.andThen_ok, invoke, builtin, List.map_toArray, List.map_cons, List.map_nil, h]
    rfl
  have done : ∀ n : Nat, (Builtin.len_ #[t] o.type #[a.eval x]).run P w = .ok (goInt n) w → Good P w0 F o s a w (ok (.val (.int .i64 n)) s.M) := fun n h =>
    good_c (r := r) (run n h) (vr_of_int w (Xs σ s.M w) _ _)
  have sl : ∀ {e : TypeId} {ad : Option Addr} {n cap : Nat}, (tg tab t).ty = .slice e → a.eval x = .slice ad n cap → (Builtin.len_ #[t] o.type #[a.eval x]).run P w = .ok (goInt n) w := by
    intro e ad n cap hty hv
    have ht := (T t (tg_lt' (by rw [hty]; simp))).tslice _ hty
    rw [hv]
    simp [Builtin.len_, run_underlying ht]
  unfold aLen at hc ⊢
  split at hc
  · rename_i k l heqx
    rw [heqx] at hx
    obtain ⟨ad, cp, hv, _⟩ := hx
    simp only [List.cons.injEq, and_true] at hv
    split at hc
    · rename_i e hty
      exact done _ (sl hty hv)
    · exact hc.elim
  · rename_i sz xs heqx
    rw [heqx] at hx
    obtain ⟨ad, cp, cs, hv, _⟩ := hx
    simp only [List.cons.injEq, and_true] at hv
    split at hc
    · rename_i e hty
      exact done _ (sl hty hv)
    · exact hc.elim
  · rename_i l heqx
    rw [heqx] at hx
    obtain ⟨ex, hb⟩ := ar_str hx
    split at hc
    · rename_i hty
      have ht := (T t (tg_lt' (by rw [hty]; simp))).tstr hty
      refine done _ ?_
      rw [ex]
      simp [Builtin.len_, run_underlying ht, bstr_size]
    · exact hc.elim
  · rename_i heqx
    rw [heqx] at hx
    have ex := ar_val hx
    split at hc
    · rename_i e hty
      exact done 0 (sl hty ex)
    · exact hc.elim
  · rename_i b p off len cap heqx
    rw [heqx] at hx
    obtain ⟨z, β, k', n, l, α, hb, hσ, hp, hg, hn, hlc, hv, hα⟩ := hx
    split at hc
    · rename_i e hty
      exact done _ (sl hty hv)
    · exact hc.elim
  · rename_i b heqx
    rw [heqx] at hx
    obtain ⟨e', x', hb, hv⟩ := hx
    obtain ⟨cs, sz, n, h1, h2, h3⟩ := r.mem b _ hb
    have hn : ∃ ad cap, σ.rv b = .slice ad n cap := by
      rcases h2.2 with ⟨h, h0⟩ | ⟨g, cap, cur, h, _⟩
      · exact ⟨none, 0, by rw [h, h0]⟩
      · exact ⟨_, _, h⟩
    obtain ⟨ad, cap, hn⟩ := hn
    rw [hn] at hv
    split at hc
    · rename_i e e2 k l hty hbb
      rw [hb] at hbb
      obtain ⟨rfl, rfl⟩ := Blk.row.inj (Option.some.inj hbb)
      obtain ⟨_, rfl, _⟩ := h3
      exact done _ (sl hty hv)
    · rename_i e e2 k xs hty hbb
      rw [hb] at hbb
      obtain ⟨rfl, rfl⟩ := Blk.row.inj (Option.some.inj hbb)
      obtain ⟨_, _, rfl, _⟩ := h3
      exact done _ (sl hty hv)
    · exact hc.elim
  · exact hc.elim

end
end Go.Vg
