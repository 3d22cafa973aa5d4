/- Vg, part E3: arithmetic, comparisons, conversions. -/
import Derived.Test.YtfbfblhlnhnonaaZb2
import Derived.Laws.Cover3
namespace Go.Vg
open Go Go.RowKit

theorem vr_int {w : World} {X : Nat → Prop} {k : IntKind} {n : Int} {v : Value} (h : VR w X (.val (.int k n)) v) : v = .int k n := by
  have h' := h.1
  simp only [List.cons.injEq, and_true] at h'
  exact h'
theorem vr_val {w : World} {X : Nat → Prop} {u v : Value} (h : VR w X (.val u) v) : v = u := by
  have h' := h.1
  simp only [List.cons.injEq, and_true] at h'
  exact h'
theorem vr_str {w : World} {X : Nat → Prop} {l : List Int} {v : Value} (h : VR w X (.str l) v) : v = .string (bstr l) ∧ isBytes l := by
  have h' := h.1
  simp only [List.cons.injEq, and_true] at h'
  exact ⟨h', h.2⟩

theorem ar_int {σ : Sg} {M : Mem} {w : World} {X : Nat → Prop} {k : IntKind} {n : Int} {v : Value} (h : AR σ M w X (.d (.val (.int k n))) v) : v = .int k n := vr_int (w := w) (X := X) h
theorem ar_val {σ : Sg} {M : Mem} {w : World} {X : Nat → Prop} {u v : Value} (h : AR σ M w X (.d (.val u)) v) : v = u := vr_val (w := w) (X := X) h
theorem ar_str {σ : Sg} {M : Mem} {w : World} {X : Nat → Prop} {l : List Int} {v : Value} (h : AR σ M w X (.d (.str l)) v) : v = .string (bstr l) ∧ isBytes l := vr_str (w := w) (X := X) h

theorem bstr_toList (l : List Int) : (bstr l).toList = l.map fun n => UInt8.ofNat n.toNat := by
  unfold bstr; rw [ByteArray.toList_mk]
theorem bstr_size (l : List Int) : (bstr l).size = l.length := by
  unfold bstr; show (List.toArray _).size = _; simp
theorem bstr_append (l m : List Int) : bstr l ++ bstr m = bstr (l ++ m) := by
  apply ByteArray.ext
  unfold bstr
  simp

theorem bytes_inj {l m : List Int} (hl : isBytes l) (hm : isBytes m) (h : l.map (fun n => UInt8.ofNat n.toNat) = m.map fun n => UInt8.ofNat n.toNat) : l = m := by
  induction l generalizing m with
  | nil => cases m with
    | nil => rfl
    | cons x m => simp at h
  | cons x l ih => cases m with
    | nil => simp at h
    | cons y m =>
      simp only [List.map_cons, List.cons.injEq] at h
      have hx := hl x (by simp)
      have hy := hm y (by simp)
      have e := congrArg UInt8.toNat h.1
      simp only [UInt8.toNat_ofNat'] at e
      have exy : x = y := by omega
      rw [exy, ih (fun z hz => hl z (by simp [hz])) (fun z hz => hm z (by simp [hz])) h.2]

theorem bstr_eq {l m : List Int} (hl : isBytes l) (hm : isBytes m) : ((bstr l).toList == (bstr m).toList) = decide (l = m) := by
  rw [bstr_toList, bstr_toList]
  by_cases h : l = m
  · simp [h]
  · rw [decide_eq_false h]
    simp only [beq_eq_false_iff_ne, ne_eq]
    exact fun e => h (bytes_inj hl hm e)

section
variable {P : Program} {tab : Tab} {w0 : World} {F : Env} {σ : Sg} {s : St} {a : Act} {w : World} {o : Oper}

theorem vr_of_int (w : World) (X : Nat → Prop) (k : IntKind) (n : Int) : VR w X (.val (.int k n)) (.int k n) := ⟨rfl, rfl⟩
theorem vr_of_bool (w : World) (X : Nat → Prop) (b : Bool) : VR w X (.val (.bool b)) (.bool b) := ⟨rfl, rfl⟩

/-- A step that computes. -/
theorem good_of {r : Rel w0 F σ s a w} {R : Res} (hR : R = ⟨R.c, R.v, s.M⟩) {v : Value} (hrun : (execOp a.eval o).run P w = .ok (.value v) w) (hv : AR σ s.M w (Xs σ s.M w) R.v v) : Good P w0 F o s a w R := by
  rw [hR]
  intro Q
  have h := good_pure (P := P) (o := o) r hrun hv Q
  exact h

theorem bin_run {op : BinOp} {t t2 : TypeId} {x y : Operand} {v : Value} (ho : o.op = .binOp op t x y t2) (hg : (eqGuard op t x y (a.eval x) (a.eval y)).run P w = .ok () w)
    (hb : (binOp op t (a.eval x) (a.eval y)).run P w = .ok v w) : (execOp a.eval o).run P w = .ok (.value v) w := by
  unfold execOp
  simp only [ho, Sem.run_bind, hg, hb, Result.andThen_ok, Sem.run_pure]

theorem eqGuard_int {op : BinOp} {t : TypeId} {x y : Operand} {k k' : IntKind} {m n : Int} : (eqGuard op t x y (.int k m) (.int k' n)).run P w = .ok () w := by cases op <;> rfl
theorem eqGuard_bool {op : BinOp} {t : TypeId} {x y : Operand} {m n : Bool} : (eqGuard op t x y (.bool m) (.bool n)).run P w = .ok () w := by cases op <;> rfl
theorem eqGuard_str {op : BinOp} {t : TypeId} {x y : Operand} {m n : ByteArray} : (eqGuard op t x y (.string m) (.string n)).run P w = .ok () w := by cases op <;> rfl

theorem binI_sound (r : Rel w0 F σ s a w) {op : BinOp} {t t2 : TypeId} {x y : Operand} {k : IntKind} {m n : Int} (ho : o.op = .binOp op t x y t2) (hx : a.eval x = .int k m) (hy : a.eval y = .int k n)
    (hc : (binI op k m n s.M).c) : Good P w0 F o s a w (binI op k m n s.M) := by
  have hg : (eqGuard op t x y (a.eval x) (a.eval y)).run P w = .ok () w := by rw [hx, hy]; exact eqGuard_int
  have key : ∀ u : Value, binI op k m n s.M = ⟨(binI op k m n s.M).c, .d (.val u), s.M⟩ → isCell u = true → (binOp op t (.int k m) (.int k n)).run P w = .ok u w → Good P w0 F o s a w (binI op k m n s.M) := by
    intro u h1 h2 h3
    refine good_of (v := u) (r := r) (by rw [h1]) (bin_run ho hg (by rw [hx, hy]; exact h3)) ?_
    rw [h1]
    exact ⟨rfl, h2⟩
  have hcc := hc
  cases op
  case quo => exact key _ rfl rfl (by simp [binOp, Op.intDiv, show n ≠ 0 from hc])
  case rem => exact key _ rfl rfl (by simp [binOp, Op.intDiv, show n ≠ 0 from hc])
  case shl => exact hc.elim
  case shr => exact hc.elim
  all_goals (refine key _ rfl rfl ?_; simp only [binOp, Op.intArith, Op.intBits, Op.intCmp, ne_eq, not_true_eq_false, if_false]; rfl)

theorem eqItems_ints {d : Nat} {e : TypeId} {k : IntKind} (he : P.underlying e = some (.int k)) : ∀ (l m pl pm : List Int), l.length = m.length → pl.length = pm.length →
    (Op.eqItems (d + 1) e 1 ((pl ++ l).map (Value.int k)).toArray ((pm ++ m).map (Value.int k)).toArray (List.range' pl.length l.length)).run P w = .ok (decide (l = m)) w
  | [], m, pl, pm, h, _ => by
    have : m = [] := List.eq_nil_of_length_eq_zero (by simpa using h.symm)
    subst this
    simp [Op.eqItems]
  | x :: l, [], pl, pm, h, _ => by simp at h
  | x :: l, y :: m, pl, pm, h, hp => by
    have ih := eqItems_ints he (d := d) l m (pl ++ [x]) (pm ++ [y]) (by simpa using h) (by simp [hp])
    have hpart : ∀ (q r : List Int) (z : Int), (part e ((q ++ z :: r).map (Value.int k)).toArray (q.length * 1)).run P w = .ok (.int k z) w := by
      intro q r z
      unfold part
      have hA : (isAgg e).run P w = .ok false w := by
        unfold isAgg; rw [Sem.run_bind, run_underlying he w]; simp
      simp only [Sem.run_bind, hA, Result.andThen_ok, Bool.false_eq_true, if_false, Nat.mul_one]
      rw [List.getElem?_toArray, List.map_append, List.getElem?_append_right (by simp)]
      simp
    simp only [List.length_cons, List.range'_succ, Op.eqItems, Sem.run_bind, hpart pl l x, Result.andThen_ok]
    rw [hp, hpart pm m y]
    simp only [Result.andThen_ok, run_equalIn_int w d e k k x y he]
    simp only [List.append_assoc, List.singleton_append, List.length_append, List.length_cons, List.length_nil, Nat.zero_add] at ih
    rw [hp] at ih
    by_cases hxy : x = y
    · subst hxy
      simp only [beq_self_eq_true, Bool.not_true, Bool.false_eq_true, if_false, ih, List.cons.injEq, true_and]
    · have : (x == y) = false := by simp [hxy]
      simp [this, hxy]

theorem equal_arr {t e : TypeId} {n : Nat} {k : IntKind} {l m : List Int} {i : TypeInfo} (ht : P.underlying t = some (.array n e)) (he : P.underlying e = some (.int k)) (hi : P.info? e = some i) (hs : i.size = 1) (hl : l.length = n) (hm : m.length = n) :
    (Op.equal t (.agg (l.map (Value.int k)).toArray) (.agg (m.map (Value.int k)).toArray)).run P w = .ok (decide (l = m)) w := by
  have hc : P.cellsOf e = 1 := by simp [Program.cellsOf, hi, hs]
  have h := eqItems_ints (P := P) (w := w) (d := 9998) he l m [] [] (by omega) rfl
  simp only [List.nil_append, List.length_nil] at h
  rw [show Op.equal t (.agg (l.map (Value.int k)).toArray) (.agg (m.map (Value.int k)).toArray) = Op.equalIn (9999 + 1) t (.agg (l.map (Value.int k)).toArray) (.agg (m.map (Value.int k)).toArray) from rfl]
  rw [run_equalIn_array w 9999 _ _ ht hi, hc, List.range_eq_range', ← hl]
  exact h

theorem eqGuard_arr {op : BinOp} {t e : TypeId} {n : Nat} {k : IntKind} {x y : Operand} {u v : Array Value} (ht : P.underlying t = some (.array n e)) (he : P.underlying e = some (.int k)) :
    (eqGuard op t x y (.agg u) (.agg v)).run P w = .ok () w := by
  have h1 : P.eqGuardType P.depth t = false := by
    obtain ⟨d, hd⟩ : ∃ d, P.depth = d + 2 := ⟨P.depth - 2, by simp [Program.depth]⟩
    rw [hd]
    simp [Program.eqGuardType, ht, he]
  cases op <;> first
    | rfl
    | simp [eqGuard, program, Sem.run, h1]

theorem isSl_eval (r : Rel w0 F σ s a w) {x : Operand} (h : isSl (evA s.T x) = true) : ∃ ad n c, a.eval x = .slice ad n c := by
  have hx := ev_sound r x
  revert hx h
  generalize evA s.T x = y
  generalize a.eval x = v
  intro h hx
  unfold isSl at h
  split at h
  · obtain ⟨ad, c, e, _⟩ := (hx : CR w _ _ [v])
    simp only [List.cons.injEq, and_true] at e
    exact ⟨_, _, _, e⟩
  · obtain ⟨ad, c, cs, e, _⟩ := (hx : CR w _ _ [v])
    simp only [List.cons.injEq, and_true] at e
    exact ⟨_, _, _, e⟩
  · obtain ⟨e, _⟩ := (hx : CR w _ _ [v])
    simp only [List.cons.injEq, and_true] at e
    exact ⟨none, 0, 0, e⟩
  · obtain ⟨e, x, hb, hv⟩ := hx
    obtain ⟨cs, sz, n, q1, q2, _⟩ := r.mem _ _ hb
    rcases q2.2 with ⟨h, h0⟩ | ⟨g, cap, cur, h, _⟩
    · exact ⟨_, _, _, hv.trans h⟩
    · exact ⟨_, _, _, hv.trans h⟩
  · obtain ⟨x, β, k, n, l, α, _, _, _, _, _, _, hv, _⟩ := hx
    exact ⟨_, _, _, hv⟩
  · cases h

theorem eqGuard_sl {op : BinOp} {t : TypeId} {x y : Operand} {a b : Option Addr} {n m c d : Nat} : (eqGuard op t x y (.slice a n c) (.slice b m d)).run P w = .ok () w := by cases op <;> rfl

theorem nil_len {σ : Sg} {M : Mem} {X : Nat → Prop} {x : AV} {ad : Option Addr} {n c : Nat} (h : AR σ M w X x (.slice ad n c)) (hn : ad.isNone = true) : nilP x := by
  have : ad = none := Option.isNone_iff_eq_none.1 hn
  subst this
  unfold nilP
  split
  · rename_i k l
    obtain ⟨a', c', e, _, hat⟩ := (h : CR w _ (.ints k l) _)
    simp only [List.cons.injEq, Value.slice.injEq, and_true] at e
    obtain ⟨rfl, rfl, rfl⟩ := e
    rcases hat with h0 | ⟨β, o, e, _⟩
    · simpa using h0
    · cases e
  · rename_i sz xs
    obtain ⟨a', c', cs, e, _, hat, her⟩ := (h : CR w _ (.slc sz xs) _)
    simp only [List.cons.injEq, Value.slice.injEq, and_true] at e
    obtain ⟨rfl, rfl, rfl⟩ := e
    intro hsz
    rcases hat with rfl | ⟨β, o, e, _⟩
    · cases xs with
      | nil => rfl
      | cons y ys =>
        simp only [ER] at her
        obtain ⟨v1, v2, e1, e2, _⟩ := her
        have : v1 = [] := (List.append_eq_nil_iff.1 e1.symm).1
        rw [this] at e2
        exact absurd e2.symm hsz
    · cases e
  · trivial

theorem nilQ_sound (T : TabOk P tab) (r : Rel w0 F σ s a w) {op : BinOp} {t t2 : TypeId} {x y : Operand} (ho : o.op = .binOp op t x y t2) (h : nilQ tab op t (evA s.T x) (evA s.T y) = true) :
    Good P w0 F o s a w ⟨True, .bq (nilT op (evA s.T x)) (nilF op (evA s.T x)), s.M⟩ := by
  have hy := ev_sound r y
  unfold nilQ at h
  split at h
  · rename_i e heqy hty
    rw [heqy] at hy
    have ey : a.eval y = .slice none 0 0 := ar_val hy
    obtain ⟨ad, n, c, ex⟩ := isSl_eval r h
    have ht := (T t (tg_lt' (by rw [hty]; simp))).tslice _ hty
    refine good_pure (v := .bool ad.isNone) r (bin_run ho (by rw [ex, ey]; exact eqGuard_sl) ?_) ⟨_, rfl, fun hb => nil_len (by rw [← ex]; exact ev_sound r x) hb, fun _ => trivial⟩
    rw [ex, ey]
    simp only [binOp, Sem.run_bind, run_equal_slice_nil w t e ad n c ht, Result.andThen_ok]
    rfl
  · rename_i e heqy hty
    rw [heqy] at hy
    have ey : a.eval y = .slice none 0 0 := ar_val hy
    obtain ⟨ad, n, c, ex⟩ := isSl_eval r h
    have ht := (T t (tg_lt' (by rw [hty]; simp))).tslice _ hty
    refine good_pure (v := .bool !ad.isNone) r (bin_run ho (by rw [ex, ey]; exact eqGuard_sl) ?_) ⟨_, rfl, fun _ => trivial, fun hb => nil_len (by rw [← ex]; exact ev_sound r x) (by simpa using hb)⟩
    rw [ex, ey]
    simp only [binOp, Sem.run_bind, run_equal_slice_nil w t e ad n c ht, Result.andThen_ok]
    rfl
  · cases h

theorem aBin_sound (T : TabOk P tab) (r : Rel w0 F σ s a w) {op : BinOp} {t t2 : TypeId} {x y : Operand} (ho : o.op = .binOp op t x y t2) (hc : (aBin tab op t (evA s.T x) (evA s.T y) s.M).c) :
    Good P w0 F o s a w (aBin tab op t (evA s.T x) (evA s.T y) s.M) := by
  have hx := ev_sound r x
  have hy := ev_sound r y
  unfold aBin at hc ⊢
  cases hnq : nilQ tab op t (evA s.T x) (evA s.T y)
  case true =>
    simp only [cond_true]
    exact nilQ_sound T r ho hnq
  rw [hnq] at hc
  simp only [cond_false] at hc ⊢
  split at hc
  · rename_i d1 d2 h1 h2
    rw [h1] at hx
    rw [h2] at hy
    change VR w (Xs σ s.M w) d1 (a.eval x) at hx
    change VR w (Xs σ s.M w) d2 (a.eval y) at hy
    unfold binD at hc ⊢
    simp only [eqB_eq] at hc ⊢
    split at hc
    · rename_i k m k' n
      have ex := vr_int hx
      have ey := vr_int hy
      split at hc
      · refine good_of (r := r) rfl (bin_run (v := .int k (ishl k m n)) ho (by rw [ex, ey]; exact eqGuard_int) ?_) (vr_of_int w (Xs σ s.M w) _ _)
        have hc' : ¬ n < 0 := Int.not_lt.2 hc
        rw [ex, ey]; simp [binOp, Op.shift, hc', ishl]
      · refine good_of (r := r) rfl (bin_run (v := .int k (ishr k m n)) ho (by rw [ex, ey]; exact eqGuard_int) ?_) (vr_of_int w (Xs σ s.M w) _ _)
        have hc' : ¬ n < 0 := Int.not_lt.2 hc
        rw [ex, ey]; simp [binOp, Op.shift, hc', ishr]
      · by_cases hk : k = k'
        · subst hk
          simp only [decide_true, cond_true] at hc ⊢
          exact binI_sound r ho ex ey hc
        · simp only [decide_eq_false hk, cond_false] at hc
          exact hc.elim
    · rename_i l m
      obtain ⟨ex, bx⟩ := vr_str hx
      obtain ⟨ey, byy⟩ := vr_str hy
      have hg : (eqGuard op t x y (a.eval x) (a.eval y)).run P w = .ok () w := by rw [ex, ey]; exact eqGuard_str
      split at hc
      · refine good_of (r := r) rfl (bin_run (v := .string (bstr (l ++ m))) ho hg ?_) ⟨rfl, fun z hz => (List.mem_append.1 hz).elim (bx z) (byy z)⟩
        have hc' : ((l.length + m.length : Nat) : Int) ≤ 9223372036854775807 := hc
        rw [ex, ey]
        simp only [binOp, Op.stringOp, bstr_size, bstr_append]
        rw [if_neg (by
          have e : IntKind.i64.max = 9223372036854775807 := by decide
          rw [e]; exact Int.not_lt.2 hc')]
        rfl
      · refine good_of (r := r) rfl (bin_run (v := .bool _) ho hg ?_) (vr_of_bool w (Xs σ s.M w) _)
        rw [ex, ey]
        simp only [binOp, Op.stringOp, bstr_eq bx byy]
        rfl
      · refine good_of (r := r) rfl (bin_run (v := .bool _) ho hg ?_) (vr_of_bool w (Xs σ s.M w) _)
        rw [ex, ey]
        simp only [binOp, Op.stringOp, bstr_eq bx byy]
        rfl
      · exact hc.elim
    · rename_i m n
      have ex := vr_val hx
      have ey := vr_val hy
      have hg : (eqGuard op t x y (a.eval x) (a.eval y)).run P w = .ok () w := by rw [ex, ey]; exact eqGuard_bool
      split at hc
      · rename_i hty
        have ht := (T t (tg_lt' (by rw [hty]; simp))).tbool hty
        refine good_of (r := r) rfl (bin_run (v := .bool _) ho hg ?_) (vr_of_bool w (Xs σ s.M w) _)
        rw [ex, ey]
        simp only [binOp, Sem.run_bind, run_equal_bool w t _ _ ht, Result.andThen_ok]
        rfl
      · rename_i hty
        have ht := (T t (tg_lt' (by rw [hty]; simp))).tbool hty
        refine good_of (r := r) rfl (bin_run (v := .bool _) ho hg ?_) (vr_of_bool w (Xs σ s.M w) _)
        rw [ex, ey]
        simp only [binOp, Sem.run_bind, run_equal_bool w t _ _ ht, Result.andThen_ok]
        rfl
      · exact hc.elim
    · rename_i k n l k' n' m
      obtain ⟨hl, ex⟩ := hx
      obtain ⟨hm, ey⟩ := hy
      split at hc
      · rename_i n0 e hty
        split at hc
        · rename_i k0 hte
          obtain ⟨rfl, rfl, rfl, rfl, hsmall⟩ := hc
          have ht := (T t (tg_lt' (by rw [hty]; simp))).tarr _ _ hty
          have he := (T e (tg_lt' (by rw [hte]; simp))).tint _ hte
          have RI := (T e (tg_lt' (by rw [hte]; simp)))
          obtain ⟨i, z, hi, hsz, _, hz, hzr⟩ := RI.info
          have h1 : i.size = 1 := by rw [hsz]; exact hsmall
          refine good_of (r := r) rfl (bin_run (v := .bool _) ho (by rw [ex, ey]; exact eqGuard_arr ht he) ?_) (vr_of_bool w (Xs σ s.M w) _)
          rw [ex, ey]
          simp only [binOp, Sem.run_bind, equal_arr (w := w) ht he hi h1 hl hm, Result.andThen_ok]
          rfl
        · exact hc.elim
      · rename_i n0 e hty
        split at hc
        · rename_i k0 hte
          obtain ⟨rfl, rfl, rfl, rfl, hsmall⟩ := hc
          have ht := (T t (tg_lt' (by rw [hty]; simp))).tarr _ _ hty
          have he := (T e (tg_lt' (by rw [hte]; simp))).tint _ hte
          have RI := (T e (tg_lt' (by rw [hte]; simp)))
          obtain ⟨i, z, hi, hsz, _, hz, hzr⟩ := RI.info
          have h1 : i.size = 1 := by rw [hsz]; exact hsmall
          refine good_of (r := r) rfl (bin_run (v := .bool _) ho (by rw [ex, ey]; exact eqGuard_arr ht he) ?_) (vr_of_bool w (Xs σ s.M w) _)
          rw [ex, ey]
          simp only [binOp, Sem.run_bind, equal_arr (w := w) ht he hi h1 hl hm, Result.andThen_ok]
          rfl
        · exact hc.elim
      · exact hc.elim
    · exact hc.elim
  · exact hc.elim

end
end Go.Vg
