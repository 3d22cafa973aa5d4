/- Vg, part E3: arithmetic, comparisons, conversions. -/
import Derived.Laws.StructEq
import Derived.Test.YtpkcmjfmoemekaaZb2
import Derived.Laws.Cover3
namespace Go.Vg
open Go Go.RowKit
theorem vr_int {w : World} {X : Nat → Prop} {k : IntKind} {n : Int} {v : Value} (h : VR w X (.val (.int k n)) v) : v = .int k n := by
 have h' := h.1
 simp only [List.cons.injEq, and_true] at h'
 exact h'
theorem vr_val {w : World} {X : Nat → Prop} {u v : Value} (h : VR w X (.val u) v) : v = u := by
 have h' := h.1
 simp only [List.cons.injEq, and_true] at h'
 exact h'
theorem vr_str {w : World} {X : Nat → Prop} {l : List Int} {v : Value} (h : VR w X (.str l) v) : v = .string (bstr l) ∧ isBytes l := by
 have h' := h.1
 simp only [List.cons.injEq, and_true] at h'
 exact ⟨h', h.2⟩
theorem ar_int {σ : Sg} {M : Mem} {w : World} {X : Nat → Prop} {k : IntKind} {n : Int} {v : Value} (h : AR σ M w X (.d (.val (.int k n))) v) : v = .int k n := vr_int (w := w) (X := X) h
theorem ar_val {σ : Sg} {M : Mem} {w : World} {X : Nat → Prop} {u v : Value} (h : AR σ M w X (.d (.val u)) v) : v = u := vr_val (w := w) (X := X) h
theorem ar_str {σ : Sg} {M : Mem} {w : World} {X : Nat → Prop} {l : List Int} {v : Value} (h : AR σ M w X (.d (.str l)) v) : v = .string (bstr l) ∧ isBytes l := vr_str (w := w) (X := X) h
theorem bstr_toList (l : List Int) : (bstr l).toList = l.map fun n => UInt8.ofNat n.toNat := by
 unfold bstr; rw [ByteArray.toList_mk]
theorem bstr_size (l : List Int) : (bstr l).size = l.length := by
 unfold bstr; show (List.toArray _).size = _; simp
theorem bstr_append (l m : List Int) : bstr l ++ bstr m = bstr (l ++ m) := by
 apply ByteArray.ext
 unfold bstr
 simp
theorem bytes_inj {l m : List Int} (hl : isBytes l) (hm : isBytes m) (h : l.map (fun n => UInt8.ofNat n.toNat) = m.map fun n => UInt8.ofNat n.toNat) : l = m := by
 induction l generalizing m with
 | nil => cases m with
  | nil => rfl
  | cons x m => simp at h
 | cons x l ih => cases m with
  | nil => simp at h
  | cons y m =>
   simp only [List.map_cons, List.cons.injEq] at h
   have hx := hl x (by simp)
   have hy := hm y (by simp)
   have e := congrArg UInt8.toNat h.1
   simp only [UInt8.toNat_ofNat'] at e
   have exy : x = y := by omega
   rw [exy, ih (fun z hz => hl z (by simp [hz])) (fun z hz => hm z (by simp [hz])) h.2]
theorem bstr_eq {l m : List Int} (hl : isBytes l) (hm : isBytes m) : ((bstr l).toList == (bstr m).toList) = decide (l = m) := by
 rw [bstr_toList, bstr_toList]
 by_cases h : l = m
 ·simp [h]
 ·rw [decide_eq_false h]
  simp only [beq_eq_false_iff_ne, ne_eq]
  exact fun e => h (bytes_inj hl hm e)
section
variable {P : Program} {tab : Tab} {w0 : World} {F : Env} {σ : Sg} {s : St} {a : Act} {w : World} {o : Oper}
theorem vr_of_int (w : World) (X : Nat → Prop) (k : IntKind) (n : Int) : VR w X (.val (.int k n)) (.int k n) := ⟨rfl, rfl⟩
theorem vr_of_bool (w : World) (X : Nat → Prop) (b : Bool) : VR w X (.val (.bool b)) (.bool b) := ⟨rfl, rfl⟩
theorem good_of {r : Rel w0 F σ s a w} {R : Res} (hR : R = ⟨R.c, R.v, s.M⟩) {v : Value} (hrun : (execOp a.eval o).run P w = .ok (.value v) w) (hv : AR σ s.M w (Xs σ s.M w) R.v v) : Good P w0 F o s a w R := by
 rw [hR]
 intro Q
 have h := good_pure (P := P) (o := o) r hrun hv Q
 exact h
theorem bin_run {op : BinOp} {t t2 : TypeId} {x y : Operand} {v : Value} (ho : o.op = .binOp op t x y t2) (hg : (eqGuard op t x y (a.eval x) (a.eval y)).run P w = .ok () w)
  (hb : (binOp op t (a.eval x) (a.eval y)).run P w = .ok v w) : (execOp a.eval o).run P w = .ok (.value v) w := by
 unfold execOp
 simp only [ho, Sem.run_bind, hg, hb, Result.andThen_ok, Sem.run_pure]
theorem eqGuard_int {op : BinOp} {t : TypeId} {x y : Operand} {k k' : IntKind} {m n : Int} : (eqGuard op t x y (.int k m) (.int k' n)).run P w = .ok () w := by cases op <;> rfl
theorem eqGuard_bool {op : BinOp} {t : TypeId} {x y : Operand} {m n : Bool} : (eqGuard op t x y (.bool m) (.bool n)).run P w = .ok () w := by cases op <;> rfl
theorem eqGuard_str {op : BinOp} {t : TypeId} {x y : Operand} {m n : ByteArray} : (eqGuard op t x y (.string m) (.string n)).run P w = .ok () w := by cases op <;> rfl
theorem binI_sound (r : Rel w0 F σ s a w) {op : BinOp} {t t2 : TypeId} {x y : Operand} {k : IntKind} {m n : Int} (ho : o.op = .binOp op t x y t2) (hx : a.eval x = .int k m) (hy : a.eval y = .int k n)
  (hc : (binI op k m n s.M).c) : Good P w0 F o s a w (binI op k m n s.M) := by
 have hg : (eqGuard op t x y (a.eval x) (a.eval y)).run P w = .ok () w := by rw [hx, hy]; exact eqGuard_int
 have key : ∀ u : Value, binI op k m n s.M = ⟨(binI op k m n s.M).c, .d (.val u), s.M⟩ → isCell u = true → (binOp op t (.int k m) (.int k n)).run P w = .ok u w → Good P w0 F o s a w (binI op k m n s.M) := by
  intro u h1 h2 h3
  refine good_of (v := u) (r := r) (by rw [h1]) (bin_run ho hg (by rw [hx, hy]; exact h3)) ?_
  rw [h1]
  exact ⟨rfl, h2⟩
 have hcc := hc
 cases op
 case quo => exact key _ rfl rfl (by simp [binOp, Op.intDiv, show n ≠ 0 from hc])
 case rem => exact key _ rfl rfl (by simp [binOp, Op.intDiv, show n ≠ 0 from hc])
 case shl => exact hc.elim
 case shr => exact hc.elim
 all_goals (refine key _ rfl rfl ?_; simp only [binOp, Op.intArith, Op.intBits, Op.intCmp, ne_eq, not_true_eq_false, if_false]; rfl)
theorem eqItems_ints {d : Nat} {e : TypeId} {k : IntKind} (he : P.underlying e = some (.int k)) : ∀ (l m pl pm : List Int), l.length = m.length → pl.length = pm.length →
  (Op.eqItems (d + 1) e 1 ((pl ++ l).map (Value.int k)).toArray ((pm ++ m).map (Value.int k)).toArray (List.range' pl.length l.length)).run P w = .ok (decide (l = m)) w
 | [], m, pl, pm, h, _ => by
  have : m = [] := List.eq_nil_of_length_eq_zero (by simpa using h.symm)
  subst this
  simp [Op.eqItems]
 | x :: l, [], pl, pm, h, _ => by simp at h
 | x :: l, y :: m, pl, pm, h, hp => by
  have ih := eqItems_ints he (d := d) l m (pl ++ [x]) (pm ++ [y]) (by simpa using h) (by simp [hp])
  have hpart : ∀ (q r : List Int) (z : Int), (part e ((q ++ z :: r).map (Value.int k)).toArray (q.length * 1)).run P w = .ok (.int k z) w := by
   intro q r z
   unfold part
   have hA : (isAgg e).run P w = .ok false w := by
    unfold isAgg; rw [Sem.run_bind, run_underlying he w]; simp
   simp only [Sem.run_bind, hA, Result.andThen_ok, Bool.false_eq_true, if_false, Nat.mul_one]
   rw [List.getElem?_toArray, List.map_append, List.getElem?_append_right (by simp)]
   simp
  simp only [List.length_cons, List.range'_succ, Op.eqItems, Sem.run_bind, hpart pl l x, Result.andThen_ok]
  rw [hp, hpart pm m y]
  simp only [Result.andThen_ok, run_equalIn_int w d e k k x y he]
  simp only [List.append_assoc, List.singleton_append, List.length_append, List.length_cons, List.length_nil, Nat.zero_add] at ih
  rw [hp] at ih
  by_cases hxy : x = y
  ·subst hxy
   simp only [beq_self_eq_true, Bool.not_true, Bool.false_eq_true, if_false, ih, List.cons.injEq, true_and]
  ·have : (x == y) = false := by simp [hxy]
   simp [this, hxy]
theorem equal_arr {t e : TypeId} {n : Nat} {k : IntKind} {l m : List Int} {i : TypeInfo} (ht : P.underlying t = some (.array n e)) (he : P.underlying e = some (.int k)) (hi : P.info? e = some i) (hs : i.size = 1) (hl : l.length = n) (hm : m.length = n) :
  (Op.equal t (.agg (l.map (Value.int k)).toArray) (.agg (m.map (Value.int k)).toArray)).run P w = .ok (decide (l = m)) w := by
 have hc : P.cellsOf e = 1 := by simp [Program.cellsOf, hi, hs]
 have h := eqItems_ints (P := P) (w := w) (d := 9998) he l m [] [] (by omega) rfl
 simp only [List.nil_append, List.length_nil] at h
 rw [show Op.equal t (.agg (l.map (Value.int k)).toArray) (.agg (m.map (Value.int k)).toArray) = Op.equalIn (9999 + 1) t (.agg (l.map (Value.int k)).toArray) (.agg (m.map (Value.int k)).toArray) from rfl]
 rw [run_equalIn_array w 9999 _ _ ht hi, hc, List.range_eq_range', ← hl]
 exact h
theorem eqGuard_arr {op : BinOp} {t e : TypeId} {n : Nat} {k : IntKind} {x y : Operand} {u v : Array Value} (ht : P.underlying t = some (.array n e)) (he : P.underlying e = some (.int k)) :
  (eqGuard op t x y (.agg u) (.agg v)).run P w = .ok () w := by
 have h1 : P.eqGuardType P.depth t = false := by
  obtain ⟨d, hd⟩ : ∃ d, P.depth = d + 2 := ⟨P.depth - 2, by simp [Program.depth]⟩
  rw [hd]
  simp [Program.eqGuardType, ht, he]
 cases op <;> first
  | rfl
  | simp [eqGuard, program, Sem.run, h1]
theorem isSl_eval (r : Rel w0 F σ s a w) {x : Operand} (h : isSl (evA s.T x) = true) : ∃ ad n c, a.eval x = .slice ad n c := by
 have hx := ev_sound r x
 revert hx h
 generalize evA s.T x = y
 generalize a.eval x = v
 intro h hx
 unfold isSl at h
 split at h
 ·obtain ⟨ad, c, e, _⟩ := (hx : CR w _ _ [v])
  simp only [List.cons.injEq, and_true] at e
  exact ⟨_, _, _, e⟩
 ·obtain ⟨ad, c, cs, e, _⟩ := (hx : CR w _ _ [v])
  simp only [List.cons.injEq, and_true] at e
  exact ⟨_, _, _, e⟩
 ·obtain ⟨e, _⟩ := (hx : CR w _ _ [v])
  simp only [List.cons.injEq, and_true] at e
  exact ⟨none, 0, 0, e⟩
 ·obtain ⟨e, x, hb, hv⟩ := hx
  obtain ⟨cs, sz, n, q1, q2, _⟩ := r.mem _ _ hb
  rcases q2.2 with ⟨h, h0⟩ | ⟨g, cap, cur, h, _⟩
  ·exact ⟨_, _, _, hv.trans h⟩
  ·exact ⟨_, _, _, hv.trans h⟩
 ·obtain ⟨x, β, k, n, l, α, _, _, _, _, _, _, hv, _⟩ := hx
  exact ⟨_, _, _, hv⟩
 ·cases h
theorem eqGuard_sl {op : BinOp} {t : TypeId} {x y : Operand} {a b : Option Addr} {n m c d : Nat} : (eqGuard op t x y (.slice a n c) (.slice b m d)).run P w = .ok () w := by cases op <;> rfl
theorem nil_len {σ : Sg} {M : Mem} {X : Nat → Prop} {x : AV} {ad : Option Addr} {n c : Nat} (h : AR σ M w X x (.slice ad n c)) (hn : ad.isNone = true) : nilP x := by
 have : ad = none := Option.isNone_iff_eq_none.1 hn
 subst this
 unfold nilP
 split
 ·rename_i k l
  obtain ⟨a', c', e, _, hat⟩ := (h : CR w _ (.ints k l) _)
  simp only [List.cons.injEq, Value.slice.injEq, and_true] at e
  obtain ⟨rfl, rfl, rfl⟩ := e
  rcases hat with h0 | ⟨β, o, e, _⟩
  ·simpa using h0
  ·cases e
 ·rename_i sz xs
  obtain ⟨a', c', cs, e, _, hat, her⟩ := (h : CR w _ (.slc sz xs) _)
  simp only [List.cons.injEq, Value.slice.injEq, and_true] at e
  obtain ⟨rfl, rfl, rfl⟩ := e
  intro hsz
  rcases hat with rfl | ⟨β, o, e, _⟩
  ·cases xs with
   | nil => rfl
   | cons y ys =>
    simp only [ER] at her
    obtain ⟨v1, v2, e1, e2, _⟩ := her
    have : v1 = [] := (List.append_eq_nil_iff.1 e1.symm).1
    rw [this] at e2
    exact absurd e2.symm hsz
  ·cases e
 ·trivial
theorem nilQ_sound (T : TabOk P tab) (r : Rel w0 F σ s a w) {op : BinOp} {t t2 : TypeId} {x y : Operand} (ho : o.op = .binOp op t x y t2) (h : nilQ tab op t (evA s.T x) (evA s.T y) = true) :
  Good P w0 F o s a w ⟨True, .bq (nilT op (evA s.T x)) (nilF op (evA s.T x)), s.M⟩ := by
 have hy := ev_sound r y
 unfold nilQ at h
 split at h
 ·rename_i e heqy hty
  rw [heqy] at hy
  have ey : a.eval y = .slice none 0 0 := ar_val hy
  obtain ⟨ad, n, c, ex⟩ := isSl_eval r h
  have ht := (T t (tg_lt' (by rw [hty]; simp))).tslice _ hty
  refine good_pure (v := .bool ad.isNone) r (bin_run ho (by rw [ex, ey]; exact eqGuard_sl) ?_) ⟨_, rfl, fun hb => nil_len (by rw [← ex]; exact ev_sound r x) hb, fun _ => trivial⟩
  rw [ex, ey]
  simp only [binOp, Sem.run_bind, run_equal_slice_nil w t e ad n c ht, Result.andThen_ok]
  rfl
 ·rename_i e heqy hty
  rw [heqy] at hy
  have ey : a.eval y = .slice none 0 0 := ar_val hy
  obtain ⟨ad, n, c, ex⟩ := isSl_eval r h
  have ht := (T t (tg_lt' (by rw [hty]; simp))).tslice _ hty
  refine good_pure (v := .bool !ad.isNone) r (bin_run ho (by rw [ex, ey]; exact eqGuard_sl) ?_) ⟨_, rfl, fun _ => trivial, fun hb => nil_len (by rw [← ex]; exact ev_sound r x) (by simpa using hb)⟩
  rw [ex, ey]
  simp only [binOp, Sem.run_bind, run_equal_slice_nil w t e ad n c ht, Result.andThen_ok]
  rfl
 ·cases h
theorem nfields (T : TabOk P tab) {t : TypeId} {ts : List (Nat × TypeId)} (hty : (tg tab t).ty = .st ts) {x : D} (hs : sk x = sk (tg tab t).zero) : ∃ fs, x = .st fs ∧ fs.length = ts.length := by
 obtain ⟨fa, zs, hu, hz, hzl, hfa, hall⟩ := (T t (tg_lt' (by rw [hty]; simp))).tst ts hty
 rw [hz] at hs
 cases x <;> simp [sk] at hs
 rename_i fs
 exact ⟨fs, rfl, by rw [← hzl, ← sks_length fs, hs, sks_length]⟩
theorem run_part {t : TypeId} (T : TabOk P tab) {x : D} {v1 v2 v3 : List Value} {X : Nat → Prop} (hs0 : (tg tab t).size ≠ 0) (hs : (sk x).size = (tg tab t).size) (ha : x.isAgg = (tg tab t).ty.agg) (hc : CR w X x v2) :
  ∃ v, (part t (v1 ++ v2 ++ v3).toArray v1.length).run P w = .ok v w ∧ VR1 w X x v := by
 have R := T t (tg_lt hs0)
 obtain ⟨i, z, hi, hsz, _, _, _⟩ := R.info
 obtain ⟨d, hd, hagg⟩ := R.tagg
 have hlen : v2.length = i.size := by rw [← CR.sklen hc, hs, hsz]
 have hrunA : (isAgg t).run P w = .ok (tg tab t).ty.agg w := by
  unfold isAgg
  rw [Sem.run_bind, run_underlying hd w]
  cases d <;> simp_all
 cases hx : x.isAgg with
 | true =>
  have hagg' : (tg tab t).ty.agg = true := by rw [← ha, hx]
  refine ⟨.agg v2.toArray, ?_, VR1.of_agg hc hx⟩
  simp only [part, Sem.run_bind, hrunA, hagg', Result.andThen_ok, if_true, sizeOf, typeInfo, Sem.run, program, Sem.bind, hi]
  simp [← hlen]
 | false =>
  have hagg' : (tg tab t).ty.agg = false := by rw [← ha, hx]
  have h1 : v2.length = 1 := by
   rw [← CR.sklen hc]
   cases x <;> first | rfl | cases hx | (simp only [CR] at hc)
  obtain ⟨u, rfl⟩ : ∃ u, v2 = [u] := by
   cases v2 with
   | nil => cases h1
   | cons u us => cases us with
    | nil => exact ⟨u, rfl⟩
    | cons _ _ => simp at h1
  refine ⟨u, ?_, VR1.of_cell hc hx⟩
  simp only [part, Sem.run_bind, hrunA, hagg', Result.andThen_ok, Bool.false_eq_true, if_false]
  rw [List.getElem?_toArray, List.append_assoc, List.getElem?_append_right (by omega)]
  simp
theorem eqFields_sound (T : TabOk P tab) {d n : Nat} {X : Nat → Prop} {t : TypeId} {ts0 : List (Nat × TypeId)} (hty : (tg tab t).ty = .st ts0) {fs gs : List D} (hs : sk (.st fs) = sk (tg tab t).zero) (hs' : sk (.st gs) = sk (tg tab t).zero)
  {cs cs' : List Value} (hc : CRs w X fs cs) (hc' : CRs w X gs cs') {fa : Array Field} (hu : P.underlying t = some (.struct fa)) (hn : ∀ f ∈ fa.toList, f.name ≠ "_")
  (ih : ∀ t a b va vb, (eqDT tab n t a b).1 → VR1 w X a va → VR1 w X b vb → (Op.equalIn d t va vb).run P w = .ok (eqDT tab n t a b).2 w) :
  ∀ (m k : Nat), k + m = ts0.length → (eqAll tab (eqDT tab n) (ts0.drop k) (fs.drop k) (gs.drop k)).1 →
   (Op.eqFields d cs.toArray cs'.toArray (fa.toList.drop k)).run P w = .ok (eqAll tab (eqDT tab n) (ts0.drop k) (fs.drop k) (gs.drop k)).2 w := by
 obtain ⟨fs2, e1, hfl⟩ := nfields T hty hs
 obtain rfl := D.st.inj e1
 obtain ⟨gs2, e2, hgl⟩ := nfields T hty hs'
 obtain rfl := D.st.inj e2
 obtain ⟨fa2, zs, hu2, hz, hzl, hfa, hall⟩ := (T t (tg_lt' (by rw [hty]; simp))).tst ts0 hty
 rw [hu] at hu2
 obtain rfl : fa = fa2 := by simpa using hu2
 rw [hz] at hs hs'
 simp only [sk, Sk.st.injEq] at hs hs'
 intro m
 induction m with
 | zero =>
  intro k hk _
  have h1 : ts0.drop k = [] := List.drop_eq_nil_of_le (by omega)
  have h2 : fs.drop k = [] := List.drop_eq_nil_of_le (by omega)
  have h3 : gs.drop k = [] := List.drop_eq_nil_of_le (by omega)
  have h4 : fa.toList.drop k = [] := List.drop_eq_nil_of_le (by simp; omega)
  rw [h1, h2, h3, h4]
  rfl
 | succ m ihm =>
  intro k hk hp
  have hk1 : k < ts0.length := by omega
  have hk2 : k < fs.length := by omega
  have hk3 : k < gs.length := by omega
  have hk4 : k < fa.toList.length := by simp; omega
  obtain ⟨to, tt, ek⟩ : ∃ to tt, ts0[k] = (to, tt) := ⟨_, _, rfl⟩
  obtain ⟨fd, q1, q2, q3, q4, q5, q6⟩ := hall k to tt (by rw [List.getElem?_eq_getElem hk1, ek])
  have hfd : fa.toList[k] = fd := by
   have : fa.toList[k]? = some fd := by simpa using q1
   rw [List.getElem?_eq_getElem hk4] at this
   exact Option.some.inj this
  obtain ⟨v1, v2, v3, ec, hl1, hg1, _⟩ := CRs.nth fs cs k hc hk2
  obtain ⟨u1, u2, u3, ec', hl2, hg2, _⟩ := CRs.nth gs cs' k hc' hk3
  have gf : fs.getD k default = fs[k] := by simp [List.getD_eq_getElem?_getD, hk2]
  have gg : gs.getD k default = gs[k] := by simp [List.getD_eq_getElem?_getD, hk3]
  have zf : (sk fs[k]).size = (tg tab tt).size := by rw [← q6, ← gf, ← sks_getD fs k hk2, hs, sks_getD zs k (by omega)]
  have zg : (sk gs[k]).size = (tg tab tt).size := by rw [← q6, ← gg, ← sks_getD gs k hk3, hs', sks_getD zs k (by omega)]
  rw [gf] at hg1
  rw [gg] at hg2
  rw [List.drop_eq_getElem_cons hk1, List.drop_eq_getElem_cons hk2, List.drop_eq_getElem_cons hk3, ek] at hp ⊢
  rw [List.drop_eq_getElem_cons hk4, hfd]
  have ihm := ihm (k + 1) (by omega)
  simp only [eqAll] at hp ⊢
  obtain ⟨ha, hb, hp1, hp2⟩ := hp
  obtain ⟨va, ra, wa⟩ := run_part (P := P) (w := w) (v1 := v1) (v3 := v3) T q5 zf ha hg1
  obtain ⟨vb, rb, wb⟩ := run_part (P := P) (w := w) (v1 := u1) (v3 := u3) T q5 zg hb hg2
  rw [← ec, hl1, hs, ← q4, ← q2, ← q3] at ra
  rw [← ec', hl2, hs', ← q4, ← q2, ← q3] at rb
  have r3 := ih _ _ _ va vb hp1 wa wb
  rw [← q3] at r3 ⊢
  have hname : fd.name ≠ "_" := hn fd (by rw [← hfd]; exact List.getElem_mem hk4)
  simp only [Op.eqFields, if_pos hname, Sem.run_bind, ra, rb, r3, Result.andThen_ok]
  cases (eqDT tab n fd.type fs[k] gs[k]).2 with
  | true => simpa using ihm hp2
  | false => simp
theorem eqDT_sound (T : TabOk P tab) {X : Nat → Prop} : ∀ (n d : Nat) (t : TypeId) (a b : D) (va vb : Value), (eqDT tab n t a b).1 → VR1 w X a va → VR1 w X b vb →
  (Op.equalIn (n + (d + 2)) t va vb).run P w = .ok (eqDT tab n t a b).2 w
 | 0, _, _, _, _, _, _, h, _, _ => h.elim
 | n + 1, d, t, a, b, va, vb, h, h1, h2 => by
  rw [show n + 1 + (d + 2) = (n + (d + 2)) + 1 by omega]
  unfold eqDT at h ⊢
  split at h
  ·rename_i k k1 x k2 y hty
   have ht := (T t (tg_lt' (by rw [hty]; simp))).tint _ hty
   obtain ⟨rfl, rfl⟩ := h
   rw [vr_int (VR1.up h1), vr_int (VR1.up h2), run_equalIn_int w _ t k2 k2 x y ht]
  ·rename_i x y hty
   have ht := (T t (tg_lt' (by rw [hty]; simp))).tbool hty
   rw [vr_val (VR1.up h1), vr_val (VR1.up h2), run_equalIn_bool' w _ t x y ht]
  ·rename_i n0 e k1 n1 l k2 n2 m hty
   split at h
   ·rename_i k0 hte
    obtain ⟨rfl, rfl, rfl, rfl, hsmall⟩ := h
    have ht := (T t (tg_lt' (by rw [hty]; simp))).tarr _ _ hty
    have he := (T e (tg_lt' (by rw [hte]; simp))).tint _ hte
    obtain ⟨i, z, hi, hsz, _, hz, hzr⟩ := (T e (tg_lt' (by rw [hte]; simp))).info
    obtain ⟨hl, ex⟩ := h1
    obtain ⟨hm, ey⟩ := h2
    rw [ex, ey]
    have hc : P.cellsOf e = 1 := by simp [Program.cellsOf, hi, hsz, hsmall]
    have h := eqItems_ints (P := P) (w := w) (d := n + (d + 1)) he l m [] [] (by omega) rfl
    simp only [List.nil_append, List.length_nil] at h
    rw [run_equalIn_array w _ _ _ ht hi, hc, List.range_eq_range', ← hl, eqB_eq]
    exact h
   ·exact h.elim
  ·rename_i ts fs gs hty
   obtain ⟨he, hs, hs', hp⟩ := h
   obtain ⟨cs, rfl, hc⟩ := h1
   obtain ⟨cs', rfl, hc'⟩ := h2
   have R := T t (tg_lt' (by rw [hty]; simp))
   obtain ⟨g1, g2, g3⟩ := R.teq he
   obtain ⟨fa, zs, hu, _⟩ := R.tst ts hty
   have hfo : P.fieldsOf t = fa := by simp [Program.fieldsOf, hu]
   rw [run_equalIn_struct w _ t _ _ (by rw [hfo]; exact hu) g1, hfo]
   exact eqFields_sound T hty hs hs' hc hc' hu (g3 fa hu) (fun t a b va vb => eqDT_sound T n d t a b va vb) ts.length 0 (Nat.zero_add _) hp
  ·exact h.elim
theorem run_eq_ptr {t e : TypeId} (ht : P.underlying t = some (.pointer e)) (p : Option Addr) : (Op.equal t (.pointer p) (.pointer none)).run P w = .ok p.isNone w := by
 have h : ∀ d, (Op.equalIn (d + 1) t (.pointer p) (.pointer none)).run P w = .ok p.isNone w := by
  intro d
  cases p <;> simp only [Op.equalIn, Sem.run_bind, run_underlying ht, Result.andThen_ok, Sem.run_pure, Option.isNone]
 exact h 9999
theorem eqDT_st {n : Nat} {t : TypeId} {fs gs : List D} (h : (eqDT tab (n + 1) t (.st fs) (.st gs)).1) : (tg tab t).eq = true ∧ (tg tab t).ty ≠ .other := by
 unfold eqDT at h
 cases hty : (tg tab t).ty <;> rw [hty] at h <;> first | exact h.elim | skip
 exact ⟨h.1, by simp⟩
theorem nilPtr_sound (r : Rel w0 F σ s a w) {x : Operand} {b : Bool} (hb : nilPtr (evA s.T x) = some b) : ∃ p, a.eval x = .pointer p ∧ b = p.isNone := by
 have hx := ev_sound r x
 revert hx hb
 generalize evA s.T x = u
 generalize a.eval x = v
 intro hb hx
 unfold nilPtr at hb
 split at hb
 ·obtain rfl := Option.some.inj hb
  obtain ⟨_, _, _, _, _, h⟩ := hx
  exact ⟨_, h, rfl⟩
 ·obtain rfl := Option.some.inj hb
  obtain ⟨_, _, _, h, _⟩ := hx
  exact ⟨_, h, rfl⟩
 ·obtain rfl := Option.some.inj hb
  obtain ⟨_, _, _, _, _, _, _, h⟩ := hx
  exact ⟨_, h, rfl⟩
 ·obtain rfl := Option.some.inj hb
  obtain ⟨_, _, _, h, _⟩ := (hx : CR w _ (.ref _) [v])
  simp only [List.cons.injEq, and_true] at h
  exact ⟨_, h, rfl⟩
 ·obtain rfl := Option.some.inj hb
  obtain ⟨_, _, _, _, _, _, _, h⟩ := hx
  exact ⟨_, h, rfl⟩
 ·obtain rfl := Option.some.inj hb
  obtain ⟨_, _, _, _, _, _, _, _, _, _, h⟩ := hx
  exact ⟨_, h, rfl⟩
 ·obtain rfl := Option.some.inj hb
  exact ⟨none, ar_val hx, rfl⟩
 ·cases hb
theorem nil_sound (r : Rel w0 F σ s a w) {x : Operand} (ho : o.op = .nilCheck x) (hc : (aNil (evA s.T x) s.M).c) : Good P w0 F o s a w (aNil (evA s.T x) s.M) := by
 unfold aNil at hc ⊢
 split at hc
 ·rename_i hb
  obtain ⟨p, ex, hp⟩ := nilPtr_sound r hb
  cases p with
  | none => cases hp
  | some p =>
   refine good_pure (v := a.eval x) r ?_ (ev_sound r x)
   unfold execOp
   simp only [ho, ex, Sem.run_pure]
 ·exact hc.elim
theorem ptrQ_sound (T : TabOk P tab) (r : Rel w0 F σ s a w) {op : BinOp} {t t2 : TypeId} {x y : Operand} (ho : o.op = .binOp op t x y t2) {b : Bool} (h : ptrQ tab op t (evA s.T x) (evA s.T y) = some b) :
  Good P w0 F o s a w (ok (.val (.bool b)) s.M) := by
 have hy := ev_sound r y
 have hx := ev_sound r x
 have np : ∀ b, nilPtr (evA s.T x) = some b → ∃ p, a.eval x = .pointer p ∧ b = p.isNone := fun b hb => nilPtr_sound r hb
 unfold ptrQ at h
 split at h
 ·rename_i e heqy hty
  rw [heqy] at hy
  have ey : a.eval y = .pointer none := ar_val hy
  obtain ⟨p, ex, rfl⟩ := np b h
  have ht := (T t (tg_lt' (by rw [hty]; simp))).tptr _ hty
  refine good_of (r := r) rfl (bin_run (v := .bool p.isNone) ho (by rw [ex, ey]; cases p <;> rfl) ?_) (vr_of_bool w (Xs σ s.M w) _)
  rw [ex, ey]
  simp only [binOp, Sem.run_bind, run_eq_ptr (w := w) ht, Result.andThen_ok]
  rfl
 ·rename_i e heqy hty
  rw [heqy] at hy
  have ey : a.eval y = .pointer none := ar_val hy
  obtain ⟨b', hb', rfl⟩ := Option.map_eq_some_iff.1 h
  obtain ⟨p, ex, rfl⟩ := np b' hb'
  have ht := (T t (tg_lt' (by rw [hty]; simp))).tptr _ hty
  refine good_of (r := r) rfl (bin_run (v := .bool !p.isNone) ho (by rw [ex, ey]; cases p <;> rfl) ?_) (vr_of_bool w (Xs σ s.M w) _)
  rw [ex, ey]
  simp only [binOp, Sem.run_bind, run_eq_ptr (w := w) ht, Result.andThen_ok]
  rfl
 ·cases h
theorem aBin_sound (T : TabOk P tab) (r : Rel w0 F σ s a w) {op : BinOp} {t t2 : TypeId} {x y : Operand} (ho : o.op = .binOp op t x y t2) (hc : (aBin tab op t (evA s.T x) (evA s.T y) s.M).c) :
  Good P w0 F o s a w (aBin tab op t (evA s.T x) (evA s.T y) s.M) := by
 have hx := ev_sound r x
 have hy := ev_sound r y
 unfold aBin at hc ⊢
 split at hc
 ·rename_i b hb
  exact ptrQ_sound T r ho hb
 rename_i hpn
 clear hpn
 cases hnq : nilQ tab op t (evA s.T x) (evA s.T y)
 case true =>
  simp only [cond_true]
  exact nilQ_sound T r ho hnq
 rw [hnq] at hc
 simp only [cond_false] at hc ⊢
 split at hc
 ·rename_i d1 d2 h1 h2
  rw [h1] at hx
  rw [h2] at hy
  change VR w (Xs σ s.M w) d1 (a.eval x) at hx
  change VR w (Xs σ s.M w) d2 (a.eval y) at hy
  unfold binD at hc ⊢
  simp only [eqB_eq] at hc ⊢
  split at hc
  ·rename_i k m k' n
   have ex := vr_int hx
   have ey := vr_int hy
   split at hc
   ·refine good_of (r := r) rfl (bin_run (v := .int k (ishl k m n)) ho (by rw [ex, ey]; exact eqGuard_int) ?_) (vr_of_int w (Xs σ s.M w) _ _)
    have hc' : ¬ n < 0 := Int.not_lt.2 hc
    rw [ex, ey]; simp [binOp, Op.shift, hc', ishl]
   ·refine good_of (r := r) rfl (bin_run (v := .int k (ishr k m n)) ho (by rw [ex, ey]; exact eqGuard_int) ?_) (vr_of_int w (Xs σ s.M w) _ _)
    have hc' : ¬ n < 0 := Int.not_lt.2 hc
    rw [ex, ey]; simp [binOp, Op.shift, hc', ishr]
   ·by_cases hk : k = k'
    ·subst hk
     simp only [decide_true, cond_true] at hc ⊢
     exact binI_sound r ho ex ey hc
    ·simp only [decide_eq_false hk, cond_false] at hc
     exact hc.elim
  ·rename_i l m
   obtain ⟨ex, bx⟩ := vr_str hx
   obtain ⟨ey, byy⟩ := vr_str hy
   have hg : (eqGuard op t x y (a.eval x) (a.eval y)).run P w = .ok () w := by rw [ex, ey]; exact eqGuard_str
   split at hc
   ·refine good_of (r := r) rfl (bin_run (v := .string (bstr (l ++ m))) ho hg ?_) ⟨rfl, fun z hz => (List.mem_append.1 hz).elim (bx z) (byy z)⟩
    have hc' : ((l.length + m.length : Nat) : Int) ≤ 9223372036854775807 := hc
    rw [ex, ey]
    simp only [binOp, Op.stringOp, bstr_size, bstr_append]
    rw [if_neg (by
     have e : IntKind.i64.max = 9223372036854775807 := by decide
     rw [e]; exact Int.not_lt.2 hc')]
    rfl
   ·refine good_of (r := r) rfl (bin_run (v := .bool _) ho hg ?_) (vr_of_bool w (Xs σ s.M w) _)
    rw [ex, ey]
    simp only [binOp, Op.stringOp, bstr_eq bx byy]
    rfl
   ·refine good_of (r := r) rfl (bin_run (v := .bool _) ho hg ?_) (vr_of_bool w (Xs σ s.M w) _)
    rw [ex, ey]
    simp only [binOp, Op.stringOp, bstr_eq bx byy]
    rfl
   ·exact hc.elim
  ·rename_i m n
   have ex := vr_val hx
   have ey := vr_val hy
   have hg : (eqGuard op t x y (a.eval x) (a.eval y)).run P w = .ok () w := by rw [ex, ey]; exact eqGuard_bool
   split at hc
   ·rename_i hty
    have ht := (T t (tg_lt' (by rw [hty]; simp))).tbool hty
    refine good_of (r := r) rfl (bin_run (v := .bool _) ho hg ?_) (vr_of_bool w (Xs σ s.M w) _)
    rw [ex, ey]
    simp only [binOp, Sem.run_bind, run_equal_bool w t _ _ ht, Result.andThen_ok]
    rfl
   ·rename_i hty
    have ht := (T t (tg_lt' (by rw [hty]; simp))).tbool hty
    refine good_of (r := r) rfl (bin_run (v := .bool _) ho hg ?_) (vr_of_bool w (Xs σ s.M w) _)
    rw [ex, ey]
    simp only [binOp, Sem.run_bind, run_equal_bool w t _ _ ht, Result.andThen_ok]
    rfl
   ·exact hc.elim
  ·rename_i k n l k' n' m
   obtain ⟨hl, ex⟩ := hx
   obtain ⟨hm, ey⟩ := hy
   split at hc
   ·rename_i n0 e hty
    split at hc
    ·rename_i k0 hte
     obtain ⟨rfl, rfl, rfl, rfl, hsmall⟩ := hc
     have ht := (T t (tg_lt' (by rw [hty]; simp))).tarr _ _ hty
     have he := (T e (tg_lt' (by rw [hte]; simp))).tint _ hte
     have RI := (T e (tg_lt' (by rw [hte]; simp)))
     obtain ⟨i, z, hi, hsz, _, hz, hzr⟩ := RI.info
     have h1 : i.size = 1 := by rw [hsz]; exact hsmall
     refine good_of (r := r) rfl (bin_run (v := .bool _) ho (by rw [ex, ey]; exact eqGuard_arr ht he) ?_) (vr_of_bool w (Xs σ s.M w) _)
     rw [ex, ey]
     simp only [binOp, Sem.run_bind, equal_arr (w := w) ht he hi h1 hl hm, Result.andThen_ok]
     rfl
    ·exact hc.elim
   ·rename_i n0 e hty
    split at hc
    ·rename_i k0 hte
     obtain ⟨rfl, rfl, rfl, rfl, hsmall⟩ := hc
     have ht := (T t (tg_lt' (by rw [hty]; simp))).tarr _ _ hty
     have he := (T e (tg_lt' (by rw [hte]; simp))).tint _ hte
     have RI := (T e (tg_lt' (by rw [hte]; simp)))
     obtain ⟨i, z, hi, hsz, _, hz, hzr⟩ := RI.info
     have h1 : i.size = 1 := by rw [hsz]; exact hsmall
     refine good_of (r := r) rfl (bin_run (v := .bool _) ho (by rw [ex, ey]; exact eqGuard_arr ht he) ?_) (vr_of_bool w (Xs σ s.M w) _)
     rw [ex, ey]
     simp only [binOp, Sem.run_bind, equal_arr (w := w) ht he hi h1 hl hm, Result.andThen_ok]
     rfl
    ·exact hc.elim
   ·exact hc.elim
  ·rename_i fs gs
   have main : (eqDT tab 6 t (.st fs) (.st gs)).1 → (∃ u v, a.eval x = .agg u ∧ a.eval y = .agg v ∧ (Op.equal t (.agg u) (.agg v)).run P w = .ok (eqDT tab 6 t (.st fs) (.st gs)).2 w) ∧ (eqGuard op t x y (a.eval x) (a.eval y)).run P w = .ok () w := by
    intro hc
    obtain ⟨cs, ex, hcr⟩ := hx
    obtain ⟨cs', ey, hcr'⟩ := hy
    refine ⟨⟨_, _, ex, ey, eqDT_sound T 6 9992 t _ _ _ _ hc ⟨cs, rfl, hcr⟩ ⟨cs', rfl, hcr'⟩⟩, ?_⟩
    obtain ⟨e1, e2⟩ := eqDT_st (n := 5) hc
    rw [ex, ey]
    exact run_eqGuard_agg w op t x y _ _ ((T t (tg_lt' e2)).teq e1).2.1
   split at hc
   ·obtain ⟨⟨u, v, e1, e2, m1⟩, m2⟩ := main hc
    refine good_of (r := r) rfl (bin_run (v := .bool _) ho m2 ?_) (vr_of_bool w (Xs σ s.M w) _)
    rw [e1, e2]
    simp only [binOp, Sem.run_bind, m1, Result.andThen_ok]
    rfl
   ·obtain ⟨⟨u, v, e1, e2, m1⟩, m2⟩ := main hc
    refine good_of (r := r) rfl (bin_run (v := .bool _) ho m2 ?_) (vr_of_bool w (Xs σ s.M w) _)
    rw [e1, e2]
    simp only [binOp, Sem.run_bind, m1, Result.andThen_ok]
    rfl
   ·exact hc.elim
  ·exact hc.elim
 ·exact hc.elim
end
end Go.Vg
