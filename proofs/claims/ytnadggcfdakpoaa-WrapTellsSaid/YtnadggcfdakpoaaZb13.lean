/- the reference's cipher: NewCipher. -/
import Derived.Test.YtnadggcfdakpoaaZb12
namespace Go.Proofs.Ytnadggcfdakpoaa
open Go Go.Vg
theorem ch_len (k : IntKind) (n : Nat) : ∀ (c : Nat) (l : List Int), (chunks k n c l).length = c
 | 0, _ => rfl
 | c + 1, l => by simp [chunks, ch_len k n c]
theorem ch_get {k : IntKind} {n : Nat} {d : D} : ∀ {c j : Nat} {l : List Int}, j < c → (chunks k n c l).getD j d = .arr k n ((l.drop (n * j)).take n)
 | 0, _, _, h => by omega
 | c + 1, 0, l, _ => rfl
 | c + 1, j + 1, l, h => by
  show (chunks k n c (l.drop n)).getD j d = _
  rw [ch_get (by omega), List.drop_drop, show n + n * j = n * (j + 1) by rw [Nat.mul_add]; omega]
theorem ch_succ {k : IntKind} {n : Nat} : ∀ (c : Nat) (l : List Int), chunks k n (c + 1) l = chunks k n c l ++ [.arr k n ((l.drop (n * c)).take n)]
 | 0, l => rfl
 | c + 1, l => by
  show D.arr k n (l.take n) :: chunks k n (c + 1) (l.drop n) = D.arr k n (l.take n) :: chunks k n c (l.drop n) ++ [.arr k n ((l.drop (n * (c + 1))).take n)]
  rw [ch_succ c (l.drop n), List.drop_drop, show n + n * c = n * (c + 1) by rw [Nat.mul_add]; omega]
  rfl
theorem take_col {fw : List Int} {j : Nat} (h : 4 * j + 4 ≤ fw.length) : (fw.drop (4 * j)).take 4 = colL fw j := by
 refine ext_getD (n := 4) (by rw [List.length_take, List.length_drop]; omega) rfl fun i hi => ?_
 rw [getD_take hi, getD_drop]
 unfold colL
 match i, hi with
 | 0, _ => rfl
 | 1, _ => rfl
 | 2, _ => rfl
 | 3, _ => rfl
 | k + 4, h => omega
theorem boxP_get {a : Nat} (h : a < 256) : boxP.getD a 0 = ((gbx a : Nat) : Int) := by
 unfold boxP
 rw [opq_eq, boxL_get h]
theorem boxU_get {a : Nat} (h : a < 256) : boxU.getD a 0 = ((gux a : Nat) : Int) := by
 unfold boxU boxP
 rw [opq_eq, gub_box h]
theorem col_get4 {f : Nat → Int} : [f 0, f 1, f 2, f 3] = (List.range 4).map f := rfl
theorem rowc {a b : List D} (h : a = b) : some (Blk.row 39 (.slc 4 a)) = some (Blk.row 39 (.slc 4 b)) := by rw [h]
theorem avc {a b : AV} (h : a = b) : a = b := h
theorem u8c {a b : Nat} (h : a = b) : AV.d (u8 a) = AV.d (u8 b) := by rw [h]
theorem s4L_eq (p : List Int) : s4L p = [((gbx (p.getD 0 0).toNat : Nat) : Int), ((gbx (p.getD 1 0).toNat : Nat) : Int), ((gbx (p.getD 2 0).toNat : Nat) : Int), ((gbx (p.getD 3 0).toNat : Nat) : Int)] := rfl
theorem s4L_trn (p : List Int) : s4L (trn p) = [((gbx (p.getD 1 0).toNat : Nat) : Int), ((gbx (p.getD 2 0).toNat : Nat) : Int), ((gbx (p.getD 3 0).toNat : Nat) : Int), ((gbx (p.getD 0 0).toNat : Nat) : Int)] := rfl
attribute [local irreducible] selL s4L adK eaL shL usL trL adR mxR fwS fwL
set_option maxHeartbeats 4000000 in
set_option maxRecDepth 100000 in
theorem m20 : MeetsQ Try.prog 20 sp20 := by
 refine meetsNew_of_owed (C := c20) ⟨tab_ok, lkS_ok ⟨m79, m80, m81, trivial⟩⟩ (by kernel_rfl) (by kernel_rfl : Try.prog.funcs[20]? = some Try.f20) (by kernel_rfl) (by kernel_rfl) (by kernel_rfl) _ ⟨by kernel_rfl, by kernel_rfl, by kernel_rfl, by kernel_rfl⟩ ?_
 rintro _ ⟨key, rfl, hk, hN⟩
 refine ⟨inv20 (key.length / 4) (fwL (key.length / 4) key), ?_⟩
 show owedNew c20 (inv20 (key.length / 4) (fwL (key.length / 4) key)) Try.f20 [.str key] (.tup [.st [.slc 4 (chunks .u8 4 (4 * (key.length / 4 + 7)) (fwL (key.length / 4) key)), b256 boxP, b256 boxU], i64 0])
 rw [vc20]
 have hz0 : Int.toNat 0 = 0 := rfl
 simp (decide := true) only [eq_self, true_and, and_true, ne_eq, not_false_eq_true, Int.toNat_natCast, ch_len, hz0, List.length_append, List.length_cons, List.length_nil]
 refine m3 ?_ ?_
 ·intro h1 h2 h3
  have h1 := bne_iff_ne.1 h1
  have h2 := bne_iff_ne.1 h2
  have h3 := bne_iff_ne.1 h3
  unfold okN at hN
  omega
 ·intro hb
  have hn48 : key.length / 4 = 4 ∨ key.length / 4 = 6 ∨ key.length / 4 = 8 := by unfold okN at hN; omega
  have hlen : key.length = 4 * (key.length / 4) := by unfold okN at hN; omega
  rw [td4, wNi (n := key.length / 4) (by omega)]
  generalize hne : key.length / 4 = n at hn48 hlen ⊢
  have hfw := fw_ok hk n
  have hwd : ∀ i j, i < 4 * (n + 7) → j < 4 → (fwL n key).getD (4 * i + j) 0 = (wdL n key i (fwL n key)).getD j 0 := fun i j hi hj => fw_word (by omega) (by omega) hi hj
  generalize fwL n key = fw at hfw hwd ⊢
  have w7 : IntKind.i64.wrap ((n : Int) + 7) = ((n + 7 : Nat) : Int) := wi_n (by omega) 7 (by omega)
  have w28 : IntKind.i64.wrap (4 * ((n + 7 : Nat) : Int)) = ((4 * (n + 7) : Nat) : Int) := by rw [show 4 * ((n + 7 : Nat) : Int) = ((4 * (n + 7) : Nat) : Int) by omega, wNi (by omega)]
  simp only [w7, w28]
  have hbx : ∃ l, [D.arr IntKind.u8 256 boxP] = [D.arr IntKind.u8 256 l] ∧ okb l ∧ l.length = 256 := ⟨_, rfl, by
   unfold boxP
   rw [opq_eq]
   refine ⟨?_, boxL_len⟩
   intro x hx
   obtain ⟨a, ha, rfl⟩ := List.mem_map.1 hx
   have := gbx_lt a
   omega⟩
  refine ⟨hbx, by and_intros <;> first | exact True.intro | omega | rfl, ?_⟩
  intro i hi
  split
  ·rename_i h2
   have h2 : i < n := by have := of_decide_eq_true h2; omega
   have q : ∀ k : Nat, k < 4 → IntKind.i64.wrap (((4 * i : Nat) : Int) + (k : Int)) = ((4 * i + k : Nat) : Int) := fun k hk => wi_n (by omega) k (by omega)
   have q0 : IntKind.i64.wrap (4 * (i : Int)) = ((4 * i : Nat) : Int) := by rw [show 4 * (i : Int) = ((4 * i : Nat) : Int) by omega, wNi (by omega)]
   have q1 : IntKind.i64.wrap (((4 * i : Nat) : Int) + 1) = _ := q 1 (by omega)
   have q2 : IntKind.i64.wrap (((4 * i : Nat) : Int) + 2) = _ := q 2 (by omega)
   have q3 : IntKind.i64.wrap (((4 * i : Nat) : Int) + 3) = _ := q 3 (by omega)
   have ec : [key.getD (4 * i) 0, key.getD (4 * i + 1) 0, key.getD (4 * i + 2) 0, key.getD (4 * i + 3) 0] = colL fw i := by
    have wk : ∀ j, j < 4 → fw.getD (4 * i + j) 0 = key.getD (4 * i + j) 0 := by
     intro j hj
     rw [hwd i j (by omega) hj]
     unfold wdL
     rw [if_pos h2]
     unfold colL
     match j, hj with
     | 0, _ => rfl
     | 1, _ => rfl
     | 2, _ => rfl
     | 3, _ => rfl
     | k + 4, h => omega
    have w0 := wk 0 (by omega)
    rw [Nat.add_zero] at w0
    unfold colL
    rw [w0, wk 1 (by omega), wk 2 (by omega), wk 3 (by omega)]
   have es := ch_succ (k := .u8) (n := 4) i fw
   rw [take_col (by rw [hfw.2]; omega)] at es
   simp only [q0, q1, q2, q3, sq (x := i) (by omega), Int.toNat_natCast, ec, ← es]
   and_intros <;> first | exact True.intro | omega | rfl
  ·rename_i h2
   have h2 : i = n := by have := of_decide_eq_false h2; omega
   subst h2
   have e0 : (i - 1) / i = 0 := Nat.div_eq_of_lt (by omega)
   refine ⟨by and_intros <;> first | exact True.intro | omega | (rw [e0]; rfl) | rfl, ?_⟩
   clear hi e0
   generalize i = n at *
   intro i ⟨hi1, hi2⟩
   split
   ·rename_i h
    have h : i < 4 * (n + 7) := by have := of_decide_eq_true h; omega
    have w1 : IntKind.i64.wrap ((i : Int) - 1) = ((i - 1 : Nat) : Int) := by rw [show (i : Int) - 1 = ((i - 1 : Nat) : Int) by omega, wNi (by omega)]
    have wn : IntKind.i64.wrap ((i : Int) - (n : Int)) = ((i - n : Nat) : Int) := by rw [show (i : Int) - (n : Int) = ((i - n : Nat) : Int) by omega, wNi (by omega)]
    have tmn : (i : Int).tmod (n : Int) = ((i % n : Nat) : Int) := rfl
    have tm8 : (i : Int).tmod 8 = ((i % 8 : Nat) : Int) := rfl
    have g1 : (chunks .u8 4 i fw).getD (i - 1) (D.val (Value.bool false)) = b4 (prL fw i) := by rw [ch_get (by omega), take_col (by rw [hfw.2]; omega)]; rfl
    have gn : (chunks .u8 4 i fw).getD (i - n) (D.val (Value.bool false)) = b4 (colL fw (i - n)) := by rw [ch_get (by omega), take_col (by rw [hfw.2]; omega)]
    have ea : ∀ l, arrOf (D.arr .u8 4 l) = l := fun l => rfl
    have hpp : okb (prL fw i) := colL_ok hfw.1 (i - 1)
    have hb : ∀ j, 0 ≤ (prL fw i).getD j 0 ∧ (prL fw i).getD j 0 < 256 := fun j => okb_g hpp j
    have hbox : ∀ j, boxP.getD ((prL fw i).getD j 0).toNat 0 = ((gbx ((prL fw i).getD j 0).toNat : Nat) : Int) := fun j => boxP_get (by have := hb j; omega)
    simp only [w1, wn, tmn, tm8, Int.toNat_natCast, g1, gn, ea, hbox]
    have hdv : (i % n = 0 → i / n - 1 = (i - 1) / n ∧ (i - 1) / n + 1 = i / n) ∧ (i % n ≠ 0 → (i - 1) / n = i / n) := by
     rcases hn48 with rfl | rfl | rfl <;> omega
    refine ⟨by and_intros <;> omega, by and_intros <;> first | exact True.intro | omega | rfl, by and_intros <;> omega, by and_intros <;> first | exact True.intro | omega | rfl, by omega, ?_, ?_⟩
    ·split
     ·rename_i h5
      have h5 : i % n = 0 := by have := eq_of_beq h5; omega
      obtain ⟨d1, d2⟩ := hdv.1 h5
      have et : tuL n fw i = (s4L (trn (prL fw i))).set 0 (ixor .u8 ((s4L (trn (prL fw i))).getD 0 0) ((gpw 2 (i / n - 1) : Nat) : Int)) := by unfold tuL; rw [if_pos h5]
      rw [et, s4L_trn, d1]
      have em : gm (gpw 2 ((i - 1) / n)) 2 = gpw 2 (i / n) := by rw [← d2]; rfl
      and_intros <;> first | exact True.intro | exact (hb _).1 | exact (hb _).2 | omega | exact ⟨_, 2, rfl, gpw_lt (by decide) _, by decide⟩ | exact u8c em | rfl
     ·rename_i h5
      have h5 : ¬ i % n = 0 := fun e => by rw [e] at h5; cases h5
      have ed := hdv.2 h5
      split
      ·rename_i h6
       have h6 : n = 8 := by have := eq_of_beq h6; omega
       split
       ·rename_i h7
        have h7 : i % 8 = 4 := by have := eq_of_beq h7; omega
        have et : tuL n fw i = s4L (prL fw i) := by unfold tuL; rw [if_neg h5, if_pos ⟨h6, h7⟩]
        rw [et, s4L_eq, ed]
        and_intros <;> first | exact True.intro | exact (hb _).1 | exact (hb _).2 | omega | rfl
       ·rename_i h7
        have h7 : ¬ i % 8 = 4 := fun e => by rw [e] at h7; cases h7
        have et : tuL n fw i = prL fw i := by unfold tuL; rw [if_neg h5, if_neg (fun hh => h7 hh.2)]
        rw [et, ed]
        first | trivial | (and_intros <;> first | exact True.intro | omega | rfl)
      ·rename_i h6
       have h6 : ¬ n = 8 := fun e => by rw [e] at h6; cases h6
       have et : tuL n fw i = prL fw i := by unfold tuL; rw [if_neg h5, if_neg (fun hh => h6 hh.1)]
       rw [et, ed]
       first | trivial | (and_intros <;> first | exact True.intro | omega | rfl)
    ·intro z hz'
     obtain rfl : z = i := by omega
     have ew : [ixor .u8 ((colL fw (z - n)).getD 0 0) ((tuL n fw z).getD 0 0), ixor .u8 ((colL fw (z - n)).getD 1 0) ((tuL n fw z).getD 1 0), ixor .u8 ((colL fw (z - n)).getD 2 0) ((tuL n fw z).getD 2 0), ixor .u8 ((colL fw (z - n)).getD 3 0) ((tuL n fw z).getD 3 0)] = colL fw z := by
      have wk : ∀ j, j < 4 → fw.getD (4 * z + j) 0 = ixor .u8 (fw.getD (4 * (z - n) + j) 0) ((tuL n fw z).getD j 0) := by
       intro j hj
       rw [hwd z j h hj]
       unfold wdL
       rw [if_neg (by omega), map_getD _ hj]
      have w0 := wk 0 (by omega)
      rw [Nat.add_zero, Nat.add_zero] at w0
      unfold colL
      rw [w0, wk 1 (by omega), wk 2 (by omega), wk 3 (by omega)]
      rfl
     have es := ch_succ (k := .u8) (n := 4) z fw
     rw [take_col (by rw [hfw.2]; omega)] at es
     simp only [ew, ← es]
     and_intros <;> first | exact True.intro | omega | exact u8c (by rw [Nat.add_sub_cancel]) | rfl
   ·rename_i h
    have h : i = 4 * (n + 7) := by have := of_decide_eq_false h; omega
    subst h
    rfl
end Go.Proofs.Ytnadggcfdakpoaa
namespace Go.Proofs.Ytnadggcfdakpoaa
open Go Go.Vg
set_option maxRecDepth 100000 in
theorem m20b : Meets Try.prog 20 sp20b := by
 refine meets_of_owed (C := c20) ⟨tab_ok, lkS_ok ⟨m79, m80, m81, trivial⟩⟩ (by kernel_rfl) (by kernel_rfl : Try.prog.funcs[20]? = some Try.f20) (by kernel_rfl) (by kernel_rfl) (by kernel_rfl) _ ?_
 rintro _ ⟨key, rfl, hk, hN, hl⟩
 refine ⟨fun _ => rfl, fun _ => none, ?_⟩
 show owed c20 (fun _ => none) Try.f20 [.str key] (.tup [.val (.pointer none), i64 1])
 rw [vc20b]
 simp (decide := true) only [eq_self, true_and, and_true, ne_eq, not_false_eq_true]
 refine m3 ?_ ?_
 ·intro _ _ _
  first | exact True.intro | rfl
 ·intro hb
  exact absurd (by
   unfold okN
   refine Classical.byContradiction fun hc => hb ⟨bne_iff_ne.2 (by omega), bne_iff_ne.2 (by omega), bne_iff_ne.2 (by omega)⟩) hN
set_option maxRecDepth 100000 in
theorem m24 : Meets Try.prog 24 sp24 := by
 refine meets_of_owed (C := c24) ⟨tab_ok, fun f s h => by cases h⟩ (by kernel_rfl) (by kernel_rfl : Try.prog.funcs[24]? = some Try.f24) (by kernel_rfl) (by kernel_rfl) (by kernel_rfl) _ ?_
 rintro _ ⟨w, R, rfl, hw, hR⟩
 refine ⟨(fun h => by cases h), fun _ => none, ?_⟩
 show owed c24 (fun _ => none) Try.f24 [keyD w ((R : Nat) : Int)] (.slc 4 (chunks .u8 4 (4 * (((R : Nat) : Int).toNat + 1)) w))
 have w1 : IntKind.i64.wrap ((R : Int) + 1) = ((R + 1 : Nat) : Int) := sq (by omega)
 have w4 : IntKind.i64.wrap (4 * ((R + 1 : Nat) : Int)) = ((4 * (R + 1) : Nat) : Int) := by rw [show 4 * ((R + 1 : Nat) : Int) = ((4 * (R + 1) : Nat) : Int) by omega, wNi (by omega)]
 rw [vc24]
 simp only [w1, w4, Int.toNat_natCast, ch_len, List.drop_zero, Nat.sub_zero]
 and_intros <;> first | exact True.intro | omega | rfl | decide
theorem eqB_refl (l : List Int) : eqB l l = true := eqB_iff.2 rfl
theorem flW_take {V W : List D} (hV : okW V) (hW : okW W) {k : Nat} (h1 : k < V.length) (h2 : k < W.length) (d : D) (e : flW (V.take k) = flW (W.take k)) :
  (flW (V.take (k + 1)) = flW (W.take (k + 1)) ↔ arrOf (V.getD k d) = arrOf (W.getD k d)) := by
 have app : ∀ a b : List D, flW (a ++ b) = flW a ++ flW b := by
  intro a b
  induction a with
  | nil => rfl
  | cons x a ih => show arrOf x ++ flW (a ++ b) = arrOf x ++ flW a ++ flW b; rw [ih, List.append_assoc]
 have s1 : V.take (k + 1) = V.take k ++ [V.getD k d] := by
  rw [List.take_add_one, List.getD_eq_getElem?_getD, List.getElem?_eq_getElem h1]
  rfl
 have s2 : W.take (k + 1) = W.take k ++ [W.getD k d] := by
  rw [List.take_add_one, List.getD_eq_getElem?_getD, List.getElem?_eq_getElem h2]
  rfl
 rw [s1, s2, app, app, e]
 constructor
 ·intro h
  have h' : arrOf (V.getD k d) ++ [] = arrOf (W.getD k d) ++ [] := List.append_cancel_left h
  rwa [List.append_nil, List.append_nil] at h'
 ·intro h
  show flW (W.take k) ++ (arrOf (V.getD k d) ++ []) = flW (W.take k) ++ (arrOf (W.getD k d) ++ [])
  rw [h]
theorem okW_take {V : List D} (h : okW V) (k : Nat) : okW (V.take k) := fun d hd => h d (List.mem_of_mem_take hd)
theorem flW_pre {V W : List D} (hV : okW V) (hW : okW W) (hl : V.length = W.length) {k : Nat} (hk : k < V.length) (d : D) (h : arrOf (V.getD k d) ≠ arrOf (W.getD k d)) : flW V ≠ flW W := by
 intro e
 obtain ⟨l, e1, hl1⟩ := okW_get hV hk d
 obtain ⟨m, e2, hl2⟩ := okW_get hW (j := k) (by omega) d
 apply h
 rw [e1, e2]
 show l = m
 refine ext_getD hl1.2 hl2.2 fun j hj => ?_
 have a := flW_get hV hk hj d
 have b := flW_get hW (show k < W.length by omega) hj d
 rw [e1] at a
 rw [e2] at b
 rw [e] at a
 exact a.symm.trans b
set_option maxRecDepth 100000 in
theorem m23 : Meets Try.prog 23 sp23 := by
 refine meets_of_owed (C := c0) ⟨tab_ok, fun f s h => by cases h⟩ (by kernel_rfl) (by kernel_rfl : Try.prog.funcs[23]? = some Try.f23) (by kernel_rfl) (by kernel_rfl) (by kernel_rfl) _ ?_
 rintro _ ⟨V, W, rfl, hV, hW, hl⟩
 refine ⟨fun _ => rfl, inv23 V W, ?_⟩
 show owed c0 (inv23 V W) Try.f23 [.slc 4 V, .slc 4 W] (.val (.bool (eqB (flW V) (flW W))))
 rw [vc23]
 simp (decide := true) only [eq_self, true_and, and_true, ne_eq, not_false_eq_true]
 have l1 := flW_len hV
 have l2 := flW_len hW
 split
 ·rename_i h
  have h := bne_iff_ne.1 h
  have : eqB (flW V) (flW W) = false := eqB_not.2 fun e => h (by have := congrArg List.length e; omega)
  rw [this]
 ·rename_i h
  have h : V.length = W.length := by
   have : ((V.length : Int) != (W.length : Int)) = false := h
   have : (V.length : Int) = (W.length : Int) := by simpa using this
   omega
  refine ⟨by and_intros <;> first | exact True.intro | rfl | omega, ?_⟩
  intro k ⟨hk, he⟩
  split
  ·rename_i h2
   have h2 : k < V.length := by have := of_decide_eq_true h2; omega
   simp only [Int.toNat_natCast]
   obtain ⟨l, e1, hl1⟩ := okW_get hV h2 (D.val (Value.bool false))
   obtain ⟨m, e2, hl2⟩ := okW_get hW (show k < W.length by omega) (D.val (Value.bool false))
   have ft := flW_take hV hW h2 (by omega) (D.val (Value.bool false)) he
   have fp := flW_pre hV hW h h2 (D.val (Value.bool false))
   rw [e1, e2] at ft fp
   rw [e1, e2]
   refine ⟨by and_intros <;> first | exact True.intro | rfl | omega | decide, by and_intros <;> first | exact True.intro | rfl | omega | decide, ?_⟩
   split
   ·rename_i h3
    have h3 : ¬ l = m := fun e => by
     have h3' : (!eqB l m) = true := h3
     rw [e, eqB_refl] at h3'
     cases h3'
    have : eqB (flW V) (flW W) = false := eqB_not.2 (fp h3)
    rw [this]
   ·rename_i h3
    have h3 : l = m := eqB_iff.1 (by
     have h3' : (!eqB l m) = false := h3
     cases hq : eqB l m
     ·rw [hq] at h3'; cases h3'
     ·rfl)
    rw [sq (x := k) (by omega)]
    simp only [Int.toNat_natCast]
    and_intros <;> first | exact True.intro | omega | exact ft.2 h3 | rfl
  ·rename_i h2
   have h2 : k = V.length := by have := of_decide_eq_false h2; omega
   rw [List.take_of_length_le (by omega), List.take_of_length_le (by omega)] at he
   rw [he, eqB_refl]
end Go.Proofs.Ytnadggcfdakpoaa
namespace Go.Proofs.Ytnadggcfdakpoaa
open Go Go.Vg
set_option maxRecDepth 100000 in
theorem ok25  (d : D)  :
    (OkT tab 8 25 d) = (
 ∃ (l : List Int), d = D.ints IntKind.u8 l ∧ (∀ (z : Int), z ∈ l → (0 : Int) ≤ z ∧ z ≤ IntKind.u8.max) ∧ l.length ≤ (9223372036854775807 : Nat) ∧ l.length * (1 : Nat) ≤ (140737488351232 : Nat)) := by kernel_rfl
set_option maxRecDepth 100000 in
theorem ok38  (d : D)  :
    (OkT tab 8 38 d) = (
 ∃ (l : List Int), d = D.arr IntKind.u8 (16 : Nat) l ∧ l.length = (16 : Nat) ∧ ∀ (z : Int), z ∈ l → (0 : Int) ≤ z ∧ z ≤ IntKind.u8.max) := by kernel_rfl
theorem okW_ch {fw : List Int} (h : isB 240 fw) {c : Nat} (hc : c ≤ 60) : okW (chunks .u8 4 c fw) := by
 intro d hd
 obtain ⟨j, hj, rfl⟩ := List.getElem_of_mem hd
 rw [ch_len] at hj
 have := ch_get (k := .u8) (n := 4) (d := D.val (.bool false)) (l := fw) hj
 rw [List.getD_eq_getElem?_getD, List.getElem?_eq_getElem (by rw [ch_len]; exact hj)] at this
 have e : (chunks .u8 4 c fw)[j]'(by rw [ch_len]; exact hj) = b4 ((fw.drop (4 * j)).take 4) := this
 rw [e, take_col (by rw [h.2]; omega)]
 exact ⟨_, rfl, colL_ok h.1 _, rfl⟩
theorem flW_ch {fw : List Int} (h : isB 240 fw) {c : Nat} (hc : c ≤ 60) {m : Nat} (hm : m < 4 * c) : (flW (chunks .u8 4 c fw)).getD m 0 = fw.getD m 0 := by
 have := flW_get (okW_ch h hc) (j := m / 4) (k := m % 4) (by rw [ch_len]; omega) (by omega) (D.val (.bool false))
 rw [show 4 * (m / 4) + m % 4 = m by omega, ch_get (by omega)] at this
 rw [this]
 show ((fw.drop (4 * (m / 4))).take 4).getD (m % 4) 0 = _
 rw [getD_take (by omega), getD_drop, show 4 * (m / 4) + m % 4 = m by omega]
theorem adK_congr {w v b : List Int} {r : Nat} (h : ∀ m, m < 16 * (r + 1) → w.getD m 0 = v.getD m 0) : adK w r b = adK v r b := by
 refine ext_getD (n := 16) (adK_len _ _ _) (adK_len _ _ _) fun i hi => ?_
 rw [adK_get hi, adK_get hi, h _ (by omega)]
theorem enS_congr {w v b : List Int} {R : Nat} (h : ∀ m, m < 16 * (R + 1) → w.getD m 0 = v.getD m 0) : ∀ k, k ≤ R → enS w b R k = enS v b R k
 | 0, _ => adK_congr fun m hm => h m (by omega)
 | k + 1, hk => by rw [enS, enS, enS_congr h k (by omega), adK_congr fun m hm => h m (by omega)]
theorem deS_congr {w v b : List Int} {R : Nat} (h : ∀ m, m < 16 * (R + 1) → w.getD m 0 = v.getD m 0) : ∀ k, k ≤ R → deS w b R k = deS v b R k
 | 0, _ => rfl
 | k + 1, hk => by rw [deS, deS, deS_congr h k (by omega), adK_congr (r := R - k) fun m hm => h m (by omega)]
theorem enL_congr {w v b : List Int} {R : Nat} (h : ∀ m, m < 16 * (R + 1) → w.getD m 0 = v.getD m 0) : enL w R b = enL v R b := enS_congr h R (Nat.le_refl _)
theorem deL_congr {w v b : List Int} {R : Nat} (h : ∀ m, m < 16 * (R + 1) → w.getD m 0 = v.getD m 0) : deL w R b = deL v R b := by
 unfold deL
 rw [deS_congr h R (Nat.le_refl _), adK_congr (r := 0) fun m hm => h m (by omega)]
theorem okX_box : okX boxP boxU := by
 have e : boxP = boxL := opq_eq _
 refine ⟨⟨?_, by rw [e, boxL_len]⟩, ⟨?_, by unfold boxU; exact gub_len _ _⟩, fun a ha => ⟨boxP_get ha, boxU_get ha⟩⟩
 ·rw [e]
  intro x hx
  obtain ⟨a, ha, rfl⟩ := List.mem_map.1 hx
  have := gbx_lt a
  omega
 ·intro x hx
  obtain ⟨j, hj, rfl⟩ := List.getElem_of_mem hx
  have hl : boxU.length = 256 := by unfold boxU; exact gub_len _ _
  have := boxU_get (a := j) (by omega)
  rw [List.getD_eq_getElem?_getD, List.getElem?_eq_getElem hj] at this
  have h2 : boxU[j] = ((gux j : Nat) : Int) := this
  rw [h2]
  have := gux_lt (a := j) (by omega)
  omega
set_option linter.unusedVariables false in
theorem meets_or {P : Program} {f : FuncId} {s : Go.Vg.Spec} (p q : List D → Prop) (h1 : Meets P f ⟨p, s.f, s.flat, s.ps⟩) (h2 : Meets P f ⟨q, s.f, s.flat, s.ps⟩) (h : ∀ ds, s.pre ds → p ds ∨ q ds) : Meets P f s :=
 fun ds hp => (h ds hp).elim (h1 ds) (h2 ds)
end Go.Proofs.Ytnadggcfdakpoaa
namespace Go.Proofs.Ytnadggcfdakpoaa
open Go Go.Vg
def b8 (l : List Int) : D := .arr .u8 8 l
def cnL (a : List Int) (t : Nat) : List Int := a.set 7 (ixor .u8 (a.getD 7 0) ((t : Nat) : Int))
def rdA (X : List Int) (i : Nat) : List Int := (X.drop (8 * i)).take 8
def puA (X : List Int) (i : Nat) (l : List Int) : List Int := X.take (8 * i) ++ l ++ X.drop (8 * i + 8)
def bWL (X : List Int) (i : Nat) : List Int := rdA X 0 ++ rdA X i
def lnB (n t : Nat) : Nat := (t - 1) % n + 1
def wsT (w : List Int) (R n : Nat) (X : List Int) (t : Nat) : List Int :=
 puA (puA X 0 (cnL ((enL w R (bWL X (lnB n t))).take 8) t)) (lnB n t) ((enL w R (bWL X (lnB n t))).drop 8)
def usT (w : List Int) (R n : Nat) (X : List Int) (t : Nat) : List Int :=
 puA (puA X 0 ((deL w R (cnL (bWL X (lnB n t)) t)).take 8)) (lnB n t) ((deL w R (cnL (bWL X (lnB n t)) t)).drop 8)
def wpL (w : List Int) (R n : Nat) (X : List Int) : Nat → List Int
 | 0 => X
 | t + 1 => wsT w R n (wpL w R n X t) (t + 1)
def uwL (w : List Int) (R n : Nat) (X : List Int) : Nat → List Int
 | 0 => X
 | k + 1 => usT w R n (uwL w R n X k) (6 * n - k)
def icL (m : Nat) (p : List Int) : List Int := List.replicate m 166 ++ (List.replicate (8 - m) 0 ++ p)
def w0L (p : List Int) : List Int := icL 8 p
def okWr (p : List Int) : Prop := p.length % 8 = 0 ∧ 16 ≤ p.length ∧ p.length ≤ 64
def okUn (p : List Int) : Prop := p.length % 8 = 0 ∧ 24 ≤ p.length ∧ p.length ≤ 72
def pf6 (X : List Int) (i : Nat) : Prop := ∀ j, j < i → X.getD j 0 = 166
def wN (p : List Int) : Nat := p.length / 8
def uN (p : List Int) : Nat := p.length / 8 - 1
def wE (w : List Int) (R : Nat) (p : List Int) : List Int := wpL w R (wN p) (w0L p) (6 * wN p)
def uE (w : List Int) (R : Nat) (p : List Int) : List Int := uwL w R (uN p) p (6 * uN p)
open Classical in
noncomputable def wrL (w : List Int) (R : Nat) (p : List Int) : List Int := if okWr p then wE w R p else []
open Classical in
noncomputable def wrE (p : List Int) : Int := if okWr p then 0 else 1
open Classical in
noncomputable def unL (w : List Int) (R : Nat) (p : List Int) : List Int := if okUn p ∧ pf6 (uE w R p) 8 then (uE w R p).drop 8 else []
open Classical in
noncomputable def unE (w : List Int) (R : Nat) (p : List Int) : Int := if okUn p then (if pf6 (uE w R p) 8 then 0 else 5) else 1
def rwL (n : Nat) (X : List Int) (k : Nat) : List D := (List.range (n + 1)).map fun i => .str (if 1 ≤ i ∧ i < k then rdA X i else [])
def lenP (p : List Int) : Prop := p.length ≤ 140737488351232
def cnA (a : List Int) (t k : Nat) : List Int := if k = 0 then a else cnL a t
def cnN0 (t k : Nat) : Nat := if k = 0 then t else 0
def sp96 : Go.Vg.Spec := ⟨fun ds => ∃ s, ds = [.str s] ∧ okb s ∧ 16 ≤ s.length, fun ds => b16 ((bytesD (ds.headD default)).take 16), true, [9]⟩
def sp99 : Go.Vg.Spec := ⟨fun ds => ∃ s, ds = [.str s] ∧ okb s ∧ 8 ≤ s.length, fun ds => b8 ((bytesD (ds.headD default)).take 8), true, [9]⟩
def sp98 : Go.Vg.Spec := ⟨fun ds => ∃ a t, ds = [b8 a, i64n t] ∧ isB 8 a ∧ t < 256, fun ds => b8 (cnL (arrOf (ds.headD default)) (nn (ds.getD 1 default))), true, [133, 3]⟩
noncomputable def sp33 : Go.Vg.Spec := ⟨fun ds => ∃ w R p, ds = [keyD w ((R : Nat) : Int), .ints .u8 p] ∧ isB 240 w ∧ R ≤ 14 ∧ okb p ∧ lenP p,
 fun ds => .tup [.ints .u8 (wrL (kwL (ds.headD default)) (krI (ds.headD default)).toNat (intsOf (ds.getD 1 default))), .val (.int .i64 (wrE (intsOf (ds.getD 1 default))))], false, [42, 25]⟩
noncomputable def sp34 : Go.Vg.Spec := ⟨fun ds => ∃ W bx ux p, ds = [.ref (cipD W bx ux), .str p] ∧ okW W ∧ 4 ≤ W.length ∧ W.length ≤ 60 ∧ okX bx ux ∧ okb p ∧ lenP p,
 fun ds => .tup [.str (wrL (cwL (ds.headD default)) (cnN (ds.headD default) / 4 - 1) (bytesD (ds.getD 1 default))), .val (.int .i64 (wrE (bytesD (ds.getD 1 default))))], true, [45, 9]⟩
noncomputable def sp35 : Go.Vg.Spec := ⟨fun ds => ∃ w R p, ds = [keyD w ((R : Nat) : Int), .ints .u8 p] ∧ isB 240 w ∧ R ≤ 14 ∧ okb p ∧ lenP p,
 fun ds => .tup [.ints .u8 (unL (kwL (ds.headD default)) (krI (ds.headD default)).toNat (intsOf (ds.getD 1 default))), .val (.int .i64 (unE (kwL (ds.headD default)) (krI (ds.headD default)).toNat (intsOf (ds.getD 1 default))))], false, [42, 25]⟩
noncomputable def sp36 : Go.Vg.Spec := ⟨fun ds => ∃ W bx ux p, ds = [.ref (cipD W bx ux), .str p] ∧ okW W ∧ 4 ≤ W.length ∧ W.length ≤ 60 ∧ okX bx ux ∧ okb p ∧ lenP p,
 fun ds => .tup [.str (unL (cwL (ds.headD default)) (cnN (ds.headD default) / 4 - 1) (bytesD (ds.getD 1 default))), .val (.int .i64 (unE (cwL (ds.headD default)) (cnN (ds.headD default) / 4 - 1) (bytesD (ds.getD 1 default))))], true, [45, 9]⟩
def c96 : Ctx := ⟨tab, lkS [], [], []⟩
def c33 : Ctx := ⟨tab, lkS [(25, sp25)], [29], []⟩
def c34 : Ctx := ⟨tab, lkS [(96, sp96), (98, sp98), (99, sp99), (26, sp26)], [34], []⟩
def c35 : Ctx := ⟨tab, lkS [(27, sp27)], [28], []⟩
def c36 : Ctx := ⟨tab, lkS [(96, sp96), (98, sp98), (99, sp99), (28, sp28)], [37], []⟩
def inv96 (p : List Int) : Nat → Option Inv
 | 3 => some ⟨Nat, fun i => [(5, .d (i64n i))], fun i => [(3, .fix (b16 (p.take i ++ List.replicate (16 - i) 0)))], fun s => (slotN s 5).toNat, fun _ i => i ≤ 16, fun i => 16 - i⟩
 | _ => none
def inv99 (p : List Int) : Nat → Option Inv
 | 3 => some ⟨Nat, fun i => [(5, .d (i64n i))], fun i => [(3, .fix (b8 (p.take i ++ List.replicate (8 - i) 0)))], fun s => (slotN s 5).toNat, fun _ i => i ≤ 8, fun i => 8 - i⟩
 | _ => none
def inv98 (a : List Int) (t : Nat) : Nat → Option Inv
 | 2 => some ⟨Nat, fun k => [(5, .d (.val (.int .i64 (7 - (k : Int))))), (1, .d (i64n (cnN0 t k)))], fun k => [(2, .fix (b8 (cnA a t k)))], fun s => (7 - slotN s 5).toNat, fun _ k => k ≤ 8, fun k => 8 - k⟩
 | _ => none
def inv33 (w : List Int) (R : Nat) (p : List Int) : Nat → Option Inv
 | 5 => some ⟨Nat, fun i => [(32, .d (i64n i))], fun i => [(29, .row 5 (.ints .u8 (icL i p)))], fun s => (slotN s 32).toNat, fun _ i => i ≤ 8, fun i => 8 - i⟩
 | 11 => some ⟨Nat, fun k => [(9, .d (i64n (k + 1)))], fun k => [(29, .row 5 (.ints .u8 (wpL w R (wN p) (w0L p) k)))], fun s => (slotN s 9).toNat - 1, fun _ k => k ≤ 6 * wN p, fun k => 6 * wN p - k⟩
 | _ => none
def inv34 (w : List Int) (R : Nat) (p : List Int) : Nat → Option Inv
 | 7 => some ⟨Nat, fun i => [(9, .d (i64n (i + 1)))], fun i => [(34, .row 9 (.slc 1 (rwL (wN p) (w0L p) (i + 1))))], fun s => (slotN s 9).toNat - 1, fun _ i => i ≤ wN p, fun i => wN p - i⟩
 | 11 => some ⟨Nat, fun j => [(50, .d (i64n j))], fun j => [(7, .fix (b8 (rdA (wpL w R (wN p) (w0L p) (wN p * j)) 0))), (34, .row 9 (.slc 1 (rwL (wN p) (wpL w R (wN p) (w0L p) (wN p * j)) (wN p + 1))))], fun s => (slotN s 50).toNat, fun _ j => j ≤ 6, fun j => 6 - j⟩
 | 14 => some ⟨Nat × Nat, fun x => [(11, .d (i64n (x.1 + 1)))], fun x => [(7, .fix (b8 (rdA (wpL w R (wN p) (w0L p) (wN p * x.2 + x.1)) 0))), (34, .row 9 (.slc 1 (rwL (wN p) (wpL w R (wN p) (w0L p) (wN p * x.2 + x.1)) (wN p + 1))))],
   fun s => ((slotN s 11).toNat - 1, (slotN s 10).toNat), fun s x => x.1 ≤ wN p ∧ (x.2 : Int) = slotN s 10, fun x => wN p - x.1⟩
 | 22 => some ⟨Nat, fun i => [(88, .d (i64n i)), (13, .d (.str ((wE w R p).take (8 * (i + 1)))))], fun _ => [], fun s => (slotN s 88).toNat, fun _ i => i ≤ wN p, fun i => wN p - i⟩
 | _ => none
def inv35 (w : List Int) (R : Nat) (p : List Int) : Nat → Option Inv
 | 6 => some ⟨Nat, fun k => [(8, .d (.val (.int .i64 (((6 * uN p : Nat) : Int) - (k : Int)))))], fun k => [(28, .row 5 (.ints .u8 (uwL w R (uN p) p k)))], fun s => (((6 * uN p : Nat) : Int) - slotN s 8).toNat, fun _ k => k ≤ 6 * uN p, fun k => 6 * uN p - k⟩
 | 17 => some ⟨Nat, fun i => [(73, .d (i64n i))], fun _ => [], fun s => (slotN s 73).toNat, fun _ i => i ≤ 8 ∧ pf6 (uE w R p) i, fun i => 8 - i⟩
 | _ => none
def inv36 (w : List Int) (R : Nat) (p : List Int) : Nat → Option Inv
 | 7 => some ⟨Nat, fun i => [(9, .d (i64n (i + 1)))], fun i => [(37, .row 9 (.slc 1 (rwL (uN p) p (i + 1))))], fun s => (slotN s 9).toNat - 1, fun _ i => i ≤ uN p, fun i => uN p - i⟩
 | 11 => some ⟨Nat, fun c => [(10, .d (.val (.int .i64 (5 - (c : Int)))))], fun c => [(7, .fix (b8 (rdA (uwL w R (uN p) p (uN p * c)) 0))), (37, .row 9 (.slc 1 (rwL (uN p) (uwL w R (uN p) p (uN p * c)) (uN p + 1))))], fun s => (5 - slotN s 10).toNat, fun _ c => c ≤ 6, fun c => 6 - c⟩
 | 14 => some ⟨Nat × Nat, fun x => [(11, .d (.val (.int .i64 (((uN p : Nat) : Int) - (x.1 : Int)))))], fun x => [(7, .fix (b8 (rdA (uwL w R (uN p) p (uN p * x.2 + x.1)) 0))), (37, .row 9 (.slc 1 (rwL (uN p) (uwL w R (uN p) p (uN p * x.2 + x.1)) (uN p + 1))))],
   fun s => ((((uN p : Nat) : Int) - slotN s 11).toNat, (5 - slotN s 10).toNat), fun s x => x.1 ≤ uN p ∧ x.2 ≤ 5 ∧ 5 - (x.2 : Int) = slotN s 10, fun x => uN p - x.1⟩
 | 22 => some ⟨Nat, fun i => [(90, .d (i64n i)), (13, .d (.str (((uE w R p).drop 8).take (8 * i))))], fun _ => [], fun s => (slotN s 90).toNat, fun _ i => i ≤ uN p, fun i => uN p - i⟩
 | _ => none
--KEEP List.replicate HXor.hXor Go.Vg.eqB Go.Vg.opq boxP Go.Vg.gm Go.Vg.gpw Go.Vg.giv Go.Vg.rl8 Go.Vg.gbx Go.Vg.gux Go.Vg.gcl Go.Vg.gce Go.Vg.gub Go.Vg.gia Go.Vg.boxL Go.Vg.gax Go.Vg.gan Go.Vg.gsb Go.Vg.clm Go.Vg.red pwL okb sbI suI selL s4L adK colL eaL shL usL trL rowL adR mxR flW okW isB z16 enS enL deS deL okX shR usR Go.Vg.chunks z240 prL trn tuL wdL fwS fwL okN kexW kexR kexE boxU
--KEEP Go.Vg.cpL cnL rdA puA bWL lnB wsT usT wpL uwL icL w0L okWr okUn pf6 wN uN wE uE wrL wrE unL unE rwL lenP cnA cnN0
set_option maxRecDepth 100000 in
theorem vc96  (s : List Int) (F : D)  :
    (owed c96 (inv96 s) Try.f96 [.str s] F) = (
 (True ∧ (16 : Nat) ≠ (0 : Nat)) ∧
 (True ∧ (16 : Nat) ≠ (0 : Nat)) ∧
 True ∧
 (((AV.d (D.val (Value.int IntKind.i64 (0 : Int))) = AV.d (D.val (Value.int IntKind.i64 (↑(Int.toNat (0 : Int)) : Int))) ∧ True) ∧
 (sm (some (Blk.fix (D.arr IntKind.u8 (16 : Nat) [(0 : Int), (0 : Int), (0 : Int), (0 : Int), (0 : Int), (0 : Int), (0 : Int), (0 : Int), (0 : Int), (0 : Int), (0 : Int), (0 : Int), (0 : Int), (0 : Int), (0 : Int), (0 : Int)]))) ∧
 some (Blk.fix (D.arr IntKind.u8 (16 : Nat) [(0 : Int), (0 : Int), (0 : Int), (0 : Int), (0 : Int), (0 : Int), (0 : Int), (0 : Int), (0 : Int), (0 : Int), (0 : Int), (0 : Int), (0 : Int), (0 : Int), (0 : Int), (0 : Int)])) =
 some (Blk.fix (D.arr IntKind.u8 (16 : Nat) (List.take (Int.toNat (0 : Int)) s ++ [(0 : Int), (0 : Int), (0 : Int), (0 : Int), (0 : Int), (0 : Int), (0 : Int), (0 : Int), (0 : Int), (0 : Int), (0 : Int), (0 : Int), (0 : Int), (0 : Int), (0 : Int), (0 : Int)]))) ∧
 True) ∧
 true = true) ∧
 Int.toNat (0 : Int) ≤ (16 : Nat)) ∧
 ∀ (x : Nat),
 x ≤ (16 : Nat) →
 true = true ∧
 True ∧
 match decide ((↑x : Int) < (16 : Int)) with
 | true =>
  True ∧
  True ∧
  True ∧
  True ∧
  True ∧
  ((0 : Int) ≤ (↑x : Int) ∧ (↑x : Int) < (↑s.length : Int)) ∧
  ((0 : Int) ≤ (↑x : Int) ∧ (↑x : Int) < (↑(16 : Nat) : Int) ∧ (16 : Nat) = (16 : Nat) ∧ (1 : Nat) = (1 : Nat)) ∧
  (((↑x : Int).toNat < (16 : Nat) ∧ ([] : List Nat) = [] ∧ true = true) ∧ (1 : Nat) ≠ (0 : Nat) ∧ (1 : Nat) = (1 : Nat) ∧ false = false) ∧
  True ∧
  True ∧
  ((AV.d (D.val (Value.int IntKind.i64 (IntKind.i64.wrap ((↑x : Int) + (1 : Int))))) = AV.d (D.val (Value.int IntKind.i64 (↑(IntKind.i64.wrap ((↑x : Int) + (1 : Int))).toNat : Int))) ∧ True) ∧
  (sm (some (Blk.fix (D.arr IntKind.u8 (16 : Nat) [(0 : Int), (0 : Int), (0 : Int), (0 : Int), (0 : Int), (0 : Int), (0 : Int), (0 : Int), (0 : Int), (0 : Int), (0 : Int), (0 : Int), (0 : Int), (0 : Int), (0 : Int), (0 : Int)]))) ∧
  some (Blk.fix (D.arr IntKind.u8 (16 : Nat) ((List.take x s ++ List.replicate ((16 : Nat) - x) (0 : Int)).set (↑x : Int).toNat (s.getD (↑x : Int).toNat (0 : Int))))) =
  some (Blk.fix (D.arr IntKind.u8 (16 : Nat) (List.take (IntKind.i64.wrap ((↑x : Int) + (1 : Int))).toNat s ++ List.replicate ((16 : Nat) - (IntKind.i64.wrap ((↑x : Int) + (1 : Int))).toNat) (0 : Int)))) ∧
  True) ∧
  true = true) ∧
  (IntKind.i64.wrap ((↑x : Int) + (1 : Int))).toNat ≤ (16 : Nat) ∧ (16 : Nat) - (IntKind.i64.wrap ((↑x : Int) + (1 : Int))).toNat < (16 : Nat) - x
 | false => ((16 : Nat) ≠ (0 : Nat) ∧ (16 : Nat) = (16 : Nat) ∧ true = true) ∧ (Sk.arr (16 : Nat) = Sk.arr (16 : Nat) ∧ (16 : Nat) ≠ (0 : Nat) ∧ (16 : Nat) = (16 : Nat) ∧ false = false) ∧ (((16 : Nat) ≠ (0 : Nat) ∧ (16 : Nat) = (16 : Nat) ∧ true = true) ∧ True) ∧ D.arr IntKind.u8 (16 : Nat) (List.take x s ++ List.replicate ((16 : Nat) - x) (0 : Int)) = F) := by kernel_rfl
set_option maxRecDepth 100000 in
theorem vc99  (s : List Int) (F : D)  :
    (owed c96 (inv99 s) Try.f99 [.str s] F) = (
 (True ∧ (8 : Nat) ≠ (0 : Nat)) ∧
 (True ∧ (8 : Nat) ≠ (0 : Nat)) ∧
 True ∧
 (((AV.d (D.val (Value.int IntKind.i64 (0 : Int))) = AV.d (D.val (Value.int IntKind.i64 (↑(Int.toNat (0 : Int)) : Int))) ∧ True) ∧
 (sm (some (Blk.fix (D.arr IntKind.u8 (8 : Nat) [(0 : Int), (0 : Int), (0 : Int), (0 : Int), (0 : Int), (0 : Int), (0 : Int), (0 : Int)]))) ∧
 some (Blk.fix (D.arr IntKind.u8 (8 : Nat) [(0 : Int), (0 : Int), (0 : Int), (0 : Int), (0 : Int), (0 : Int), (0 : Int), (0 : Int)])) = some (Blk.fix (D.arr IntKind.u8 (8 : Nat) (List.take (Int.toNat (0 : Int)) s ++ [(0 : Int), (0 : Int), (0 : Int), (0 : Int), (0 : Int), (0 : Int), (0 : Int), (0 : Int)]))) ∧ True) ∧
 true = true) ∧
 Int.toNat (0 : Int) ≤ (8 : Nat)) ∧
 ∀ (x : Nat),
 x ≤ (8 : Nat) →
 true = true ∧
 True ∧
 match decide ((↑x : Int) < (8 : Int)) with
 | true =>
  True ∧
  True ∧
  True ∧
  True ∧
  True ∧
  ((0 : Int) ≤ (↑x : Int) ∧ (↑x : Int) < (↑s.length : Int)) ∧
  ((0 : Int) ≤ (↑x : Int) ∧ (↑x : Int) < (↑(8 : Nat) : Int) ∧ (8 : Nat) = (8 : Nat) ∧ (1 : Nat) = (1 : Nat)) ∧
  (((↑x : Int).toNat < (8 : Nat) ∧ ([] : List Nat) = [] ∧ true = true) ∧ (1 : Nat) ≠ (0 : Nat) ∧ (1 : Nat) = (1 : Nat) ∧ false = false) ∧
  True ∧
  True ∧
  ((AV.d (D.val (Value.int IntKind.i64 (IntKind.i64.wrap ((↑x : Int) + (1 : Int))))) = AV.d (D.val (Value.int IntKind.i64 (↑(IntKind.i64.wrap ((↑x : Int) + (1 : Int))).toNat : Int))) ∧ True) ∧
  (sm (some (Blk.fix (D.arr IntKind.u8 (8 : Nat) [(0 : Int), (0 : Int), (0 : Int), (0 : Int), (0 : Int), (0 : Int), (0 : Int), (0 : Int)]))) ∧
  some (Blk.fix (D.arr IntKind.u8 (8 : Nat) ((List.take x s ++ List.replicate ((8 : Nat) - x) (0 : Int)).set (↑x : Int).toNat (s.getD (↑x : Int).toNat (0 : Int))))) =
  some (Blk.fix (D.arr IntKind.u8 (8 : Nat) (List.take (IntKind.i64.wrap ((↑x : Int) + (1 : Int))).toNat s ++ List.replicate ((8 : Nat) - (IntKind.i64.wrap ((↑x : Int) + (1 : Int))).toNat) (0 : Int)))) ∧
  True) ∧
  true = true) ∧
  (IntKind.i64.wrap ((↑x : Int) + (1 : Int))).toNat ≤ (8 : Nat) ∧ (8 : Nat) - (IntKind.i64.wrap ((↑x : Int) + (1 : Int))).toNat < (8 : Nat) - x
 | false => ((8 : Nat) ≠ (0 : Nat) ∧ (8 : Nat) = (8 : Nat) ∧ true = true) ∧ (Sk.arr (8 : Nat) = Sk.arr (8 : Nat) ∧ (8 : Nat) ≠ (0 : Nat) ∧ (8 : Nat) = (8 : Nat) ∧ false = false) ∧ (((8 : Nat) ≠ (0 : Nat) ∧ (8 : Nat) = (8 : Nat) ∧ true = true) ∧ True) ∧ D.arr IntKind.u8 (8 : Nat) (List.take x s ++ List.replicate ((8 : Nat) - x) (0 : Int)) = F) := by kernel_rfl
set_option maxRecDepth 100000 in
theorem vc98  (a : List Int) (t : Nat) (F : D)  :
    (owed c96 (inv98 a t) Try.f98 [b8 a, i64n t] F) = (
 (True ∧ false = false) ∧
 (True ∧ (8 : Nat) ≠ (0 : Nat)) ∧
 True ∧
 (((AV.d (D.val (Value.int IntKind.i64 (7 : Int))) = AV.d (D.val (Value.int IntKind.i64 ((7 : Int) - (↑((7 : Int) - (7 : Int)).toNat : Int)))) ∧ AV.d (D.val (Value.int IntKind.i64 (↑t : Int))) = AV.d (D.val (Value.int IntKind.i64 (↑(cnN0 t ((7 : Int) - (7 : Int)).toNat) : Int))) ∧ True) ∧
 (some (Blk.fix (D.arr IntKind.u8 (8 : Nat) a)) = some (Blk.fix (D.arr IntKind.u8 (8 : Nat) (cnA a t ((7 : Int) - (7 : Int)).toNat))) ∧ sm (some (Blk.fix (D.arr IntKind.u8 (8 : Nat) [(0 : Int), (0 : Int), (0 : Int), (0 : Int), (0 : Int), (0 : Int), (0 : Int), (0 : Int)]))) ∧ True) ∧ true = true) ∧
 ((7 : Int) - (7 : Int)).toNat ≤ (8 : Nat)) ∧
 ∀ (x : Nat),
 x ≤ (8 : Nat) →
 true = true ∧
 True ∧
 True ∧
 match decide ((7 : Int) - (↑x : Int) ≥ (0 : Int)) with
 | true =>
  True ∧
  ((0 : Int) ≤ (7 : Int) - (↑x : Int) ∧ (7 : Int) - (↑x : Int) < (↑(8 : Nat) : Int) ∧ (8 : Nat) = (8 : Nat) ∧ (1 : Nat) = (1 : Nat)) ∧
  ((1 : Nat) ≠ (0 : Nat) ∧ (1 : Nat) = (1 : Nat) ∧ false = false) ∧
  True ∧
  (256 : Int) ≠ (0 : Int) ∧
  True ∧
  True ∧
  ((0 : Int) ≤ (7 : Int) - (↑x : Int) ∧ (7 : Int) - (↑x : Int) < (↑(8 : Nat) : Int) ∧ (8 : Nat) = (8 : Nat) ∧ (1 : Nat) = (1 : Nat)) ∧
  ((((7 : Int) - (↑x : Int)).toNat < (8 : Nat) ∧ ([] : List Nat) = [] ∧ true = true) ∧ (1 : Nat) ≠ (0 : Nat) ∧ (1 : Nat) = (1 : Nat) ∧ false = false) ∧
  True ∧
  (256 : Int) ≠ (0 : Int) ∧
  True ∧
  True ∧
  True ∧
  True ∧
  ((AV.d (D.val (Value.int IntKind.i64 (IntKind.i64.wrap ((7 : Int) - (↑x : Int) - (1 : Int))))) = AV.d (D.val (Value.int IntKind.i64 ((7 : Int) - (↑((7 : Int) - IntKind.i64.wrap ((7 : Int) - (↑x : Int) - (1 : Int))).toNat : Int)))) ∧
  AV.d (D.val (Value.int IntKind.i64 (IntKind.i64.wrap ((↑(cnN0 t x) : Int).tdiv (256 : Int))))) = AV.d (D.val (Value.int IntKind.i64 (↑(cnN0 t ((7 : Int) - IntKind.i64.wrap ((7 : Int) - (↑x : Int) - (1 : Int))).toNat) : Int))) ∧ True) ∧
  (some (Blk.fix (D.arr IntKind.u8 (8 : Nat) ((cnA a t x).set ((7 : Int) - (↑x : Int)).toNat (ixor IntKind.u8 ((cnA a t x).getD ((7 : Int) - (↑x : Int)).toNat (0 : Int)) (IntKind.u8.wrap ((↑(cnN0 t x) : Int).tmod (256 : Int))))))) =
  some (Blk.fix (D.arr IntKind.u8 (8 : Nat) (cnA a t ((7 : Int) - IntKind.i64.wrap ((7 : Int) - (↑x : Int) - (1 : Int))).toNat))) ∧
  sm (some (Blk.fix (D.arr IntKind.u8 (8 : Nat) [(0 : Int), (0 : Int), (0 : Int), (0 : Int), (0 : Int), (0 : Int), (0 : Int), (0 : Int)]))) ∧ True) ∧
  true = true) ∧
  ((7 : Int) - IntKind.i64.wrap ((7 : Int) - (↑x : Int) - (1 : Int))).toNat ≤ (8 : Nat) ∧ (8 : Nat) - ((7 : Int) - IntKind.i64.wrap ((7 : Int) - (↑x : Int) - (1 : Int))).toNat < (8 : Nat) - x
 | false => ((8 : Nat) ≠ (0 : Nat) ∧ (8 : Nat) = (8 : Nat) ∧ true = true) ∧ (Sk.arr (8 : Nat) = Sk.arr (8 : Nat) ∧ (8 : Nat) ≠ (0 : Nat) ∧ (8 : Nat) = (8 : Nat) ∧ false = false) ∧ (((8 : Nat) ≠ (0 : Nat) ∧ (8 : Nat) = (8 : Nat) ∧ true = true) ∧ True) ∧ D.arr IntKind.u8 (8 : Nat) (cnA a t x) = F) := by kernel_rfl
set_option maxRecDepth 100000 in
theorem vc33  (w : List Int) (R : Nat) (p : List Int) (F : D)  :
    (owed c33 (inv33 w R p) Try.f33 [keyD w ((R : Nat) : Int), .ints .u8 p] F) = (
 (True ∧ false = false) ∧
 True ∧
 True ∧
 True ∧
 True ∧
 (8 : Int) ≠ (0 : Int) ∧
 True ∧
 True ∧
 match (↑p.length : Int).tmod (8 : Int) != (0 : Int) with
 | true => True ∧ True ∧ True ∧ True ∧ True ∧ (false = false ∧ false = false ∧ True) ∧ D.tup [D.ints IntKind.u8 [], D.val (Value.int IntKind.i64 (1 : Int))] = F
 | false =>
  True ∧
  True ∧
  True ∧
  True ∧
  True ∧
  match decide ((↑p.length : Int) < (16 : Int)) with
  | true => True ∧ True ∧ True ∧ (false = false ∧ false = false ∧ True) ∧ D.tup [D.ints IntKind.u8 [], D.val (Value.int IntKind.i64 (1 : Int))] = F
  | false =>
   True ∧
   True ∧
   True ∧
   True ∧
   match decide ((↑p.length : Int) > (64 : Int)) with
   | true => True ∧ True ∧ (false = false ∧ false = false ∧ True) ∧ D.tup [D.ints IntKind.u8 [], D.val (Value.int IntKind.i64 (1 : Int))] = F
   | false =>
    True ∧
    True ∧
    True ∧
    ((0 : Int) ≤ (8 : Int) ∧ (8 : Int) ≤ IntKind.i64.wrap ((8 : Int) + (↑p.length : Int)) ∧ IntKind.i64.wrap ((8 : Int) + (↑p.length : Int)) ≤ (281474976710656 : Int) ∧ (↑(1 : Nat) : Int) * IntKind.i64.wrap ((8 : Int) + (↑p.length : Int)) ≤ (281474976710656 : Int) ∧ (1 : Nat) = (1 : Nat)) ∧
    True ∧
    ((5 : TypeId) = (5 : TypeId) ∧
    (25 : Nat) = (25 : Nat) ∧
    true = true ∧
    ((0 : Int) :: (0 : Int) :: (0 : Int) :: (0 : Int) :: (0 : Int) :: (0 : Int) :: (0 : Int) :: (0 : Int) :: p).length ≤ (140737488355328 : Nat) ∧
    ((0 : Int) :: (0 : Int) :: (0 : Int) :: (0 : Int) :: (0 : Int) :: (0 : Int) :: (0 : Int) :: (0 : Int) :: p).length * (1 : Nat) ≤ (140737488355328 : Nat) ∧ (1 : Nat) ≠ (0 : Nat) ∧ (1 : Nat) = (1 : Nat)) ∧
    True ∧
    True ∧
    (((sm (AV.d (D.st [D.arr IntKind.u8 (240 : Nat) w, D.val (Value.int IntKind.i64 (↑R : Int))])) ∧
    sm (AV.d (D.ints IntKind.u8 p)) ∧
    sm (AV.ptr (2 : Nat) []) ∧
    sm (AV.d (D.val (Value.slice none (0 : Nat) (0 : Nat)))) ∧
    sm (AV.d (D.val (Value.int IntKind.i64 (0 : Int)))) ∧
    sm (AV.row (29 : Nat)) ∧
    sm (AV.d (D.ints IntKind.u8 p)) ∧
    sm (AV.d (D.val (Value.int IntKind.i64 (↑p.length : Int)))) ∧
    sm (AV.d (D.val (Value.int IntKind.i64 ((↑p.length : Int).tmod (8 : Int))))) ∧
    sm (AV.d (D.val (Value.bool ((↑p.length : Int).tmod (8 : Int) != (0 : Int))))) ∧
    sm (AV.d (D.val (Value.bool false))) ∧
    sm (AV.d (D.ints IntKind.u8 p)) ∧
    sm (AV.d (D.val (Value.int IntKind.i64 (↑p.length : Int)))) ∧
    sm (AV.d (D.val (Value.bool (decide ((↑p.length : Int) < (16 : Int)))))) ∧
    sm (AV.d (D.val (Value.bool (decide ((↑p.length : Int) < (16 : Int)))))) ∧
    sm (AV.d (D.val (Value.bool false))) ∧
    sm (AV.d (D.ints IntKind.u8 p)) ∧
    sm (AV.d (D.val (Value.int IntKind.i64 (↑p.length : Int)))) ∧
    sm (AV.d (D.val (Value.bool (decide ((↑p.length : Int) > (64 : Int)))))) ∧
    sm (AV.d (D.val (Value.bool (decide ((↑p.length : Int) > (64 : Int)))))) ∧
    sm (AV.d (D.ints IntKind.u8 p)) ∧
    sm (AV.d (D.val (Value.int IntKind.i64 (↑p.length : Int)))) ∧
    sm (AV.d (D.val (Value.int IntKind.i64 (IntKind.i64.wrap ((8 : Int) + (↑p.length : Int)))))) ∧ sm (AV.d (D.ints IntKind.u8 p)) ∧ sm (AV.row (29 : Nat)) ∧ AV.d (D.val (Value.int IntKind.i64 (0 : Int))) = AV.d (D.val (Value.int IntKind.i64 (↑(Int.toNat (0 : Int)) : Int))) ∧ True) ∧
    (sm (some (Blk.fix (D.st [D.arr IntKind.u8 (240 : Nat) w, D.val (Value.int IntKind.i64 (↑R : Int))]))) ∧
    some (Blk.row (5 : TypeId) (D.ints IntKind.u8 ((0 : Int) :: (0 : Int) :: (0 : Int) :: (0 : Int) :: (0 : Int) :: (0 : Int) :: (0 : Int) :: (0 : Int) :: p))) = some (Blk.row (5 : TypeId) (D.ints IntKind.u8 (icL (Int.toNat (0 : Int)) p))) ∧ True) ∧
    true = true) ∧
    Int.toNat (0 : Int) ≤ (8 : Nat)) ∧
    ∀ (x : Nat),
    x ≤ (8 : Nat) →
    true = true ∧
    True ∧
    match decide ((↑x : Int) < (8 : Int)) with
    | true =>
     True ∧
     True ∧
     True ∧
     True ∧
     ((0 : Int) ≤ (↑x : Int) ∧ (↑x : Int) < (↑(icL x p).length : Int) ∧ (1 : Nat) = (1 : Nat)) ∧
     ((↑x : Int).toNat < (icL x p).length ∧ IntKind.u8 = IntKind.u8 ∧ (1 : Nat) = (1 : Nat)) ∧
     True ∧
     True ∧
     ((sm (AV.d (D.st [D.arr IntKind.u8 (240 : Nat) w, D.val (Value.int IntKind.i64 (↑R : Int))])) ∧
     sm (AV.d (D.ints IntKind.u8 p)) ∧
     sm (AV.ptr (2 : Nat) []) ∧
     sm (AV.d (D.val (Value.slice none (0 : Nat) (0 : Nat)))) ∧
     sm (AV.d (D.val (Value.int IntKind.i64 (0 : Int)))) ∧
     sm (AV.row (29 : Nat)) ∧
     sm (AV.d (D.ints IntKind.u8 p)) ∧
     sm (AV.d (D.val (Value.int IntKind.i64 (↑p.length : Int)))) ∧
     sm (AV.d (D.val (Value.int IntKind.i64 ((↑p.length : Int).tmod (8 : Int))))) ∧
     sm (AV.d (D.val (Value.bool ((↑p.length : Int).tmod (8 : Int) != (0 : Int))))) ∧
     sm (AV.d (D.val (Value.bool false))) ∧
     sm (AV.d (D.ints IntKind.u8 p)) ∧
     sm (AV.d (D.val (Value.int IntKind.i64 (↑p.length : Int)))) ∧
     sm (AV.d (D.val (Value.bool (decide ((↑p.length : Int) < (16 : Int)))))) ∧
     sm (AV.d (D.val (Value.bool (decide ((↑p.length : Int) < (16 : Int)))))) ∧
     sm (AV.d (D.val (Value.bool false))) ∧
     sm (AV.d (D.ints IntKind.u8 p)) ∧
     sm (AV.d (D.val (Value.int IntKind.i64 (↑p.length : Int)))) ∧
     sm (AV.d (D.val (Value.bool (decide ((↑p.length : Int) > (64 : Int)))))) ∧
     sm (AV.d (D.val (Value.bool (decide ((↑p.length : Int) > (64 : Int)))))) ∧
     sm (AV.d (D.ints IntKind.u8 p)) ∧
     sm (AV.d (D.val (Value.int IntKind.i64 (↑p.length : Int)))) ∧
     sm (AV.d (D.val (Value.int IntKind.i64 (IntKind.i64.wrap ((8 : Int) + (↑p.length : Int)))))) ∧
     sm (AV.d (D.ints IntKind.u8 p)) ∧ sm (AV.row (29 : Nat)) ∧ AV.d (D.val (Value.int IntKind.i64 (IntKind.i64.wrap ((↑x : Int) + (1 : Int))))) = AV.d (D.val (Value.int IntKind.i64 (↑(IntKind.i64.wrap ((↑x : Int) + (1 : Int))).toNat : Int))) ∧ True) ∧
     (sm (some (Blk.fix (D.st [D.arr IntKind.u8 (240 : Nat) w, D.val (Value.int IntKind.i64 (↑R : Int))]))) ∧
     some (Blk.row (5 : TypeId) (D.ints IntKind.u8 ((icL x p).set (↑x : Int).toNat (166 : Int)))) = some (Blk.row (5 : TypeId) (D.ints IntKind.u8 (icL (IntKind.i64.wrap ((↑x : Int) + (1 : Int))).toNat p))) ∧ True) ∧
     true = true) ∧
     (IntKind.i64.wrap ((↑x : Int) + (1 : Int))).toNat ≤ (8 : Nat) ∧ (8 : Nat) - (IntKind.i64.wrap ((↑x : Int) + (1 : Int))).toNat < (8 : Nat) - x
    | false =>
     True ∧
     True ∧
     (8 : Int) ≠ (0 : Int) ∧
     True ∧
     True ∧
     (((sm (AV.d (D.st [D.arr IntKind.u8 (240 : Nat) w, D.val (Value.int IntKind.i64 (↑R : Int))])) ∧
     sm (AV.d (D.ints IntKind.u8 p)) ∧
     sm (AV.ptr (2 : Nat) []) ∧
     sm (AV.d (D.val (Value.slice none (0 : Nat) (0 : Nat)))) ∧
     sm (AV.d (D.val (Value.int IntKind.i64 (0 : Int)))) ∧
     sm (AV.row (29 : Nat)) ∧
     sm (AV.d (D.val (Value.int IntKind.i64 (IntKind.i64.wrap ((↑p.length : Int).tdiv (8 : Int)))))) ∧
     AV.d (D.val (Value.int IntKind.i64 (1 : Int))) = AV.d (D.val (Value.int IntKind.i64 (↑(1 : Nat) : Int))) ∧
     sm (AV.d (D.ints IntKind.u8 p)) ∧
     sm (AV.d (D.val (Value.int IntKind.i64 (↑p.length : Int)))) ∧
     sm (AV.d (D.val (Value.int IntKind.i64 ((↑p.length : Int).tmod (8 : Int))))) ∧
     sm (AV.d (D.val (Value.bool ((↑p.length : Int).tmod (8 : Int) != (0 : Int))))) ∧
     sm (AV.d (D.val (Value.bool false))) ∧
     sm (AV.d (D.ints IntKind.u8 p)) ∧
     sm (AV.d (D.val (Value.int IntKind.i64 (↑p.length : Int)))) ∧
     sm (AV.d (D.val (Value.bool (decide ((↑p.length : Int) < (16 : Int)))))) ∧
     sm (AV.d (D.val (Value.bool (decide ((↑p.length : Int) < (16 : Int)))))) ∧
     sm (AV.d (D.val (Value.bool false))) ∧
     sm (AV.d (D.ints IntKind.u8 p)) ∧
     sm (AV.d (D.val (Value.int IntKind.i64 (↑p.length : Int)))) ∧
     sm (AV.d (D.val (Value.bool (decide ((↑p.length : Int) > (64 : Int)))))) ∧
     sm (AV.d (D.val (Value.bool (decide ((↑p.length : Int) > (64 : Int)))))) ∧
     sm (AV.d (D.ints IntKind.u8 p)) ∧
     sm (AV.d (D.val (Value.int IntKind.i64 (↑p.length : Int)))) ∧
     sm (AV.d (D.val (Value.int IntKind.i64 (IntKind.i64.wrap ((8 : Int) + (↑p.length : Int)))))) ∧
     sm (AV.d (D.ints IntKind.u8 p)) ∧
     sm (AV.row (29 : Nat)) ∧
     sm (AV.d (D.val (Value.int IntKind.i64 (↑x : Int)))) ∧
     sm (AV.d (D.val (Value.bool (decide ((↑x : Int) < (8 : Int)))))) ∧
     sm (AV.d (D.ints IntKind.u8 p)) ∧ sm (AV.d (D.val (Value.int IntKind.i64 (↑p.length : Int)))) ∧ sm (AV.d (D.val (Value.int IntKind.i64 (IntKind.i64.wrap ((↑p.length : Int).tdiv (8 : Int)))))) ∧ True) ∧
     (sm (some (Blk.fix (D.st [D.arr IntKind.u8 (240 : Nat) w, D.val (Value.int IntKind.i64 (↑R : Int))]))) ∧ some (Blk.row (5 : TypeId) (D.ints IntKind.u8 (icL x p))) = some (Blk.row (5 : TypeId) (D.ints IntKind.u8 (wpL w R (wN p) (w0L p) ((1 : Nat) - (1 : Nat))))) ∧ True) ∧ true = true) ∧
     (1 : Nat) - (1 : Nat) ≤ (6 : Nat) * wN p) ∧
     ∀ (x_1 : Nat),
     x_1 ≤ (6 : Nat) * wN p →
     true = true ∧
     True ∧
     True ∧
     True ∧
     True ∧
     match decide ((↑(x_1 + (1 : Nat)) : Int) ≤ IntKind.i64.wrap ((6 : Int) * IntKind.i64.wrap ((↑p.length : Int).tdiv (8 : Int)))) with
     | true =>
      True ∧
      True ∧
      True ∧
      IntKind.i64.wrap ((↑p.length : Int).tdiv (8 : Int)) ≠ (0 : Int) ∧
      True ∧
      True ∧
      True ∧
      (True ∧ (16 : Nat) ≠ (0 : Nat)) ∧
      ((0 : Int) ≤ (0 : Int) ∧ (0 : Int) ≤ (8 : Int) ∧ (8 : Int) ≤ (↑(16 : Nat) : Int) ∧ (16 : Nat) = (16 : Nat) ∧ (1 : Nat) = (1 : Nat)) ∧
      True ∧
      (IntKind.u8 = IntKind.u8 ∧ (1 : Nat) = (1 : Nat)) ∧
      ((0 : Int) ≤ (8 : Int) ∧ (8 : Int) ≤ (↑(16 : Nat) : Int) ∧ (↑(16 : Nat) : Int) ≤ (↑(16 : Nat) : Int) ∧ (16 : Nat) = (16 : Nat) ∧ (1 : Nat) = (1 : Nat)) ∧
      True ∧
      True ∧
      ((0 : Int) ≤ IntKind.i64.wrap (IntKind.i64.wrap ((IntKind.i64.wrap ((↑(x_1 + (1 : Nat)) : Int) - (1 : Int))).tmod (IntKind.i64.wrap ((↑p.length : Int).tdiv (8 : Int))) + (1 : Int)) * (8 : Int)) ∧
      IntKind.i64.wrap (IntKind.i64.wrap ((IntKind.i64.wrap ((↑(x_1 + (1 : Nat)) : Int) - (1 : Int))).tmod (IntKind.i64.wrap ((↑p.length : Int).tdiv (8 : Int))) + (1 : Int)) * (8 : Int)) ≤ (↑(wpL w R (wN p) (w0L p) x_1).length : Int) ∧
      (↑(wpL w R (wN p) (w0L p) x_1).length : Int) ≤ (↑(wpL w R (wN p) (w0L p) x_1).length : Int) ∧ (1 : Nat) ≠ (0 : Nat) ∧ (1 : Nat) = (1 : Nat)) ∧
      (IntKind.u8 = IntKind.u8 ∧ (1 : Nat) = (1 : Nat)) ∧
      ((241 : Nat) ≠ (0 : Nat) ∧ (241 : Nat) = (241 : Nat) ∧ true = true) ∧
      ((16 : Nat) ≠ (0 : Nat) ∧ (16 : Nat) = (16 : Nat) ∧ true = true) ∧
      (∃ (w_1 : List Int),
      ∃ (R_1 : Nat),
      ∃ (b : List Int),
      [D.st [D.arr IntKind.u8 (240 : Nat) w, D.val (Value.int IntKind.i64 (↑R : Int))],
      D.arr IntKind.u8 (16 : Nat)
      (cpL (cpL [(0 : Int), (0 : Int), (0 : Int), (0 : Int), (0 : Int), (0 : Int), (0 : Int), (0 : Int), (0 : Int), (0 : Int), (0 : Int), (0 : Int), (0 : Int), (0 : Int), (0 : Int), (0 : Int)] (0 : Nat) (wpL w R (wN p) (w0L p) x_1) (8 : Nat)) (8 : Nat)
      (List.take
      ((↑(wpL w R (wN p) (w0L p) x_1).length : Int).toNat - (IntKind.i64.wrap (IntKind.i64.wrap ((IntKind.i64.wrap ((↑(x_1 + (1 : Nat)) : Int) - (1 : Int))).tmod (IntKind.i64.wrap ((↑p.length : Int).tdiv (8 : Int))) + (1 : Int)) * (8 : Int))).toNat)
      (List.drop (IntKind.i64.wrap (IntKind.i64.wrap ((IntKind.i64.wrap ((↑(x_1 + (1 : Nat)) : Int) - (1 : Int))).tmod (IntKind.i64.wrap ((↑p.length : Int).tdiv (8 : Int))) + (1 : Int)) * (8 : Int))).toNat (wpL w R (wN p) (w0L p) x_1)))
      ((↑(16 : Nat) : Int).toNat - (8 : Nat)))] =
      [D.st [D.arr IntKind.u8 (240 : Nat) w_1, D.val (Value.int IntKind.i64 (↑R_1 : Int))], D.arr IntKind.u8 (16 : Nat) b] ∧
      isB (240 : Nat) w_1 ∧ isB (16 : Nat) b ∧ R_1 ≤ (14 : Nat)) ∧
      (Sk.arr (16 : Nat) = Sk.arr (16 : Nat) ∧ (16 : Nat) ≠ (0 : Nat) ∧ (16 : Nat) = (16 : Nat) ∧ false = false) ∧
      ((0 : Int) ≤ (7 : Int) ∧ (7 : Int) < (↑(16 : Nat) : Int) ∧ (16 : Nat) = (16 : Nat) ∧ (1 : Nat) = (1 : Nat)) ∧
      ((1 : Nat) ≠ (0 : Nat) ∧ (1 : Nat) = (1 : Nat) ∧ false = false) ∧
      True ∧
      True ∧
      True ∧
      ((0 : Int) ≤ (7 : Int) ∧ (7 : Int) < (↑(16 : Nat) : Int) ∧ (16 : Nat) = (16 : Nat) ∧ (1 : Nat) = (1 : Nat)) ∧
      (((7 : Nat) < (16 : Nat) ∧ ([] : List Nat) = [] ∧ true = true) ∧ (1 : Nat) ≠ (0 : Nat) ∧ (1 : Nat) = (1 : Nat) ∧ false = false) ∧
      True ∧
      ((0 : Int) ≤ (0 : Int) ∧ (0 : Int) ≤ (8 : Int) ∧ (8 : Int) ≤ (↑(16 : Nat) : Int) ∧ (16 : Nat) = (16 : Nat) ∧ (1 : Nat) = (1 : Nat)) ∧
      (IntKind.u8 = IntKind.u8 ∧ (1 : Nat) = (1 : Nat)) ∧
      True ∧
      True ∧
      ((0 : Int) ≤ IntKind.i64.wrap (IntKind.i64.wrap ((IntKind.i64.wrap ((↑(x_1 + (1 : Nat)) : Int) - (1 : Int))).tmod (IntKind.i64.wrap ((↑p.length : Int).tdiv (8 : Int))) + (1 : Int)) * (8 : Int)) ∧
      IntKind.i64.wrap (IntKind.i64.wrap ((IntKind.i64.wrap ((↑(x_1 + (1 : Nat)) : Int) - (1 : Int))).tmod (IntKind.i64.wrap ((↑p.length : Int).tdiv (8 : Int))) + (1 : Int)) * (8 : Int)) ≤
      (↑(cpL (wpL w R (wN p) (w0L p) x_1) (0 : Nat)
      (List.take (8 : Nat)
      (List.drop (0 : Nat)
      ((enL w (↑R : Int).toNat
      (cpL
      (cpL [(0 : Int), (0 : Int), (0 : Int), (0 : Int), (0 : Int), (0 : Int), (0 : Int), (0 : Int), (0 : Int), (0 : Int), (0 : Int), (0 : Int), (0 : Int), (0 : Int), (0 : Int), (0 : Int)] (0 : Nat)
      (wpL w R (wN p) (w0L p) x_1) (8 : Nat))
      (8 : Nat)
      (List.take
      ((↑(wpL w R (wN p) (w0L p) x_1).length : Int).toNat -
      (IntKind.i64.wrap (IntKind.i64.wrap ((IntKind.i64.wrap ((↑(x_1 + (1 : Nat)) : Int) - (1 : Int))).tmod (IntKind.i64.wrap ((↑p.length : Int).tdiv (8 : Int))) + (1 : Int)) * (8 : Int))).toNat)
      (List.drop (IntKind.i64.wrap (IntKind.i64.wrap ((IntKind.i64.wrap ((↑(x_1 + (1 : Nat)) : Int) - (1 : Int))).tmod (IntKind.i64.wrap ((↑p.length : Int).tdiv (8 : Int))) + (1 : Int)) * (8 : Int))).toNat
      (wpL w R (wN p) (w0L p) x_1)))
      ((↑(16 : Nat) : Int).toNat - (8 : Nat)))).set
      (7 : Nat)
      (ixor IntKind.u8
      ((enL w (↑R : Int).toNat
      (cpL
      (cpL [(0 : Int), (0 : Int), (0 : Int), (0 : Int), (0 : Int), (0 : Int), (0 : Int), (0 : Int), (0 : Int), (0 : Int), (0 : Int), (0 : Int), (0 : Int), (0 : Int), (0 : Int), (0 : Int)] (0 : Nat)
      (wpL w R (wN p) (w0L p) x_1) (8 : Nat))
      (8 : Nat)
      (List.take
      ((↑(wpL w R (wN p) (w0L p) x_1).length : Int).toNat -
      (IntKind.i64.wrap (IntKind.i64.wrap ((IntKind.i64.wrap ((↑(x_1 + (1 : Nat)) : Int) - (1 : Int))).tmod (IntKind.i64.wrap ((↑p.length : Int).tdiv (8 : Int))) + (1 : Int)) * (8 : Int))).toNat)
      (List.drop (IntKind.i64.wrap (IntKind.i64.wrap ((IntKind.i64.wrap ((↑(x_1 + (1 : Nat)) : Int) - (1 : Int))).tmod (IntKind.i64.wrap ((↑p.length : Int).tdiv (8 : Int))) + (1 : Int)) * (8 : Int))).toNat
      (wpL w R (wN p) (w0L p) x_1)))
      ((↑(16 : Nat) : Int).toNat - (8 : Nat)))).getD
      (7 : Nat) (0 : Int))
      (IntKind.u8.wrap (↑(x_1 + (1 : Nat)) : Int))))))
      (wpL w R (wN p) (w0L p) x_1).length).length :
      Int) ∧
      (↑(cpL (wpL w R (wN p) (w0L p) x_1) (0 : Nat)
      (List.take (8 : Nat)
      (List.drop (0 : Nat)
      ((enL w (↑R : Int).toNat
      (cpL
      (cpL [(0 : Int), (0 : Int), (0 : Int), (0 : Int), (0 : Int), (0 : Int), (0 : Int), (0 : Int), (0 : Int), (0 : Int), (0 : Int), (0 : Int), (0 : Int), (0 : Int), (0 : Int), (0 : Int)] (0 : Nat)
      (wpL w R (wN p) (w0L p) x_1) (8 : Nat))
      (8 : Nat)
      (List.take
      ((↑(wpL w R (wN p) (w0L p) x_1).length : Int).toNat -
      (IntKind.i64.wrap (IntKind.i64.wrap ((IntKind.i64.wrap ((↑(x_1 + (1 : Nat)) : Int) - (1 : Int))).tmod (IntKind.i64.wrap ((↑p.length : Int).tdiv (8 : Int))) + (1 : Int)) * (8 : Int))).toNat)
      (List.drop (IntKind.i64.wrap (IntKind.i64.wrap ((IntKind.i64.wrap ((↑(x_1 + (1 : Nat)) : Int) - (1 : Int))).tmod (IntKind.i64.wrap ((↑p.length : Int).tdiv (8 : Int))) + (1 : Int)) * (8 : Int))).toNat
      (wpL w R (wN p) (w0L p) x_1)))
      ((↑(16 : Nat) : Int).toNat - (8 : Nat)))).set
      (7 : Nat)
      (ixor IntKind.u8
      ((enL w (↑R : Int).toNat
      (cpL
      (cpL [(0 : Int), (0 : Int), (0 : Int), (0 : Int), (0 : Int), (0 : Int), (0 : Int), (0 : Int), (0 : Int), (0 : Int), (0 : Int), (0 : Int), (0 : Int), (0 : Int), (0 : Int), (0 : Int)] (0 : Nat)
      (wpL w R (wN p) (w0L p) x_1) (8 : Nat))
      (8 : Nat)
      (List.take
      ((↑(wpL w R (wN p) (w0L p) x_1).length : Int).toNat -
      (IntKind.i64.wrap (IntKind.i64.wrap ((IntKind.i64.wrap ((↑(x_1 + (1 : Nat)) : Int) - (1 : Int))).tmod (IntKind.i64.wrap ((↑p.length : Int).tdiv (8 : Int))) + (1 : Int)) * (8 : Int))).toNat)
      (List.drop (IntKind.i64.wrap (IntKind.i64.wrap ((IntKind.i64.wrap ((↑(x_1 + (1 : Nat)) : Int) - (1 : Int))).tmod (IntKind.i64.wrap ((↑p.length : Int).tdiv (8 : Int))) + (1 : Int)) * (8 : Int))).toNat
      (wpL w R (wN p) (w0L p) x_1)))
      ((↑(16 : Nat) : Int).toNat - (8 : Nat)))).getD
      (7 : Nat) (0 : Int))
      (IntKind.u8.wrap (↑(x_1 + (1 : Nat)) : Int))))))
      (wpL w R (wN p) (w0L p) x_1).length).length :
      Int) ≤
      (↑(cpL (wpL w R (wN p) (w0L p) x_1) (0 : Nat)
      (List.take (8 : Nat)
      (List.drop (0 : Nat)
      ((enL w (↑R : Int).toNat
      (cpL
      (cpL [(0 : Int), (0 : Int), (0 : Int), (0 : Int), (0 : Int), (0 : Int), (0 : Int), (0 : Int), (0 : Int), (0 : Int), (0 : Int), (0 : Int), (0 : Int), (0 : Int), (0 : Int), (0 : Int)] (0 : Nat)
      (wpL w R (wN p) (w0L p) x_1) (8 : Nat))
      (8 : Nat)
      (List.take
      ((↑(wpL w R (wN p) (w0L p) x_1).length : Int).toNat -
      (IntKind.i64.wrap (IntKind.i64.wrap ((IntKind.i64.wrap ((↑(x_1 + (1 : Nat)) : Int) - (1 : Int))).tmod (IntKind.i64.wrap ((↑p.length : Int).tdiv (8 : Int))) + (1 : Int)) * (8 : Int))).toNat)
      (List.drop (IntKind.i64.wrap (IntKind.i64.wrap ((IntKind.i64.wrap ((↑(x_1 + (1 : Nat)) : Int) - (1 : Int))).tmod (IntKind.i64.wrap ((↑p.length : Int).tdiv (8 : Int))) + (1 : Int)) * (8 : Int))).toNat
      (wpL w R (wN p) (w0L p) x_1)))
      ((↑(16 : Nat) : Int).toNat - (8 : Nat)))).set
      (7 : Nat)
      (ixor IntKind.u8
      ((enL w (↑R : Int).toNat
      (cpL
      (cpL [(0 : Int), (0 : Int), (0 : Int), (0 : Int), (0 : Int), (0 : Int), (0 : Int), (0 : Int), (0 : Int), (0 : Int), (0 : Int), (0 : Int), (0 : Int), (0 : Int), (0 : Int), (0 : Int)] (0 : Nat)
      (wpL w R (wN p) (w0L p) x_1) (8 : Nat))
      (8 : Nat)
      (List.take
      ((↑(wpL w R (wN p) (w0L p) x_1).length : Int).toNat -
      (IntKind.i64.wrap (IntKind.i64.wrap ((IntKind.i64.wrap ((↑(x_1 + (1 : Nat)) : Int) - (1 : Int))).tmod (IntKind.i64.wrap ((↑p.length : Int).tdiv (8 : Int))) + (1 : Int)) * (8 : Int))).toNat)
      (List.drop (IntKind.i64.wrap (IntKind.i64.wrap ((IntKind.i64.wrap ((↑(x_1 + (1 : Nat)) : Int) - (1 : Int))).tmod (IntKind.i64.wrap ((↑p.length : Int).tdiv (8 : Int))) + (1 : Int)) * (8 : Int))).toNat
      (wpL w R (wN p) (w0L p) x_1)))
      ((↑(16 : Nat) : Int).toNat - (8 : Nat)))).getD
      (7 : Nat) (0 : Int))
      (IntKind.u8.wrap (↑(x_1 + (1 : Nat)) : Int))))))
      (wpL w R (wN p) (w0L p) x_1).length).length :
      Int) ∧
      (1 : Nat) ≠ (0 : Nat) ∧ (1 : Nat) = (1 : Nat)) ∧
      ((0 : Int) ≤ (8 : Int) ∧ (8 : Int) ≤ (↑(16 : Nat) : Int) ∧ (↑(16 : Nat) : Int) ≤ (↑(16 : Nat) : Int) ∧ (16 : Nat) = (16 : Nat) ∧ (1 : Nat) = (1 : Nat)) ∧
      (IntKind.u8 = IntKind.u8 ∧ (1 : Nat) = (1 : Nat)) ∧
      True ∧
      True ∧
      True ∧
      ((sm (AV.d (D.st [D.arr IntKind.u8 (240 : Nat) w, D.val (Value.int IntKind.i64 (↑R : Int))])) ∧
      sm (AV.d (D.ints IntKind.u8 p)) ∧
      sm (AV.ptr (2 : Nat) []) ∧
      sm (AV.d (D.val (Value.slice none (0 : Nat) (0 : Nat)))) ∧
      sm (AV.d (D.val (Value.int IntKind.i64 (0 : Int)))) ∧
      sm (AV.row (29 : Nat)) ∧
      sm (AV.d (D.val (Value.int IntKind.i64 (IntKind.i64.wrap ((↑p.length : Int).tdiv (8 : Int)))))) ∧
      AV.d (D.val (Value.int IntKind.i64 (IntKind.i64.wrap ((↑(x_1 + (1 : Nat)) : Int) + (1 : Int))))) =
      AV.d (D.val (Value.int IntKind.i64 (↑((IntKind.i64.wrap ((↑(x_1 + (1 : Nat)) : Int) + (1 : Int))).toNat - (1 : Nat) + (1 : Nat)) : Int))) ∧
      sm (AV.d (D.ints IntKind.u8 p)) ∧
      sm (AV.d (D.val (Value.int IntKind.i64 (↑p.length : Int)))) ∧
      sm (AV.d (D.val (Value.int IntKind.i64 ((↑p.length : Int).tmod (8 : Int))))) ∧
      sm (AV.d (D.val (Value.bool ((↑p.length : Int).tmod (8 : Int) != (0 : Int))))) ∧
      sm (AV.d (D.val (Value.bool false))) ∧
      sm (AV.d (D.ints IntKind.u8 p)) ∧
      sm (AV.d (D.val (Value.int IntKind.i64 (↑p.length : Int)))) ∧
      sm (AV.d (D.val (Value.bool (decide ((↑p.length : Int) < (16 : Int)))))) ∧
      sm (AV.d (D.val (Value.bool (decide ((↑p.length : Int) < (16 : Int)))))) ∧
      sm (AV.d (D.val (Value.bool false))) ∧
      sm (AV.d (D.ints IntKind.u8 p)) ∧
      sm (AV.d (D.val (Value.int IntKind.i64 (↑p.length : Int)))) ∧
      sm (AV.d (D.val (Value.bool (decide ((↑p.length : Int) > (64 : Int)))))) ∧
      sm (AV.d (D.val (Value.bool (decide ((↑p.length : Int) > (64 : Int)))))) ∧
      sm (AV.d (D.ints IntKind.u8 p)) ∧
      sm (AV.d (D.val (Value.int IntKind.i64 (↑p.length : Int)))) ∧
      sm (AV.d (D.val (Value.int IntKind.i64 (IntKind.i64.wrap ((8 : Int) + (↑p.length : Int)))))) ∧
      sm (AV.d (D.ints IntKind.u8 p)) ∧
      sm (AV.row (29 : Nat)) ∧
      sm (AV.d (D.val (Value.int IntKind.i64 (↑x : Int)))) ∧
      sm (AV.d (D.val (Value.bool (decide ((↑x : Int) < (8 : Int)))))) ∧
      sm (AV.d (D.ints IntKind.u8 p)) ∧
      sm (AV.d (D.val (Value.int IntKind.i64 (↑p.length : Int)))) ∧
      sm (AV.d (D.val (Value.int IntKind.i64 (IntKind.i64.wrap ((↑p.length : Int).tdiv (8 : Int)))))) ∧ True) ∧
      (sm (some (Blk.fix (D.st [D.arr IntKind.u8 (240 : Nat) w, D.val (Value.int IntKind.i64 (↑R : Int))]))) ∧
      some
      (Blk.row (5 : TypeId)
      (D.ints IntKind.u8
      (cpL
      (cpL (wpL w R (wN p) (w0L p) x_1) (0 : Nat)
      (List.take (8 : Nat)
      (List.drop (0 : Nat)
      ((enL w (↑R : Int).toNat
      (cpL
      (cpL [(0 : Int), (0 : Int), (0 : Int), (0 : Int), (0 : Int), (0 : Int), (0 : Int), (0 : Int), (0 : Int), (0 : Int), (0 : Int), (0 : Int), (0 : Int), (0 : Int), (0 : Int), (0 : Int)] (0 : Nat)
      (wpL w R (wN p) (w0L p) x_1) (8 : Nat))
      (8 : Nat)
      (List.take
      ((↑(wpL w R (wN p) (w0L p) x_1).length : Int).toNat -
      (IntKind.i64.wrap
      (IntKind.i64.wrap ((IntKind.i64.wrap ((↑(x_1 + (1 : Nat)) : Int) - (1 : Int))).tmod (IntKind.i64.wrap ((↑p.length : Int).tdiv (8 : Int))) + (1 : Int)) * (8 : Int))).toNat)
      (List.drop
      (IntKind.i64.wrap (IntKind.i64.wrap ((IntKind.i64.wrap ((↑(x_1 + (1 : Nat)) : Int) - (1 : Int))).tmod (IntKind.i64.wrap ((↑p.length : Int).tdiv (8 : Int))) + (1 : Int)) * (8 : Int))).toNat
      (wpL w R (wN p) (w0L p) x_1)))
      ((↑(16 : Nat) : Int).toNat - (8 : Nat)))).set
      (7 : Nat)
      (ixor IntKind.u8
      ((enL w (↑R : Int).toNat
      (cpL
      (cpL [(0 : Int), (0 : Int), (0 : Int), (0 : Int), (0 : Int), (0 : Int), (0 : Int), (0 : Int), (0 : Int), (0 : Int), (0 : Int), (0 : Int), (0 : Int), (0 : Int), (0 : Int), (0 : Int)]
      (0 : Nat) (wpL w R (wN p) (w0L p) x_1) (8 : Nat))
      (8 : Nat)
      (List.take
      ((↑(wpL w R (wN p) (w0L p) x_1).length : Int).toNat -
      (IntKind.i64.wrap
      (IntKind.i64.wrap ((IntKind.i64.wrap ((↑(x_1 + (1 : Nat)) : Int) - (1 : Int))).tmod (IntKind.i64.wrap ((↑p.length : Int).tdiv (8 : Int))) + (1 : Int)) * (8 : Int))).toNat)
      (List.drop
      (IntKind.i64.wrap
      (IntKind.i64.wrap ((IntKind.i64.wrap ((↑(x_1 + (1 : Nat)) : Int) - (1 : Int))).tmod (IntKind.i64.wrap ((↑p.length : Int).tdiv (8 : Int))) + (1 : Int)) * (8 : Int))).toNat
      (wpL w R (wN p) (w0L p) x_1)))
      ((↑(16 : Nat) : Int).toNat - (8 : Nat)))).getD
      (7 : Nat) (0 : Int))
      (IntKind.u8.wrap (↑(x_1 + (1 : Nat)) : Int))))))
      (wpL w R (wN p) (w0L p) x_1).length)
      (IntKind.i64.wrap (IntKind.i64.wrap ((IntKind.i64.wrap ((↑(x_1 + (1 : Nat)) : Int) - (1 : Int))).tmod (IntKind.i64.wrap ((↑p.length : Int).tdiv (8 : Int))) + (1 : Int)) * (8 : Int))).toNat
      (List.take ((↑(16 : Nat) : Int).toNat - (8 : Nat))
      (List.drop (8 : Nat)
      ((enL w (↑R : Int).toNat
      (cpL
      (cpL [(0 : Int), (0 : Int), (0 : Int), (0 : Int), (0 : Int), (0 : Int), (0 : Int), (0 : Int), (0 : Int), (0 : Int), (0 : Int), (0 : Int), (0 : Int), (0 : Int), (0 : Int), (0 : Int)] (0 : Nat)
      (wpL w R (wN p) (w0L p) x_1) (8 : Nat))
      (8 : Nat)
      (List.take
      ((↑(wpL w R (wN p) (w0L p) x_1).length : Int).toNat -
      (IntKind.i64.wrap (IntKind.i64.wrap ((IntKind.i64.wrap ((↑(x_1 + (1 : Nat)) : Int) - (1 : Int))).tmod (IntKind.i64.wrap ((↑p.length : Int).tdiv (8 : Int))) + (1 : Int)) * (8 : Int))).toNat)
      (List.drop
      (IntKind.i64.wrap (IntKind.i64.wrap ((IntKind.i64.wrap ((↑(x_1 + (1 : Nat)) : Int) - (1 : Int))).tmod (IntKind.i64.wrap ((↑p.length : Int).tdiv (8 : Int))) + (1 : Int)) * (8 : Int))).toNat
      (wpL w R (wN p) (w0L p) x_1)))
      ((↑(16 : Nat) : Int).toNat - (8 : Nat)))).set
      (7 : Nat)
      (ixor IntKind.u8
      ((enL w (↑R : Int).toNat
      (cpL
      (cpL [(0 : Int), (0 : Int), (0 : Int), (0 : Int), (0 : Int), (0 : Int), (0 : Int), (0 : Int), (0 : Int), (0 : Int), (0 : Int), (0 : Int), (0 : Int), (0 : Int), (0 : Int), (0 : Int)]
      (0 : Nat) (wpL w R (wN p) (w0L p) x_1) (8 : Nat))
      (8 : Nat)
      (List.take
      ((↑(wpL w R (wN p) (w0L p) x_1).length : Int).toNat -
      (IntKind.i64.wrap
      (IntKind.i64.wrap ((IntKind.i64.wrap ((↑(x_1 + (1 : Nat)) : Int) - (1 : Int))).tmod (IntKind.i64.wrap ((↑p.length : Int).tdiv (8 : Int))) + (1 : Int)) * (8 : Int))).toNat)
      (List.drop
      (IntKind.i64.wrap
      (IntKind.i64.wrap ((IntKind.i64.wrap ((↑(x_1 + (1 : Nat)) : Int) - (1 : Int))).tmod (IntKind.i64.wrap ((↑p.length : Int).tdiv (8 : Int))) + (1 : Int)) * (8 : Int))).toNat
      (wpL w R (wN p) (w0L p) x_1)))
      ((↑(16 : Nat) : Int).toNat - (8 : Nat)))).getD
      (7 : Nat) (0 : Int))
      (IntKind.u8.wrap (↑(x_1 + (1 : Nat)) : Int))))))
      ((↑(cpL (wpL w R (wN p) (w0L p) x_1) (0 : Nat)
      (List.take (8 : Nat)
      (List.drop (0 : Nat)
      ((enL w (↑R : Int).toNat
      (cpL
      (cpL [(0 : Int), (0 : Int), (0 : Int), (0 : Int), (0 : Int), (0 : Int), (0 : Int), (0 : Int), (0 : Int), (0 : Int), (0 : Int), (0 : Int), (0 : Int), (0 : Int), (0 : Int), (0 : Int)]
      (0 : Nat) (wpL w R (wN p) (w0L p) x_1) (8 : Nat))
      (8 : Nat)
      (List.take
      ((↑(wpL w R (wN p) (w0L p) x_1).length : Int).toNat -
      (IntKind.i64.wrap
      (IntKind.i64.wrap ((IntKind.i64.wrap ((↑(x_1 + (1 : Nat)) : Int) - (1 : Int))).tmod (IntKind.i64.wrap ((↑p.length : Int).tdiv (8 : Int))) + (1 : Int)) * (8 : Int))).toNat)
      (List.drop
      (IntKind.i64.wrap
      (IntKind.i64.wrap ((IntKind.i64.wrap ((↑(x_1 + (1 : Nat)) : Int) - (1 : Int))).tmod (IntKind.i64.wrap ((↑p.length : Int).tdiv (8 : Int))) + (1 : Int)) * (8 : Int))).toNat
      (wpL w R (wN p) (w0L p) x_1)))
      ((↑(16 : Nat) : Int).toNat - (8 : Nat)))).set
      (7 : Nat)
      (ixor IntKind.u8
      ((enL w (↑R : Int).toNat
      (cpL
      (cpL
      [(0 : Int), (0 : Int), (0 : Int), (0 : Int), (0 : Int), (0 : Int), (0 : Int), (0 : Int), (0 : Int), (0 : Int), (0 : Int), (0 : Int), (0 : Int), (0 : Int), (0 : Int), (0 : Int)]
      (0 : Nat) (wpL w R (wN p) (w0L p) x_1) (8 : Nat))
      (8 : Nat)
      (List.take
      ((↑(wpL w R (wN p) (w0L p) x_1).length : Int).toNat -
      (IntKind.i64.wrap
      (IntKind.i64.wrap ((IntKind.i64.wrap ((↑(x_1 + (1 : Nat)) : Int) - (1 : Int))).tmod (IntKind.i64.wrap ((↑p.length : Int).tdiv (8 : Int))) + (1 : Int)) *
      (8 : Int))).toNat)
      (List.drop
      (IntKind.i64.wrap
      (IntKind.i64.wrap ((IntKind.i64.wrap ((↑(x_1 + (1 : Nat)) : Int) - (1 : Int))).tmod (IntKind.i64.wrap ((↑p.length : Int).tdiv (8 : Int))) + (1 : Int)) * (8 : Int))).toNat
      (wpL w R (wN p) (w0L p) x_1)))
      ((↑(16 : Nat) : Int).toNat - (8 : Nat)))).getD
      (7 : Nat) (0 : Int))
      (IntKind.u8.wrap (↑(x_1 + (1 : Nat)) : Int))))))
      (wpL w R (wN p) (w0L p) x_1).length).length :
      Int).toNat -
      (IntKind.i64.wrap (IntKind.i64.wrap ((IntKind.i64.wrap ((↑(x_1 + (1 : Nat)) : Int) - (1 : Int))).tmod (IntKind.i64.wrap ((↑p.length : Int).tdiv (8 : Int))) + (1 : Int)) * (8 : Int))).toNat)))) =
      some (Blk.row (5 : TypeId) (D.ints IntKind.u8 (wpL w R (wN p) (w0L p) ((IntKind.i64.wrap ((↑(x_1 + (1 : Nat)) : Int) + (1 : Int))).toNat - (1 : Nat))))) ∧
      True) ∧
      true = true) ∧
      (IntKind.i64.wrap ((↑(x_1 + (1 : Nat)) : Int) + (1 : Int))).toNat - (1 : Nat) ≤ (6 : Nat) * wN p ∧ (6 : Nat) * wN p - ((IntKind.i64.wrap ((↑(x_1 + (1 : Nat)) : Int) + (1 : Int))).toNat - (1 : Nat)) < (6 : Nat) * wN p - x_1
     | false => True ∧ True ∧ True ∧ (false = false ∧ false = false ∧ True) ∧ D.tup [D.ints IntKind.u8 (wpL w R (wN p) (w0L p) x_1), D.val (Value.int IntKind.i64 (0 : Int))] = F) := by kernel_rfl
set_option maxRecDepth 100000 in
theorem vc34  (W : List D) (bx ux p : List Int) (F : D)  :
    (owed c34 (inv34 (flW W) (W.length / 4 - 1) p) Try.f34 [.ref (cipD W bx ux), .str p] F) = (
 True ∧
 True ∧
 True ∧
 True ∧
 (8 : Int) ≠ (0 : Int) ∧
 True ∧
 True ∧
 True ∧
 (8 : Int) ≠ (0 : Int) ∧
 True ∧
 True ∧
 match decide ((↑p.length : Int).tmod (8 : Int) > (0 : Int)) with
 | true => True ∧ True ∧ True ∧ True ∧ True ∧ (false = false ∧ false = false ∧ True) ∧ D.tup [D.str (ints { data := { toList := [] } }), D.val (Value.int IntKind.i64 (1 : Int))] = F
 | false =>
  True ∧
  True ∧
  True ∧
  True ∧
  match decide (IntKind.i64.wrap ((↑p.length : Int).tdiv (8 : Int)) < (2 : Int)) with
  | true => True ∧ True ∧ True ∧ (false = false ∧ false = false ∧ True) ∧ D.tup [D.str (ints { data := { toList := [] } }), D.val (Value.int IntKind.i64 (1 : Int))] = F
  | false =>
   True ∧
   True ∧
   True ∧
   match decide (IntKind.i64.wrap ((↑p.length : Int).tdiv (8 : Int)) > (8 : Int)) with
   | true => True ∧ True ∧ (false = false ∧ false = false ∧ True) ∧ D.tup [D.str (ints { data := { toList := [] } }), D.val (Value.int IntKind.i64 (1 : Int))] = F
   | false =>
    ((1 : Nat) = (1 : Nat) ∧
    false = false ∧
    ((0 : Nat) < (8 : Nat) ∧ ([] : List Nat) = [] ∧ true = true) ∧
    false = false ∧
    ((1 : Nat) < (8 : Nat) ∧ ([] : List Nat) = [] ∧ true = true) ∧
    false = false ∧
    ((2 : Nat) < (8 : Nat) ∧ ([] : List Nat) = [] ∧ true = true) ∧
    false = false ∧ ((3 : Nat) < (8 : Nat) ∧ ([] : List Nat) = [] ∧ true = true) ∧ false = false ∧ ((4 : Nat) < (8 : Nat) ∧ ([] : List Nat) = [] ∧ true = true) ∧ false = false ∧ ((5 : Nat) < (8 : Nat) ∧ ([] : List Nat) = [] ∧ true = true) ∧ false = false ∧ ((6 : Nat) < (8 : Nat) ∧ ([] : List Nat) = [] ∧ true = true) ∧ false = false ∧ ((7 : Nat) < (8 : Nat) ∧ ([] : List Nat) = [] ∧ true = true) ∧ True) ∧
    (True ∧ (8 : Nat) ≠ (0 : Nat)) ∧
    (Sk.arr (8 : Nat) = Sk.arr (8 : Nat) ∧ (8 : Nat) ≠ (0 : Nat) ∧ (8 : Nat) = (8 : Nat) ∧ false = false) ∧
    True ∧
    True ∧
    ((0 : Int) ≤ IntKind.i64.wrap (IntKind.i64.wrap ((↑p.length : Int).tdiv (8 : Int)) + (1 : Int)) ∧
    IntKind.i64.wrap (IntKind.i64.wrap ((↑p.length : Int).tdiv (8 : Int)) + (1 : Int)) ≤ IntKind.i64.wrap (IntKind.i64.wrap ((↑p.length : Int).tdiv (8 : Int)) + (1 : Int)) ∧
    IntKind.i64.wrap (IntKind.i64.wrap ((↑p.length : Int).tdiv (8 : Int)) + (1 : Int)) ≤ (281474976710656 : Int) ∧ (↑(16 : Nat) : Int) * IntKind.i64.wrap (IntKind.i64.wrap ((↑p.length : Int).tdiv (8 : Int)) + (1 : Int)) ≤ (281474976710656 : Int) ∧ (1 : Nat) = (1 : Nat)) ∧
    True ∧
    True ∧
    (((sm (AV.d (D.st [D.slc (4 : Nat) W, D.arr IntKind.u8 (256 : Nat) bx, D.arr IntKind.u8 (256 : Nat) ux]).ref) ∧
    sm (AV.d (D.str p)) ∧
    sm (AV.d (D.str (ints { data := { toList := [] } }))) ∧
    sm (AV.d (D.val (Value.int IntKind.i64 (0 : Int)))) ∧
    sm (AV.d (D.val (Value.int IntKind.i64 (IntKind.i64.wrap ((↑p.length : Int).tdiv (8 : Int)))))) ∧
    sm (AV.ptr (7 : Nat) []) ∧
    sm (AV.row (34 : Nat)) ∧
    AV.d (D.val (Value.int IntKind.i64 (1 : Int))) = AV.d (D.val (Value.int IntKind.i64 (↑(1 : Nat) : Int))) ∧
    sm (AV.d (D.str p)) ∧
    sm (AV.d (D.val (Value.int IntKind.i64 (↑p.length : Int)))) ∧
    sm (AV.d (D.val (Value.int IntKind.i64 (IntKind.i64.wrap ((↑p.length : Int).tdiv (8 : Int)))))) ∧
    sm (AV.d (D.str p)) ∧
    sm (AV.d (D.val (Value.int IntKind.i64 (↑p.length : Int)))) ∧
    sm (AV.d (D.val (Value.int IntKind.i64 ((↑p.length : Int).tmod (8 : Int))))) ∧
    sm (AV.d (D.val (Value.bool (decide ((↑p.length : Int).tmod (8 : Int) > (0 : Int)))))) ∧
    sm (AV.d (D.val (Value.bool false))) ∧
    sm (AV.d (D.val (Value.int IntKind.i64 (IntKind.i64.wrap ((↑p.length : Int).tdiv (8 : Int)))))) ∧
    sm (AV.d (D.val (Value.bool (decide (IntKind.i64.wrap ((↑p.length : Int).tdiv (8 : Int)) < (2 : Int)))))) ∧
    sm (AV.d (D.val (Value.bool (decide (IntKind.i64.wrap ((↑p.length : Int).tdiv (8 : Int)) < (2 : Int)))))) ∧
    sm (AV.d (D.val (Value.bool false))) ∧
    sm (AV.d (D.val (Value.int IntKind.i64 (IntKind.i64.wrap ((↑p.length : Int).tdiv (8 : Int)))))) ∧
    sm (AV.d (D.val (Value.bool (decide (IntKind.i64.wrap ((↑p.length : Int).tdiv (8 : Int)) > (8 : Int)))))) ∧
    sm (AV.d (D.val (Value.bool (decide (IntKind.i64.wrap ((↑p.length : Int).tdiv (8 : Int)) > (8 : Int)))))) ∧
    sm (AV.d (D.arr IntKind.u8 (8 : Nat) [(166 : Int), (166 : Int), (166 : Int), (166 : Int), (166 : Int), (166 : Int), (166 : Int), (166 : Int)])) ∧
    sm (AV.d (D.val (Value.int IntKind.i64 (IntKind.i64.wrap ((↑p.length : Int).tdiv (8 : Int)))))) ∧ sm (AV.d (D.val (Value.int IntKind.i64 (IntKind.i64.wrap (IntKind.i64.wrap ((↑p.length : Int).tdiv (8 : Int)) + (1 : Int)))))) ∧ sm (AV.row (34 : Nat)) ∧ True) ∧
    (sm (some (Blk.fix (D.arr IntKind.u8 (8 : Nat) [(166 : Int), (166 : Int), (166 : Int), (166 : Int), (166 : Int), (166 : Int), (166 : Int), (166 : Int)]))) ∧
    some (Blk.row (9 : TypeId) (D.slc (1 : Nat) (List.replicate (IntKind.i64.wrap (IntKind.i64.wrap ((↑p.length : Int).tdiv (8 : Int)) + (1 : Int))).toNat (D.str [])))) = some (Blk.row (9 : TypeId) (D.slc (1 : Nat) (rwL (wN p) (w0L p) (1 : Nat)))) ∧ True) ∧
    true = true) ∧
    (1 : Nat) - (1 : Nat) ≤ wN p) ∧
    ∀ (x : Nat),
    x ≤ wN p →
    true = true ∧
    True ∧
    True ∧
    True ∧
    match decide ((↑(x + (1 : Nat)) : Int) ≤ IntKind.i64.wrap ((↑p.length : Int).tdiv (8 : Int))) with
    | true =>
     True ∧
     True ∧
     True ∧
     True ∧
     True ∧
     True ∧
     True ∧
     True ∧
     ((0 : Int) ≤ IntKind.i64.wrap (IntKind.i64.wrap ((8 : Int) * (↑(x + (1 : Nat)) : Int)) - (8 : Int)) ∧
     IntKind.i64.wrap (IntKind.i64.wrap ((8 : Int) * (↑(x + (1 : Nat)) : Int)) - (8 : Int)) ≤ IntKind.i64.wrap ((8 : Int) * (↑(x + (1 : Nat)) : Int)) ∧ IntKind.i64.wrap ((8 : Int) * (↑(x + (1 : Nat)) : Int)) ≤ (↑p.length : Int)) ∧
     ((0 : Int) ≤ (↑(x + (1 : Nat)) : Int) ∧ (↑(x + (1 : Nat)) : Int) < (↑(rwL (wN p) (w0L p) (x + (1 : Nat))).length : Int) ∧ (1 : Nat) ≠ (0 : Nat) ∧ (1 : Nat) = (1 : Nat)) ∧
     ((↑(x + (1 : Nat)) : Int).toNat < (rwL (wN p) (w0L p) (x + (1 : Nat))).length ∧ (1 : Nat) = (1 : Nat) ∧ (1 : Nat) = (1 : Nat)) ∧
     True ∧
     True ∧
     True ∧
     ((sm (AV.d (D.st [D.slc (4 : Nat) W, D.arr IntKind.u8 (256 : Nat) bx, D.arr IntKind.u8 (256 : Nat) ux]).ref) ∧
     sm (AV.d (D.str p)) ∧
     sm (AV.d (D.str (ints { data := { toList := [] } }))) ∧
     sm (AV.d (D.val (Value.int IntKind.i64 (0 : Int)))) ∧
     sm (AV.d (D.val (Value.int IntKind.i64 (IntKind.i64.wrap ((↑p.length : Int).tdiv (8 : Int)))))) ∧
     sm (AV.ptr (7 : Nat) []) ∧
     sm (AV.row (34 : Nat)) ∧
     AV.d (D.val (Value.int IntKind.i64 (IntKind.i64.wrap ((↑(x + (1 : Nat)) : Int) + (1 : Int))))) = AV.d (D.val (Value.int IntKind.i64 (↑((IntKind.i64.wrap ((↑(x + (1 : Nat)) : Int) + (1 : Int))).toNat - (1 : Nat) + (1 : Nat)) : Int))) ∧
     sm (AV.d (D.str p)) ∧
     sm (AV.d (D.val (Value.int IntKind.i64 (↑p.length : Int)))) ∧
     sm (AV.d (D.val (Value.int IntKind.i64 (IntKind.i64.wrap ((↑p.length : Int).tdiv (8 : Int)))))) ∧
     sm (AV.d (D.str p)) ∧
     sm (AV.d (D.val (Value.int IntKind.i64 (↑p.length : Int)))) ∧
     sm (AV.d (D.val (Value.int IntKind.i64 ((↑p.length : Int).tmod (8 : Int))))) ∧
     sm (AV.d (D.val (Value.bool (decide ((↑p.length : Int).tmod (8 : Int) > (0 : Int)))))) ∧
     sm (AV.d (D.val (Value.bool false))) ∧
     sm (AV.d (D.val (Value.int IntKind.i64 (IntKind.i64.wrap ((↑p.length : Int).tdiv (8 : Int)))))) ∧
     sm (AV.d (D.val (Value.bool (decide (IntKind.i64.wrap ((↑p.length : Int).tdiv (8 : Int)) < (2 : Int)))))) ∧
     sm (AV.d (D.val (Value.bool (decide (IntKind.i64.wrap ((↑p.length : Int).tdiv (8 : Int)) < (2 : Int)))))) ∧
     sm (AV.d (D.val (Value.bool false))) ∧
     sm (AV.d (D.val (Value.int IntKind.i64 (IntKind.i64.wrap ((↑p.length : Int).tdiv (8 : Int)))))) ∧
     sm (AV.d (D.val (Value.bool (decide (IntKind.i64.wrap ((↑p.length : Int).tdiv (8 : Int)) > (8 : Int)))))) ∧
     sm (AV.d (D.val (Value.bool (decide (IntKind.i64.wrap ((↑p.length : Int).tdiv (8 : Int)) > (8 : Int)))))) ∧
     sm (AV.d (D.arr IntKind.u8 (8 : Nat) [(166 : Int), (166 : Int), (166 : Int), (166 : Int), (166 : Int), (166 : Int), (166 : Int), (166 : Int)])) ∧
     sm (AV.d (D.val (Value.int IntKind.i64 (IntKind.i64.wrap ((↑p.length : Int).tdiv (8 : Int)))))) ∧
     sm (AV.d (D.val (Value.int IntKind.i64 (IntKind.i64.wrap (IntKind.i64.wrap ((↑p.length : Int).tdiv (8 : Int)) + (1 : Int)))))) ∧ sm (AV.row (34 : Nat)) ∧ True) ∧
     (sm (some (Blk.fix (D.arr IntKind.u8 (8 : Nat) [(166 : Int), (166 : Int), (166 : Int), (166 : Int), (166 : Int), (166 : Int), (166 : Int), (166 : Int)]))) ∧
     some
     (Blk.row (9 : TypeId)
     (D.slc (1 : Nat)
     ((rwL (wN p) (w0L p) (x + (1 : Nat))).set (↑(x + (1 : Nat)) : Int).toNat (D.str (List.drop (IntKind.i64.wrap (IntKind.i64.wrap ((8 : Int) * (↑(x + (1 : Nat)) : Int)) - (8 : Int))).toNat (List.take (IntKind.i64.wrap ((8 : Int) * (↑(x + (1 : Nat)) : Int))).toNat p)))))) =
     some (Blk.row (9 : TypeId) (D.slc (1 : Nat) (rwL (wN p) (w0L p) ((IntKind.i64.wrap ((↑(x + (1 : Nat)) : Int) + (1 : Int))).toNat - (1 : Nat) + (1 : Nat))))) ∧
     True) ∧
     true = true) ∧
     (IntKind.i64.wrap ((↑(x + (1 : Nat)) : Int) + (1 : Int))).toNat - (1 : Nat) ≤ wN p ∧ wN p - ((IntKind.i64.wrap ((↑(x + (1 : Nat)) : Int) + (1 : Int))).toNat - (1 : Nat)) < wN p - x
    | false =>
     True ∧
     (((sm (AV.d (D.st [D.slc (4 : Nat) W, D.arr IntKind.u8 (256 : Nat) bx, D.arr IntKind.u8 (256 : Nat) ux]).ref) ∧
     sm (AV.d (D.str p)) ∧
     sm (AV.d (D.str (ints { data := { toList := [] } }))) ∧
     sm (AV.d (D.val (Value.int IntKind.i64 (0 : Int)))) ∧
     sm (AV.d (D.val (Value.int IntKind.i64 (IntKind.i64.wrap ((↑p.length : Int).tdiv (8 : Int)))))) ∧
     sm (AV.ptr (7 : Nat) []) ∧
     sm (AV.row (34 : Nat)) ∧
     sm (AV.d (D.val (Value.int IntKind.i64 (↑(x + (1 : Nat)) : Int)))) ∧
     sm (AV.d (D.str p)) ∧
     sm (AV.d (D.val (Value.int IntKind.i64 (↑p.length : Int)))) ∧
     sm (AV.d (D.val (Value.int IntKind.i64 (IntKind.i64.wrap ((↑p.length : Int).tdiv (8 : Int)))))) ∧
     sm (AV.d (D.str p)) ∧
     sm (AV.d (D.val (Value.int IntKind.i64 (↑p.length : Int)))) ∧
     sm (AV.d (D.val (Value.int IntKind.i64 ((↑p.length : Int).tmod (8 : Int))))) ∧
     sm (AV.d (D.val (Value.bool (decide ((↑p.length : Int).tmod (8 : Int) > (0 : Int)))))) ∧
     sm (AV.d (D.val (Value.bool false))) ∧
     sm (AV.d (D.val (Value.int IntKind.i64 (IntKind.i64.wrap ((↑p.length : Int).tdiv (8 : Int)))))) ∧
     sm (AV.d (D.val (Value.bool (decide (IntKind.i64.wrap ((↑p.length : Int).tdiv (8 : Int)) < (2 : Int)))))) ∧
     sm (AV.d (D.val (Value.bool (decide (IntKind.i64.wrap ((↑p.length : Int).tdiv (8 : Int)) < (2 : Int)))))) ∧
     sm (AV.d (D.val (Value.bool false))) ∧
     sm (AV.d (D.val (Value.int IntKind.i64 (IntKind.i64.wrap ((↑p.length : Int).tdiv (8 : Int)))))) ∧
     sm (AV.d (D.val (Value.bool (decide (IntKind.i64.wrap ((↑p.length : Int).tdiv (8 : Int)) > (8 : Int)))))) ∧
     sm (AV.d (D.val (Value.bool (decide (IntKind.i64.wrap ((↑p.length : Int).tdiv (8 : Int)) > (8 : Int)))))) ∧
     sm (AV.d (D.arr IntKind.u8 (8 : Nat) [(166 : Int), (166 : Int), (166 : Int), (166 : Int), (166 : Int), (166 : Int), (166 : Int), (166 : Int)])) ∧
     sm (AV.d (D.val (Value.int IntKind.i64 (IntKind.i64.wrap ((↑p.length : Int).tdiv (8 : Int)))))) ∧
     sm (AV.d (D.val (Value.int IntKind.i64 (IntKind.i64.wrap (IntKind.i64.wrap ((↑p.length : Int).tdiv (8 : Int)) + (1 : Int)))))) ∧
     sm (AV.row (34 : Nat)) ∧
     sm (AV.d (D.val (Value.int IntKind.i64 (↑(x + (1 : Nat)) : Int)))) ∧
     sm (AV.d (D.val (Value.int IntKind.i64 (IntKind.i64.wrap ((↑p.length : Int).tdiv (8 : Int)))))) ∧
     sm (AV.d (D.val (Value.bool (decide ((↑(x + (1 : Nat)) : Int) ≤ IntKind.i64.wrap ((↑p.length : Int).tdiv (8 : Int))))))) ∧ AV.d (D.val (Value.int IntKind.i64 (0 : Int))) = AV.d (D.val (Value.int IntKind.i64 (↑(Int.toNat (0 : Int)) : Int))) ∧ True) ∧
     (some (Blk.fix (D.arr IntKind.u8 (8 : Nat) [(166 : Int), (166 : Int), (166 : Int), (166 : Int), (166 : Int), (166 : Int), (166 : Int), (166 : Int)])) = some (Blk.fix (D.arr IntKind.u8 (8 : Nat) (rdA (wpL (flW W) (W.length / (4 : Nat) - (1 : Nat)) (wN p) (w0L p) (wN p * Int.toNat (0 : Int))) (0 : Nat)))) ∧
     some (Blk.row (9 : TypeId) (D.slc (1 : Nat) (rwL (wN p) (w0L p) (x + (1 : Nat))))) = some (Blk.row (9 : TypeId) (D.slc (1 : Nat) (rwL (wN p) (wpL (flW W) (W.length / (4 : Nat) - (1 : Nat)) (wN p) (w0L p) (wN p * Int.toNat (0 : Int))) (wN p + (1 : Nat))))) ∧ True) ∧
     true = true) ∧
     Int.toNat (0 : Int) ≤ (6 : Nat)) ∧
     ∀ (x_1 : Nat),
     x_1 ≤ (6 : Nat) →
     true = true ∧
     True ∧
     match decide ((↑x_1 : Int) < (6 : Int)) with
     | true =>
      True ∧
      True ∧
      True ∧
      (((sm (AV.d (D.st [D.slc (4 : Nat) W, D.arr IntKind.u8 (256 : Nat) bx, D.arr IntKind.u8 (256 : Nat) ux]).ref) ∧
      sm (AV.d (D.str p)) ∧
      sm (AV.d (D.str (ints { data := { toList := [] } }))) ∧
      sm (AV.d (D.val (Value.int IntKind.i64 (0 : Int)))) ∧
      sm (AV.d (D.val (Value.int IntKind.i64 (IntKind.i64.wrap ((↑p.length : Int).tdiv (8 : Int)))))) ∧
      sm (AV.ptr (7 : Nat) []) ∧
      sm (AV.row (34 : Nat)) ∧
      sm (AV.d (D.val (Value.int IntKind.i64 (↑(x + (1 : Nat)) : Int)))) ∧
      sm (AV.d (D.val (Value.int IntKind.i64 (↑x_1 : Int)))) ∧
      AV.d (D.val (Value.int IntKind.i64 (1 : Int))) = AV.d (D.val (Value.int IntKind.i64 (↑(1 : Nat) : Int))) ∧
      sm (AV.d (D.str p)) ∧
      sm (AV.d (D.val (Value.int IntKind.i64 (↑p.length : Int)))) ∧
      sm (AV.d (D.val (Value.int IntKind.i64 (IntKind.i64.wrap ((↑p.length : Int).tdiv (8 : Int)))))) ∧
      sm (AV.d (D.str p)) ∧
      sm (AV.d (D.val (Value.int IntKind.i64 (↑p.length : Int)))) ∧
      sm (AV.d (D.val (Value.int IntKind.i64 ((↑p.length : Int).tmod (8 : Int))))) ∧
      sm (AV.d (D.val (Value.bool (decide ((↑p.length : Int).tmod (8 : Int) > (0 : Int)))))) ∧
      sm (AV.d (D.val (Value.bool false))) ∧
      sm (AV.d (D.val (Value.int IntKind.i64 (IntKind.i64.wrap ((↑p.length : Int).tdiv (8 : Int)))))) ∧
      sm (AV.d (D.val (Value.bool (decide (IntKind.i64.wrap ((↑p.length : Int).tdiv (8 : Int)) < (2 : Int)))))) ∧
      sm (AV.d (D.val (Value.bool (decide (IntKind.i64.wrap ((↑p.length : Int).tdiv (8 : Int)) < (2 : Int)))))) ∧
      sm (AV.d (D.val (Value.bool false))) ∧
      sm (AV.d (D.val (Value.int IntKind.i64 (IntKind.i64.wrap ((↑p.length : Int).tdiv (8 : Int)))))) ∧
      sm (AV.d (D.val (Value.bool (decide (IntKind.i64.wrap ((↑p.length : Int).tdiv (8 : Int)) > (8 : Int)))))) ∧
      sm (AV.d (D.val (Value.bool (decide (IntKind.i64.wrap ((↑p.length : Int).tdiv (8 : Int)) > (8 : Int)))))) ∧
      sm (AV.d (D.arr IntKind.u8 (8 : Nat) [(166 : Int), (166 : Int), (166 : Int), (166 : Int), (166 : Int), (166 : Int), (166 : Int), (166 : Int)])) ∧
      sm (AV.d (D.val (Value.int IntKind.i64 (IntKind.i64.wrap ((↑p.length : Int).tdiv (8 : Int)))))) ∧
      sm (AV.d (D.val (Value.int IntKind.i64 (IntKind.i64.wrap (IntKind.i64.wrap ((↑p.length : Int).tdiv (8 : Int)) + (1 : Int)))))) ∧
      sm (AV.row (34 : Nat)) ∧
      sm (AV.d (D.val (Value.int IntKind.i64 (↑(x + (1 : Nat)) : Int)))) ∧
      sm (AV.d (D.val (Value.int IntKind.i64 (IntKind.i64.wrap ((↑p.length : Int).tdiv (8 : Int)))))) ∧
      sm (AV.d (D.val (Value.bool (decide ((↑(x + (1 : Nat)) : Int) ≤ IntKind.i64.wrap ((↑p.length : Int).tdiv (8 : Int))))))) ∧
      sm (AV.d (D.val (Value.int IntKind.i64 (↑x_1 : Int)))) ∧ sm (AV.d (D.val (Value.bool (decide ((↑x_1 : Int) < (6 : Int)))))) ∧ sm (AV.d (D.val (Value.int IntKind.i64 (↑x_1 : Int)))) ∧ True) ∧
      (some (Blk.fix (D.arr IntKind.u8 (8 : Nat) (rdA (wpL (flW W) (W.length / (4 : Nat) - (1 : Nat)) (wN p) (w0L p) (wN p * x_1)) (0 : Nat)))) =
      some (Blk.fix (D.arr IntKind.u8 (8 : Nat) (rdA (wpL (flW W) (W.length / (4 : Nat) - (1 : Nat)) (wN p) (w0L p) (wN p * (↑x_1 : Int).toNat + (0 : Nat))) (0 : Nat)))) ∧
      some (Blk.row (9 : TypeId) (D.slc (1 : Nat) (rwL (wN p) (wpL (flW W) (W.length / (4 : Nat) - (1 : Nat)) (wN p) (w0L p) (wN p * x_1)) (wN p + (1 : Nat))))) =
      some (Blk.row (9 : TypeId) (D.slc (1 : Nat) (rwL (wN p) (wpL (flW W) (W.length / (4 : Nat) - (1 : Nat)) (wN p) (w0L p) (wN p * (↑x_1 : Int).toNat + (0 : Nat))) (wN p + (1 : Nat))))) ∧
      True) ∧
      true = true) ∧
      (0 : Nat) ≤ wN p ∧ (↑(↑x_1 : Int).toNat : Int) = (↑x_1 : Int)) ∧
      ∀ (x_2 : Nat × Nat),
      x_2.fst ≤ wN p ∧ (↑x_2.snd : Int) = (↑x_1 : Int) →
      true = true ∧
      True ∧
      True ∧
      True ∧
      match decide ((↑(x_2.fst + (1 : Nat)) : Int) ≤ IntKind.i64.wrap ((↑p.length : Int).tdiv (8 : Int))) with
      | true =>
       True ∧
       ((0 : Int) ≤ (0 : Int) ∧ (0 : Int) ≤ (↑(8 : Nat) : Int) ∧ (↑(8 : Nat) : Int) ≤ (↑(8 : Nat) : Int) ∧ (8 : Nat) = (8 : Nat) ∧ (1 : Nat) = (1 : Nat)) ∧
       isBytes (List.take ((↑(8 : Nat) : Int).toNat - Int.toNat (0 : Int)) (List.drop (0 : Nat) (rdA (wpL (flW W) (W.length / (4 : Nat) - (1 : Nat)) (wN p) (w0L p) (wN p * x_2.snd + x_2.fst)) (0 : Nat)))) ∧
       True ∧
       True ∧
       ((0 : Int) ≤ (↑(x_2.fst + (1 : Nat)) : Int) ∧ (↑(x_2.fst + (1 : Nat)) : Int) < (↑(rwL (wN p) (wpL (flW W) (W.length / (4 : Nat) - (1 : Nat)) (wN p) (w0L p) (wN p * x_2.snd + x_2.fst)) (wN p + (1 : Nat))).length : Int) ∧ (1 : Nat) ≠ (0 : Nat) ∧ (1 : Nat) = (1 : Nat)) ∧
       ((↑(x_2.fst + (1 : Nat)) : Int).toNat < (rwL (wN p) (wpL (flW W) (W.length / (4 : Nat) - (1 : Nat)) (wN p) (w0L p) (wN p * x_2.snd + x_2.fst)) (wN p + (1 : Nat))).length ∧
       (1 : Nat) ≠ (0 : Nat) ∧
       (1 : Nat) = (1 : Nat) ∧
       D.str (strOf ((rwL (wN p) (wpL (flW W) (W.length / (4 : Nat) - (1 : Nat)) (wN p) (w0L p) (wN p * x_2.snd + x_2.fst)) (wN p + (1 : Nat))).getD (↑(x_2.fst + (1 : Nat)) : Int).toNat (D.val (Value.bool false)))) =
       (rwL (wN p) (wpL (flW W) (W.length / (4 : Nat) - (1 : Nat)) (wN p) (w0L p) (wN p * x_2.snd + x_2.fst)) (wN p + (1 : Nat))).getD (↑(x_2.fst + (1 : Nat)) : Int).toNat (D.val (Value.bool false)) ∧
       false = false) ∧
       (↑((List.take ((↑(8 : Nat) : Int).toNat - Int.toNat (0 : Int)) (List.drop (0 : Nat) (rdA (wpL (flW W) (W.length / (4 : Nat) - (1 : Nat)) (wN p) (w0L p) (wN p * x_2.snd + x_2.fst)) (0 : Nat)))).length +
       (strOf ((rwL (wN p) (wpL (flW W) (W.length / (4 : Nat) - (1 : Nat)) (wN p) (w0L p) (wN p * x_2.snd + x_2.fst)) (wN p + (1 : Nat))).getD (↑(x_2.fst + (1 : Nat)) : Int).toNat (D.val (Value.bool false)))).length) :
       Int) ≤
       (9223372036854775807 : Int) ∧
       (∃ (s : List Int),
       [D.str
       (List.take ((↑(8 : Nat) : Int).toNat - Int.toNat (0 : Int)) (List.drop (0 : Nat) (rdA (wpL (flW W) (W.length / (4 : Nat) - (1 : Nat)) (wN p) (w0L p) (wN p * x_2.snd + x_2.fst)) (0 : Nat))) ++
       strOf ((rwL (wN p) (wpL (flW W) (W.length / (4 : Nat) - (1 : Nat)) (wN p) (w0L p) (wN p * x_2.snd + x_2.fst)) (wN p + (1 : Nat))).getD (↑(x_2.fst + (1 : Nat)) : Int).toNat (D.val (Value.bool false))))] =
       [D.str s] ∧
       okb s ∧ (16 : Nat) ≤ s.length) ∧
       (∃ (W_1 : List D),
       ∃ (bx_1 : List Int),
       ∃ (ux_1 : List Int),
       ∃ (b : List Int),
       [(D.st [D.slc (4 : Nat) W, D.arr IntKind.u8 (256 : Nat) bx, D.arr IntKind.u8 (256 : Nat) ux]).ref,
       D.arr IntKind.u8 (16 : Nat)
       (List.take (16 : Nat)
       (List.take ((↑(8 : Nat) : Int).toNat - Int.toNat (0 : Int)) (List.drop (0 : Nat) (rdA (wpL (flW W) (W.length / (4 : Nat) - (1 : Nat)) (wN p) (w0L p) (wN p * x_2.snd + x_2.fst)) (0 : Nat))) ++
       strOf ((rwL (wN p) (wpL (flW W) (W.length / (4 : Nat) - (1 : Nat)) (wN p) (w0L p) (wN p * x_2.snd + x_2.fst)) (wN p + (1 : Nat))).getD (↑(x_2.fst + (1 : Nat)) : Int).toNat (D.val (Value.bool false)))))] =
       [(D.st [D.slc (4 : Nat) W_1, D.arr IntKind.u8 (256 : Nat) bx_1, D.arr IntKind.u8 (256 : Nat) ux_1]).ref, D.arr IntKind.u8 (16 : Nat) b] ∧
       okW W_1 ∧ (4 : Nat) ≤ W_1.length ∧ W_1.length ≤ (60 : Nat) ∧ okX bx_1 ux_1 ∧ isB (16 : Nat) b) ∧
       (True ∧ (16 : Nat) ≠ (0 : Nat)) ∧
       (Sk.arr (16 : Nat) = Sk.arr (16 : Nat) ∧ (16 : Nat) ≠ (0 : Nat) ∧ (16 : Nat) = (16 : Nat) ∧ false = false) ∧
       ((0 : Int) ≤ (0 : Int) ∧ (0 : Int) ≤ (8 : Int) ∧ (8 : Int) ≤ (↑(16 : Nat) : Int) ∧ (16 : Nat) = (16 : Nat) ∧ (1 : Nat) = (1 : Nat)) ∧
       isBytes
       (List.take (8 : Nat)
       (List.drop (0 : Nat)
       (enL (flW W) (W.length / (4 : Nat) - (1 : Nat))
       (List.take (16 : Nat)
       (List.take ((↑(8 : Nat) : Int).toNat - Int.toNat (0 : Int)) (List.drop (0 : Nat) (rdA (wpL (flW W) (W.length / (4 : Nat) - (1 : Nat)) (wN p) (w0L p) (wN p * x_2.snd + x_2.fst)) (0 : Nat))) ++
       strOf ((rwL (wN p) (wpL (flW W) (W.length / (4 : Nat) - (1 : Nat)) (wN p) (w0L p) (wN p * x_2.snd + x_2.fst)) (wN p + (1 : Nat))).getD (↑(x_2.fst + (1 : Nat)) : Int).toNat (D.val (Value.bool false)))))))) ∧
       (∃ (s : List Int),
       [D.str
       (List.take (8 : Nat)
       (List.drop (0 : Nat)
       (enL (flW W) (W.length / (4 : Nat) - (1 : Nat))
       (List.take (16 : Nat)
       (List.take ((↑(8 : Nat) : Int).toNat - Int.toNat (0 : Int)) (List.drop (0 : Nat) (rdA (wpL (flW W) (W.length / (4 : Nat) - (1 : Nat)) (wN p) (w0L p) (wN p * x_2.snd + x_2.fst)) (0 : Nat))) ++
       strOf ((rwL (wN p) (wpL (flW W) (W.length / (4 : Nat) - (1 : Nat)) (wN p) (w0L p) (wN p * x_2.snd + x_2.fst)) (wN p + (1 : Nat))).getD (↑(x_2.fst + (1 : Nat)) : Int).toNat (D.val (Value.bool false))))))))] =
       [D.str s] ∧
       okb s ∧ (8 : Nat) ≤ s.length) ∧
       True ∧
       True ∧
       True ∧
       True ∧
       True ∧
       (∃ (a : List Int),
       ∃ (t : Nat),
       [D.arr IntKind.u8 (8 : Nat)
       (List.take (8 : Nat)
       (List.take (8 : Nat)
       (List.drop (0 : Nat)
       (enL (flW W) (W.length / (4 : Nat) - (1 : Nat))
       (List.take (16 : Nat)
       (List.take ((↑(8 : Nat) : Int).toNat - Int.toNat (0 : Int)) (List.drop (0 : Nat) (rdA (wpL (flW W) (W.length / (4 : Nat) - (1 : Nat)) (wN p) (w0L p) (wN p * x_2.snd + x_2.fst)) (0 : Nat))) ++
       strOf ((rwL (wN p) (wpL (flW W) (W.length / (4 : Nat) - (1 : Nat)) (wN p) (w0L p) (wN p * x_2.snd + x_2.fst)) (wN p + (1 : Nat))).getD (↑(x_2.fst + (1 : Nat)) : Int).toNat (D.val (Value.bool false))))))))),
       D.val (Value.int IntKind.i64 (IntKind.i64.wrap (IntKind.i64.wrap (IntKind.i64.wrap ((↑p.length : Int).tdiv (8 : Int)) * (↑x_1 : Int)) + (↑(x_2.fst + (1 : Nat)) : Int))))] =
       [D.arr IntKind.u8 (8 : Nat) a, D.val (Value.int IntKind.i64 (↑t : Int))] ∧
       isB (8 : Nat) a ∧ t < (256 : Nat)) ∧
       (Sk.arr (8 : Nat) = Sk.arr (8 : Nat) ∧ (8 : Nat) ≠ (0 : Nat) ∧ (8 : Nat) = (8 : Nat) ∧ false = false) ∧
       True ∧
       True ∧
       ((0 : Int) ≤ (8 : Int) ∧ (8 : Int) ≤ (↑(16 : Nat) : Int) ∧ (↑(16 : Nat) : Int) ≤ (↑(16 : Nat) : Int) ∧ (16 : Nat) = (16 : Nat) ∧ (1 : Nat) = (1 : Nat)) ∧
       isBytes
       (List.take ((↑(16 : Nat) : Int).toNat - (8 : Nat))
       (List.drop (8 : Nat)
       (enL (flW W) (W.length / (4 : Nat) - (1 : Nat))
       (List.take (16 : Nat)
       (List.take ((↑(8 : Nat) : Int).toNat - Int.toNat (0 : Int)) (List.drop (0 : Nat) (rdA (wpL (flW W) (W.length / (4 : Nat) - (1 : Nat)) (wN p) (w0L p) (wN p * x_2.snd + x_2.fst)) (0 : Nat))) ++
       strOf ((rwL (wN p) (wpL (flW W) (W.length / (4 : Nat) - (1 : Nat)) (wN p) (w0L p) (wN p * x_2.snd + x_2.fst)) (wN p + (1 : Nat))).getD (↑(x_2.fst + (1 : Nat)) : Int).toNat (D.val (Value.bool false)))))))) ∧
       ((0 : Int) ≤ (↑(x_2.fst + (1 : Nat)) : Int) ∧
       (↑(x_2.fst + (1 : Nat)) : Int) < (↑(rwL (wN p) (wpL (flW W) (W.length / (4 : Nat) - (1 : Nat)) (wN p) (w0L p) (wN p * x_2.snd + x_2.fst)) (wN p + (1 : Nat))).length : Int) ∧ (1 : Nat) ≠ (0 : Nat) ∧ (1 : Nat) = (1 : Nat)) ∧
       ((↑(x_2.fst + (1 : Nat)) : Int).toNat < (rwL (wN p) (wpL (flW W) (W.length / (4 : Nat) - (1 : Nat)) (wN p) (w0L p) (wN p * x_2.snd + x_2.fst)) (wN p + (1 : Nat))).length ∧ (1 : Nat) = (1 : Nat) ∧ (1 : Nat) = (1 : Nat)) ∧
       True ∧
       True ∧
       True ∧
       ((sm (AV.d (D.st [D.slc (4 : Nat) W, D.arr IntKind.u8 (256 : Nat) bx, D.arr IntKind.u8 (256 : Nat) ux]).ref) ∧
       sm (AV.d (D.str p)) ∧
       sm (AV.d (D.str (ints { data := { toList := [] } }))) ∧
       sm (AV.d (D.val (Value.int IntKind.i64 (0 : Int)))) ∧
       sm (AV.d (D.val (Value.int IntKind.i64 (IntKind.i64.wrap ((↑p.length : Int).tdiv (8 : Int)))))) ∧
       sm (AV.ptr (7 : Nat) []) ∧
       sm (AV.row (34 : Nat)) ∧
       sm (AV.d (D.val (Value.int IntKind.i64 (↑(x + (1 : Nat)) : Int)))) ∧
       sm (AV.d (D.val (Value.int IntKind.i64 (↑x_1 : Int)))) ∧
       AV.d (D.val (Value.int IntKind.i64 (IntKind.i64.wrap ((↑(x_2.fst + (1 : Nat)) : Int) + (1 : Int))))) =
       AV.d (D.val (Value.int IntKind.i64 (↑((IntKind.i64.wrap ((↑(x_2.fst + (1 : Nat)) : Int) + (1 : Int))).toNat - (1 : Nat) + (1 : Nat)) : Int))) ∧
       sm (AV.d (D.str p)) ∧
       sm (AV.d (D.val (Value.int IntKind.i64 (↑p.length : Int)))) ∧
       sm (AV.d (D.val (Value.int IntKind.i64 (IntKind.i64.wrap ((↑p.length : Int).tdiv (8 : Int)))))) ∧
       sm (AV.d (D.str p)) ∧
       sm (AV.d (D.val (Value.int IntKind.i64 (↑p.length : Int)))) ∧
       sm (AV.d (D.val (Value.int IntKind.i64 ((↑p.length : Int).tmod (8 : Int))))) ∧
       sm (AV.d (D.val (Value.bool (decide ((↑p.length : Int).tmod (8 : Int) > (0 : Int)))))) ∧
       sm (AV.d (D.val (Value.bool false))) ∧
       sm (AV.d (D.val (Value.int IntKind.i64 (IntKind.i64.wrap ((↑p.length : Int).tdiv (8 : Int)))))) ∧
       sm (AV.d (D.val (Value.bool (decide (IntKind.i64.wrap ((↑p.length : Int).tdiv (8 : Int)) < (2 : Int)))))) ∧
       sm (AV.d (D.val (Value.bool (decide (IntKind.i64.wrap ((↑p.length : Int).tdiv (8 : Int)) < (2 : Int)))))) ∧
       sm (AV.d (D.val (Value.bool false))) ∧
       sm (AV.d (D.val (Value.int IntKind.i64 (IntKind.i64.wrap ((↑p.length : Int).tdiv (8 : Int)))))) ∧
       sm (AV.d (D.val (Value.bool (decide (IntKind.i64.wrap ((↑p.length : Int).tdiv (8 : Int)) > (8 : Int)))))) ∧
       sm (AV.d (D.val (Value.bool (decide (IntKind.i64.wrap ((↑p.length : Int).tdiv (8 : Int)) > (8 : Int)))))) ∧
       sm (AV.d (D.arr IntKind.u8 (8 : Nat) [(166 : Int), (166 : Int), (166 : Int), (166 : Int), (166 : Int), (166 : Int), (166 : Int), (166 : Int)])) ∧
       sm (AV.d (D.val (Value.int IntKind.i64 (IntKind.i64.wrap ((↑p.length : Int).tdiv (8 : Int)))))) ∧
       sm (AV.d (D.val (Value.int IntKind.i64 (IntKind.i64.wrap (IntKind.i64.wrap ((↑p.length : Int).tdiv (8 : Int)) + (1 : Int)))))) ∧
       sm (AV.row (34 : Nat)) ∧
       sm (AV.d (D.val (Value.int IntKind.i64 (↑(x + (1 : Nat)) : Int)))) ∧
       sm (AV.d (D.val (Value.int IntKind.i64 (IntKind.i64.wrap ((↑p.length : Int).tdiv (8 : Int)))))) ∧
       sm (AV.d (D.val (Value.bool (decide ((↑(x + (1 : Nat)) : Int) ≤ IntKind.i64.wrap ((↑p.length : Int).tdiv (8 : Int))))))) ∧
       sm (AV.d (D.val (Value.int IntKind.i64 (↑x_1 : Int)))) ∧
       sm (AV.d (D.val (Value.bool (decide ((↑x_1 : Int) < (6 : Int)))))) ∧ sm (AV.d (D.val (Value.int IntKind.i64 (↑x_1 : Int)))) ∧ True) ∧
       (some
       (Blk.fix
       (D.arr IntKind.u8 (8 : Nat)
       (cnL
       (List.take (8 : Nat)
       (List.take (8 : Nat)
       (List.drop (0 : Nat)
       (enL (flW W) (W.length / (4 : Nat) - (1 : Nat))
       (List.take (16 : Nat)
       (List.take ((↑(8 : Nat) : Int).toNat - Int.toNat (0 : Int)) (List.drop (0 : Nat) (rdA (wpL (flW W) (W.length / (4 : Nat) - (1 : Nat)) (wN p) (w0L p) (wN p * x_2.snd + x_2.fst)) (0 : Nat))) ++
       strOf
       ((rwL (wN p) (wpL (flW W) (W.length / (4 : Nat) - (1 : Nat)) (wN p) (w0L p) (wN p * x_2.snd + x_2.fst)) (wN p + (1 : Nat))).getD (↑(x_2.fst + (1 : Nat)) : Int).toNat
       (D.val (Value.bool false)))))))))
       (IntKind.i64.wrap (IntKind.i64.wrap (IntKind.i64.wrap ((↑p.length : Int).tdiv (8 : Int)) * (↑x_1 : Int)) + (↑(x_2.fst + (1 : Nat)) : Int))).toNat))) =
       some
       (Blk.fix
       (D.arr IntKind.u8 (8 : Nat)
       (rdA (wpL (flW W) (W.length / (4 : Nat) - (1 : Nat)) (wN p) (w0L p) (wN p * (↑x_1 : Int).toNat + ((IntKind.i64.wrap ((↑(x_2.fst + (1 : Nat)) : Int) + (1 : Int))).toNat - (1 : Nat)))) (0 : Nat)))) ∧
       some
       (Blk.row (9 : TypeId)
       (D.slc (1 : Nat)
       ((rwL (wN p) (wpL (flW W) (W.length / (4 : Nat) - (1 : Nat)) (wN p) (w0L p) (wN p * x_2.snd + x_2.fst)) (wN p + (1 : Nat))).set (↑(x_2.fst + (1 : Nat)) : Int).toNat
       (D.str
       (List.take ((↑(16 : Nat) : Int).toNat - (8 : Nat))
       (List.drop (8 : Nat)
       (enL (flW W) (W.length / (4 : Nat) - (1 : Nat))
       (List.take (16 : Nat)
       (List.take ((↑(8 : Nat) : Int).toNat - Int.toNat (0 : Int)) (List.drop (0 : Nat) (rdA (wpL (flW W) (W.length / (4 : Nat) - (1 : Nat)) (wN p) (w0L p) (wN p * x_2.snd + x_2.fst)) (0 : Nat))) ++
       strOf
       ((rwL (wN p) (wpL (flW W) (W.length / (4 : Nat) - (1 : Nat)) (wN p) (w0L p) (wN p * x_2.snd + x_2.fst)) (wN p + (1 : Nat))).getD (↑(x_2.fst + (1 : Nat)) : Int).toNat
       (D.val (Value.bool false)))))))))))) =
       some
       (Blk.row (9 : TypeId)
       (D.slc (1 : Nat)
       (rwL (wN p) (wpL (flW W) (W.length / (4 : Nat) - (1 : Nat)) (wN p) (w0L p) (wN p * (↑x_1 : Int).toNat + ((IntKind.i64.wrap ((↑(x_2.fst + (1 : Nat)) : Int) + (1 : Int))).toNat - (1 : Nat))))
       (wN p + (1 : Nat))))) ∧
       True) ∧
       true = true) ∧
       ((IntKind.i64.wrap ((↑(x_2.fst + (1 : Nat)) : Int) + (1 : Int))).toNat - (1 : Nat) ≤ wN p ∧ (↑(↑x_1 : Int).toNat : Int) = (↑x_1 : Int)) ∧
       wN p - ((IntKind.i64.wrap ((↑(x_2.fst + (1 : Nat)) : Int) + (1 : Int))).toNat - (1 : Nat)) < wN p - x_2.fst
      | false =>
       True ∧
       True ∧
       ((sm (AV.d (D.st [D.slc (4 : Nat) W, D.arr IntKind.u8 (256 : Nat) bx, D.arr IntKind.u8 (256 : Nat) ux]).ref) ∧
       sm (AV.d (D.str p)) ∧
       sm (AV.d (D.str (ints { data := { toList := [] } }))) ∧
       sm (AV.d (D.val (Value.int IntKind.i64 (0 : Int)))) ∧
       sm (AV.d (D.val (Value.int IntKind.i64 (IntKind.i64.wrap ((↑p.length : Int).tdiv (8 : Int)))))) ∧
       sm (AV.ptr (7 : Nat) []) ∧
       sm (AV.row (34 : Nat)) ∧
       sm (AV.d (D.val (Value.int IntKind.i64 (↑(x + (1 : Nat)) : Int)))) ∧
       sm (AV.d (D.str p)) ∧
       sm (AV.d (D.val (Value.int IntKind.i64 (↑p.length : Int)))) ∧
       sm (AV.d (D.val (Value.int IntKind.i64 (IntKind.i64.wrap ((↑p.length : Int).tdiv (8 : Int)))))) ∧
       sm (AV.d (D.str p)) ∧
       sm (AV.d (D.val (Value.int IntKind.i64 (↑p.length : Int)))) ∧
       sm (AV.d (D.val (Value.int IntKind.i64 ((↑p.length : Int).tmod (8 : Int))))) ∧
       sm (AV.d (D.val (Value.bool (decide ((↑p.length : Int).tmod (8 : Int) > (0 : Int)))))) ∧
       sm (AV.d (D.val (Value.bool false))) ∧
       sm (AV.d (D.val (Value.int IntKind.i64 (IntKind.i64.wrap ((↑p.length : Int).tdiv (8 : Int)))))) ∧
       sm (AV.d (D.val (Value.bool (decide (IntKind.i64.wrap ((↑p.length : Int).tdiv (8 : Int)) < (2 : Int)))))) ∧
       sm (AV.d (D.val (Value.bool (decide (IntKind.i64.wrap ((↑p.length : Int).tdiv (8 : Int)) < (2 : Int)))))) ∧
       sm (AV.d (D.val (Value.bool false))) ∧
       sm (AV.d (D.val (Value.int IntKind.i64 (IntKind.i64.wrap ((↑p.length : Int).tdiv (8 : Int)))))) ∧
       sm (AV.d (D.val (Value.bool (decide (IntKind.i64.wrap ((↑p.length : Int).tdiv (8 : Int)) > (8 : Int)))))) ∧
       sm (AV.d (D.val (Value.bool (decide (IntKind.i64.wrap ((↑p.length : Int).tdiv (8 : Int)) > (8 : Int)))))) ∧
       sm (AV.d (D.arr IntKind.u8 (8 : Nat) [(166 : Int), (166 : Int), (166 : Int), (166 : Int), (166 : Int), (166 : Int), (166 : Int), (166 : Int)])) ∧
       sm (AV.d (D.val (Value.int IntKind.i64 (IntKind.i64.wrap ((↑p.length : Int).tdiv (8 : Int)))))) ∧
       sm (AV.d (D.val (Value.int IntKind.i64 (IntKind.i64.wrap (IntKind.i64.wrap ((↑p.length : Int).tdiv (8 : Int)) + (1 : Int)))))) ∧
       sm (AV.row (34 : Nat)) ∧
       sm (AV.d (D.val (Value.int IntKind.i64 (↑(x + (1 : Nat)) : Int)))) ∧
       sm (AV.d (D.val (Value.int IntKind.i64 (IntKind.i64.wrap ((↑p.length : Int).tdiv (8 : Int)))))) ∧
       sm (AV.d (D.val (Value.bool (decide ((↑(x + (1 : Nat)) : Int) ≤ IntKind.i64.wrap ((↑p.length : Int).tdiv (8 : Int))))))) ∧
       AV.d (D.val (Value.int IntKind.i64 (IntKind.i64.wrap ((↑x_1 : Int) + (1 : Int))))) = AV.d (D.val (Value.int IntKind.i64 (↑(IntKind.i64.wrap ((↑x_1 : Int) + (1 : Int))).toNat : Int))) ∧ True) ∧
       (some (Blk.fix (D.arr IntKind.u8 (8 : Nat) (rdA (wpL (flW W) (W.length / (4 : Nat) - (1 : Nat)) (wN p) (w0L p) (wN p * x_2.snd + x_2.fst)) (0 : Nat)))) =
       some (Blk.fix (D.arr IntKind.u8 (8 : Nat) (rdA (wpL (flW W) (W.length / (4 : Nat) - (1 : Nat)) (wN p) (w0L p) (wN p * (IntKind.i64.wrap ((↑x_1 : Int) + (1 : Int))).toNat)) (0 : Nat)))) ∧
       some (Blk.row (9 : TypeId) (D.slc (1 : Nat) (rwL (wN p) (wpL (flW W) (W.length / (4 : Nat) - (1 : Nat)) (wN p) (w0L p) (wN p * x_2.snd + x_2.fst)) (wN p + (1 : Nat))))) =
       some (Blk.row (9 : TypeId) (D.slc (1 : Nat) (rwL (wN p) (wpL (flW W) (W.length / (4 : Nat) - (1 : Nat)) (wN p) (w0L p) (wN p * (IntKind.i64.wrap ((↑x_1 : Int) + (1 : Int))).toNat)) (wN p + (1 : Nat))))) ∧
       True) ∧
       true = true) ∧
       (IntKind.i64.wrap ((↑x_1 : Int) + (1 : Int))).toNat ≤ (6 : Nat) ∧ (6 : Nat) - (IntKind.i64.wrap ((↑x_1 : Int) + (1 : Int))).toNat < (6 : Nat) - x_1
     | false =>
      ((0 : Int) ≤ (0 : Int) ∧ (0 : Int) ≤ (↑(8 : Nat) : Int) ∧ (↑(8 : Nat) : Int) ≤ (↑(8 : Nat) : Int) ∧ (8 : Nat) = (8 : Nat) ∧ (1 : Nat) = (1 : Nat)) ∧
      isBytes (List.take ((↑(8 : Nat) : Int).toNat - Int.toNat (0 : Int)) (List.drop (0 : Nat) (rdA (wpL (flW W) (W.length / (4 : Nat) - (1 : Nat)) (wN p) (w0L p) (wN p * x_1)) (0 : Nat)))) ∧
      True ∧
      True ∧
      ((0 : Int) ≤ (1 : Int) ∧
      (1 : Int) ≤ (↑(rwL (wN p) (wpL (flW W) (W.length / (4 : Nat) - (1 : Nat)) (wN p) (w0L p) (wN p * x_1)) (wN p + (1 : Nat))).length : Int) ∧
      (↑(rwL (wN p) (wpL (flW W) (W.length / (4 : Nat) - (1 : Nat)) (wN p) (w0L p) (wN p * x_1)) (wN p + (1 : Nat))).length : Int) ≤ (↑(rwL (wN p) (wpL (flW W) (W.length / (4 : Nat) - (1 : Nat)) (wN p) (w0L p) (wN p * x_1)) (wN p + (1 : Nat))).length : Int) ∧
      (1 : Nat) ≠ (0 : Nat) ∧ (1 : Nat) = (1 : Nat)) ∧
      True ∧
      True ∧
      (((sm (AV.d (D.st [D.slc (4 : Nat) W, D.arr IntKind.u8 (256 : Nat) bx, D.arr IntKind.u8 (256 : Nat) ux]).ref) ∧
      sm (AV.d (D.str p)) ∧
      sm (AV.d (D.str (ints { data := { toList := [] } }))) ∧
      sm (AV.d (D.val (Value.int IntKind.i64 (0 : Int)))) ∧
      sm (AV.d (D.val (Value.int IntKind.i64 (IntKind.i64.wrap ((↑p.length : Int).tdiv (8 : Int)))))) ∧
      sm (AV.ptr (7 : Nat) []) ∧
      sm (AV.row (34 : Nat)) ∧
      sm (AV.d (D.val (Value.int IntKind.i64 (↑(x + (1 : Nat)) : Int)))) ∧
      AV.d (D.str (List.take ((↑(8 : Nat) : Int).toNat - Int.toNat (0 : Int)) (List.drop (0 : Nat) (rdA (wpL (flW W) (W.length / (4 : Nat) - (1 : Nat)) (wN p) (w0L p) (wN p * x_1)) (0 : Nat))))) =
      AV.d (D.str (List.take (8 : Nat) (wE (flW W) (W.length / (4 : Nat) - (1 : Nat)) p))) ∧
      sm (AV.d (D.str p)) ∧
      sm (AV.d (D.val (Value.int IntKind.i64 (↑p.length : Int)))) ∧
      sm (AV.d (D.val (Value.int IntKind.i64 (IntKind.i64.wrap ((↑p.length : Int).tdiv (8 : Int)))))) ∧
      sm (AV.d (D.str p)) ∧
      sm (AV.d (D.val (Value.int IntKind.i64 (↑p.length : Int)))) ∧
      sm (AV.d (D.val (Value.int IntKind.i64 ((↑p.length : Int).tmod (8 : Int))))) ∧
      sm (AV.d (D.val (Value.bool (decide ((↑p.length : Int).tmod (8 : Int) > (0 : Int)))))) ∧
      sm (AV.d (D.val (Value.bool false))) ∧
      sm (AV.d (D.val (Value.int IntKind.i64 (IntKind.i64.wrap ((↑p.length : Int).tdiv (8 : Int)))))) ∧
      sm (AV.d (D.val (Value.bool (decide (IntKind.i64.wrap ((↑p.length : Int).tdiv (8 : Int)) < (2 : Int)))))) ∧
      sm (AV.d (D.val (Value.bool (decide (IntKind.i64.wrap ((↑p.length : Int).tdiv (8 : Int)) < (2 : Int)))))) ∧
      sm (AV.d (D.val (Value.bool false))) ∧
      sm (AV.d (D.val (Value.int IntKind.i64 (IntKind.i64.wrap ((↑p.length : Int).tdiv (8 : Int)))))) ∧
      sm (AV.d (D.val (Value.bool (decide (IntKind.i64.wrap ((↑p.length : Int).tdiv (8 : Int)) > (8 : Int)))))) ∧
      sm (AV.d (D.val (Value.bool (decide (IntKind.i64.wrap ((↑p.length : Int).tdiv (8 : Int)) > (8 : Int)))))) ∧
      sm (AV.d (D.arr IntKind.u8 (8 : Nat) [(166 : Int), (166 : Int), (166 : Int), (166 : Int), (166 : Int), (166 : Int), (166 : Int), (166 : Int)])) ∧
      sm (AV.d (D.val (Value.int IntKind.i64 (IntKind.i64.wrap ((↑p.length : Int).tdiv (8 : Int)))))) ∧
      sm (AV.d (D.val (Value.int IntKind.i64 (IntKind.i64.wrap (IntKind.i64.wrap ((↑p.length : Int).tdiv (8 : Int)) + (1 : Int)))))) ∧
      sm (AV.row (34 : Nat)) ∧
      sm (AV.d (D.val (Value.int IntKind.i64 (↑(x + (1 : Nat)) : Int)))) ∧
      sm (AV.d (D.val (Value.int IntKind.i64 (IntKind.i64.wrap ((↑p.length : Int).tdiv (8 : Int)))))) ∧
      sm (AV.d (D.val (Value.bool (decide ((↑(x + (1 : Nat)) : Int) ≤ IntKind.i64.wrap ((↑p.length : Int).tdiv (8 : Int))))))) ∧
      sm (AV.d (D.val (Value.int IntKind.i64 (↑x_1 : Int)))) ∧
      sm (AV.d (D.val (Value.bool (decide ((↑x_1 : Int) < (6 : Int)))))) ∧
      sm (AV.own (7 : Nat) [] (0 : Nat) ((↑(8 : Nat) : Int).toNat - Int.toNat (0 : Int)) (8 : Nat)) ∧
      sm (AV.d (D.str (List.take ((↑(8 : Nat) : Int).toNat - Int.toNat (0 : Int)) (List.drop (0 : Nat) (rdA (wpL (flW W) (W.length / (4 : Nat) - (1 : Nat)) (wN p) (w0L p) (wN p * x_1)) (0 : Nat)))))) ∧
      sm (AV.row (34 : Nat)) ∧
      sm (AV.rpt (34 : Nat) (1 : Nat) (some ((↑(rwL (wN p) (wpL (flW W) (W.length / (4 : Nat) - (1 : Nat)) (wN p) (w0L p) (wN p * x_1)) (wN p + (1 : Nat))).length : Int).toNat - (1 : Nat)))) ∧
      sm (AV.d (D.val (Value.int IntKind.i64 (↑((↑(rwL (wN p) (wpL (flW W) (W.length / (4 : Nat) - (1 : Nat)) (wN p) (w0L p) (wN p * x_1)) (wN p + (1 : Nat))).length : Int).toNat - (1 : Nat)) : Int)))) ∧
      AV.d (D.val (Value.int IntKind.i64 (0 : Int))) = AV.d (D.val (Value.int IntKind.i64 (↑(Int.toNat (0 : Int)) : Int))) ∧ True) ∧
      (sm (some (Blk.fix (D.arr IntKind.u8 (8 : Nat) (rdA (wpL (flW W) (W.length / (4 : Nat) - (1 : Nat)) (wN p) (w0L p) (wN p * x_1)) (0 : Nat))))) ∧
      sm (some (Blk.row (9 : TypeId) (D.slc (1 : Nat) (rwL (wN p) (wpL (flW W) (W.length / (4 : Nat) - (1 : Nat)) (wN p) (w0L p) (wN p * x_1)) (wN p + (1 : Nat)))))) ∧ True) ∧
      true = true) ∧
      Int.toNat (0 : Int) ≤ wN p) ∧
      ∀ (x_2 : Nat),
      x_2 ≤ wN p →
      true = true ∧
      True ∧
      match decide ((↑x_2 : Int) < (↑((↑(rwL (wN p) (wpL (flW W) (W.length / (4 : Nat) - (1 : Nat)) (wN p) (w0L p) (wN p * x_1)) (wN p + (1 : Nat))).length : Int).toNat - (1 : Nat)) : Int)) with
      | true =>
       ((0 : Int) ≤ (↑x_2 : Int) ∧ (↑x_2 : Int) < (↑((↑(rwL (wN p) (wpL (flW W) (W.length / (4 : Nat) - (1 : Nat)) (wN p) (w0L p) (wN p * x_1)) (wN p + (1 : Nat))).length : Int).toNat - (1 : Nat)) : Int) ∧ (1 : Nat) ≠ (0 : Nat) ∧ (1 : Nat) = (1 : Nat)) ∧
       ((1 : Nat) + (↑x_2 : Int).toNat < (rwL (wN p) (wpL (flW W) (W.length / (4 : Nat) - (1 : Nat)) (wN p) (w0L p) (wN p * x_1)) (wN p + (1 : Nat))).length ∧
       (1 : Nat) ≠ (0 : Nat) ∧
       (1 : Nat) = (1 : Nat) ∧
       D.str (strOf ((rwL (wN p) (wpL (flW W) (W.length / (4 : Nat) - (1 : Nat)) (wN p) (w0L p) (wN p * x_1)) (wN p + (1 : Nat))).getD ((1 : Nat) + (↑x_2 : Int).toNat) (D.val (Value.bool false)))) =
       (rwL (wN p) (wpL (flW W) (W.length / (4 : Nat) - (1 : Nat)) (wN p) (w0L p) (wN p * x_1)) (wN p + (1 : Nat))).getD ((1 : Nat) + (↑x_2 : Int).toNat) (D.val (Value.bool false)) ∧
       false = false) ∧
       True ∧
       True ∧
       True ∧
       (↑((List.take ((8 : Nat) * (x_2 + (1 : Nat))) (wE (flW W) (W.length / (4 : Nat) - (1 : Nat)) p)).length +
       (strOf ((rwL (wN p) (wpL (flW W) (W.length / (4 : Nat) - (1 : Nat)) (wN p) (w0L p) (wN p * x_1)) (wN p + (1 : Nat))).getD ((1 : Nat) + (↑x_2 : Int).toNat) (D.val (Value.bool false)))).length) :
       Int) ≤
       (9223372036854775807 : Int) ∧
       True ∧
       True ∧
       True ∧
       ((sm (AV.d (D.st [D.slc (4 : Nat) W, D.arr IntKind.u8 (256 : Nat) bx, D.arr IntKind.u8 (256 : Nat) ux]).ref) ∧
       sm (AV.d (D.str p)) ∧
       sm (AV.d (D.str (ints { data := { toList := [] } }))) ∧
       sm (AV.d (D.val (Value.int IntKind.i64 (0 : Int)))) ∧
       sm (AV.d (D.val (Value.int IntKind.i64 (IntKind.i64.wrap ((↑p.length : Int).tdiv (8 : Int)))))) ∧
       sm (AV.ptr (7 : Nat) []) ∧
       sm (AV.row (34 : Nat)) ∧
       sm (AV.d (D.val (Value.int IntKind.i64 (↑(x + (1 : Nat)) : Int)))) ∧
       AV.d
       (D.str
       (List.take ((8 : Nat) * (x_2 + (1 : Nat))) (wE (flW W) (W.length / (4 : Nat) - (1 : Nat)) p) ++
       strOf ((rwL (wN p) (wpL (flW W) (W.length / (4 : Nat) - (1 : Nat)) (wN p) (w0L p) (wN p * x_1)) (wN p + (1 : Nat))).getD ((1 : Nat) + (↑x_2 : Int).toNat) (D.val (Value.bool false))))) =
       AV.d (D.str (List.take ((8 : Nat) * ((IntKind.i64.wrap ((↑x_2 : Int) + (1 : Int))).toNat + (1 : Nat))) (wE (flW W) (W.length / (4 : Nat) - (1 : Nat)) p))) ∧
       sm (AV.d (D.str p)) ∧
       sm (AV.d (D.val (Value.int IntKind.i64 (↑p.length : Int)))) ∧
       sm (AV.d (D.val (Value.int IntKind.i64 (IntKind.i64.wrap ((↑p.length : Int).tdiv (8 : Int)))))) ∧
       sm (AV.d (D.str p)) ∧
       sm (AV.d (D.val (Value.int IntKind.i64 (↑p.length : Int)))) ∧
       sm (AV.d (D.val (Value.int IntKind.i64 ((↑p.length : Int).tmod (8 : Int))))) ∧
       sm (AV.d (D.val (Value.bool (decide ((↑p.length : Int).tmod (8 : Int) > (0 : Int)))))) ∧
       sm (AV.d (D.val (Value.bool false))) ∧
       sm (AV.d (D.val (Value.int IntKind.i64 (IntKind.i64.wrap ((↑p.length : Int).tdiv (8 : Int)))))) ∧
       sm (AV.d (D.val (Value.bool (decide (IntKind.i64.wrap ((↑p.length : Int).tdiv (8 : Int)) < (2 : Int)))))) ∧
       sm (AV.d (D.val (Value.bool (decide (IntKind.i64.wrap ((↑p.length : Int).tdiv (8 : Int)) < (2 : Int)))))) ∧
       sm (AV.d (D.val (Value.bool false))) ∧
       sm (AV.d (D.val (Value.int IntKind.i64 (IntKind.i64.wrap ((↑p.length : Int).tdiv (8 : Int)))))) ∧
       sm (AV.d (D.val (Value.bool (decide (IntKind.i64.wrap ((↑p.length : Int).tdiv (8 : Int)) > (8 : Int)))))) ∧
       sm (AV.d (D.val (Value.bool (decide (IntKind.i64.wrap ((↑p.length : Int).tdiv (8 : Int)) > (8 : Int)))))) ∧
       sm (AV.d (D.arr IntKind.u8 (8 : Nat) [(166 : Int), (166 : Int), (166 : Int), (166 : Int), (166 : Int), (166 : Int), (166 : Int), (166 : Int)])) ∧
       sm (AV.d (D.val (Value.int IntKind.i64 (IntKind.i64.wrap ((↑p.length : Int).tdiv (8 : Int)))))) ∧
       sm (AV.d (D.val (Value.int IntKind.i64 (IntKind.i64.wrap (IntKind.i64.wrap ((↑p.length : Int).tdiv (8 : Int)) + (1 : Int)))))) ∧
       sm (AV.row (34 : Nat)) ∧
       sm (AV.d (D.val (Value.int IntKind.i64 (↑(x + (1 : Nat)) : Int)))) ∧
       sm (AV.d (D.val (Value.int IntKind.i64 (IntKind.i64.wrap ((↑p.length : Int).tdiv (8 : Int)))))) ∧
       sm (AV.d (D.val (Value.bool (decide ((↑(x + (1 : Nat)) : Int) ≤ IntKind.i64.wrap ((↑p.length : Int).tdiv (8 : Int))))))) ∧
       sm (AV.d (D.val (Value.int IntKind.i64 (↑x_1 : Int)))) ∧
       sm (AV.d (D.val (Value.bool (decide ((↑x_1 : Int) < (6 : Int)))))) ∧
       sm (AV.own (7 : Nat) [] (0 : Nat) ((↑(8 : Nat) : Int).toNat - Int.toNat (0 : Int)) (8 : Nat)) ∧
       sm
       (AV.d
       (D.str (List.take ((↑(8 : Nat) : Int).toNat - Int.toNat (0 : Int)) (List.drop (0 : Nat) (rdA (wpL (flW W) (W.length / (4 : Nat) - (1 : Nat)) (wN p) (w0L p) (wN p * x_1)) (0 : Nat)))))) ∧
       sm (AV.row (34 : Nat)) ∧
       sm (AV.rpt (34 : Nat) (1 : Nat) (some ((↑(rwL (wN p) (wpL (flW W) (W.length / (4 : Nat) - (1 : Nat)) (wN p) (w0L p) (wN p * x_1)) (wN p + (1 : Nat))).length : Int).toNat - (1 : Nat)))) ∧
       sm
       (AV.d
       (D.val
       (Value.int IntKind.i64
       (↑((↑(rwL (wN p) (wpL (flW W) (W.length / (4 : Nat) - (1 : Nat)) (wN p) (w0L p) (wN p * x_1)) (wN p + (1 : Nat))).length : Int).toNat - (1 : Nat)) : Int)))) ∧
       AV.d (D.val (Value.int IntKind.i64 (IntKind.i64.wrap ((↑x_2 : Int) + (1 : Int))))) = AV.d (D.val (Value.int IntKind.i64 (↑(IntKind.i64.wrap ((↑x_2 : Int) + (1 : Int))).toNat : Int))) ∧
       True) ∧
       (sm (some (Blk.fix (D.arr IntKind.u8 (8 : Nat) (rdA (wpL (flW W) (W.length / (4 : Nat) - (1 : Nat)) (wN p) (w0L p) (wN p * x_1)) (0 : Nat))))) ∧
       sm (some (Blk.row (9 : TypeId) (D.slc (1 : Nat) (rwL (wN p) (wpL (flW W) (W.length / (4 : Nat) - (1 : Nat)) (wN p) (w0L p) (wN p * x_1)) (wN p + (1 : Nat)))))) ∧ True) ∧
       true = true) ∧
       (IntKind.i64.wrap ((↑x_2 : Int) + (1 : Int))).toNat ≤ wN p ∧ wN p - (IntKind.i64.wrap ((↑x_2 : Int) + (1 : Int))).toNat < wN p - x_2
      | false => True ∧ True ∧ True ∧ (false = false ∧ false = false ∧ True) ∧ D.tup [D.str (List.take ((8 : Nat) * (x_2 + (1 : Nat))) (wE (flW W) (W.length / (4 : Nat) - (1 : Nat)) p)), D.val (Value.int IntKind.i64 (0 : Int))] = F) := by kernel_rfl
set_option maxRecDepth 100000 in
theorem vc35  (w : List Int) (R : Nat) (p : List Int) (F : D)  :
    (owed c35 (inv35 w R p) Try.f35 [keyD w ((R : Nat) : Int), .ints .u8 p] F) = (
 (True ∧ false = false) ∧
 True ∧
 True ∧
 True ∧
 True ∧
 (8 : Int) ≠ (0 : Int) ∧
 True ∧
 True ∧
 match (↑p.length : Int).tmod (8 : Int) != (0 : Int) with
 | true => True ∧ True ∧ True ∧ True ∧ True ∧ (false = false ∧ false = false ∧ True) ∧ D.tup [D.ints IntKind.u8 [], D.val (Value.int IntKind.i64 (1 : Int))] = F
 | false =>
  True ∧
  True ∧
  True ∧
  True ∧
  True ∧
  match decide ((↑p.length : Int) < (24 : Int)) with
  | true => True ∧ True ∧ True ∧ (false = false ∧ false = false ∧ True) ∧ D.tup [D.ints IntKind.u8 [], D.val (Value.int IntKind.i64 (1 : Int))] = F
  | false =>
   True ∧
   True ∧
   True ∧
   True ∧
   match decide ((↑p.length : Int) > (72 : Int)) with
   | true => True ∧ True ∧ (false = false ∧ false = false ∧ True) ∧ D.tup [D.ints IntKind.u8 [], D.val (Value.int IntKind.i64 (1 : Int))] = F
   | false =>
    True ∧
    ((1 : Nat) ≠ (0 : Nat) ∧ (25 : Nat) = (25 : Nat) ∧ true = true ∧ p.length ≤ (140737488355328 : Nat) ∧ p.length * (1 : Nat) ≤ (140737488355328 : Nat) ∧ (1 : Nat) ≠ (0 : Nat) ∧ (1 : Nat) = (1 : Nat)) ∧
    True ∧
    True ∧
    True ∧
    (8 : Int) ≠ (0 : Int) ∧
    True ∧
    True ∧
    True ∧
    True ∧
    True ∧
    (((sm (AV.d (D.st [D.arr IntKind.u8 (240 : Nat) w, D.val (Value.int IntKind.i64 (↑R : Int))])) ∧
    sm (AV.d (D.ints IntKind.u8 p)) ∧
    sm (AV.ptr (2 : Nat) []) ∧
    sm (AV.d (D.val (Value.slice none (0 : Nat) (0 : Nat)))) ∧
    sm (AV.d (D.val (Value.int IntKind.i64 (0 : Int)))) ∧
    sm (AV.row (28 : Nat)) ∧
    sm (AV.d (D.val (Value.int IntKind.i64 (IntKind.i64.wrap (IntKind.i64.wrap ((↑p.length : Int).tdiv (8 : Int)) - (1 : Int)))))) ∧
    AV.d (D.val (Value.int IntKind.i64 (IntKind.i64.wrap ((6 : Int) * IntKind.i64.wrap (IntKind.i64.wrap ((↑p.length : Int).tdiv (8 : Int)) - (1 : Int)))))) =
    AV.d (D.val (Value.int IntKind.i64 ((↑((6 : Nat) * uN p) : Int) - (↑((↑((6 : Nat) * uN p) : Int) - IntKind.i64.wrap ((6 : Int) * IntKind.i64.wrap (IntKind.i64.wrap ((↑p.length : Int).tdiv (8 : Int)) - (1 : Int)))).toNat : Int)))) ∧
    sm (AV.d (D.ints IntKind.u8 p)) ∧
    sm (AV.d (D.val (Value.int IntKind.i64 (↑p.length : Int)))) ∧
    sm (AV.d (D.val (Value.int IntKind.i64 ((↑p.length : Int).tmod (8 : Int))))) ∧
    sm (AV.d (D.val (Value.bool ((↑p.length : Int).tmod (8 : Int) != (0 : Int))))) ∧
    sm (AV.d (D.val (Value.bool false))) ∧
    sm (AV.d (D.ints IntKind.u8 p)) ∧
    sm (AV.d (D.val (Value.int IntKind.i64 (↑p.length : Int)))) ∧
    sm (AV.d (D.val (Value.bool (decide ((↑p.length : Int) < (24 : Int)))))) ∧
    sm (AV.d (D.val (Value.bool (decide ((↑p.length : Int) < (24 : Int)))))) ∧
    sm (AV.d (D.val (Value.bool false))) ∧
    sm (AV.d (D.ints IntKind.u8 p)) ∧
    sm (AV.d (D.val (Value.int IntKind.i64 (↑p.length : Int)))) ∧
    sm (AV.d (D.val (Value.bool (decide ((↑p.length : Int) > (72 : Int)))))) ∧
    sm (AV.d (D.val (Value.bool (decide ((↑p.length : Int) > (72 : Int)))))) ∧
    sm (AV.d (D.ints IntKind.u8 p)) ∧
    sm (AV.row (28 : Nat)) ∧
    sm (AV.d (D.ints IntKind.u8 p)) ∧
    sm (AV.d (D.val (Value.int IntKind.i64 (↑p.length : Int)))) ∧
    sm (AV.d (D.val (Value.int IntKind.i64 (IntKind.i64.wrap ((↑p.length : Int).tdiv (8 : Int)))))) ∧
    sm (AV.d (D.val (Value.int IntKind.i64 (IntKind.i64.wrap (IntKind.i64.wrap ((↑p.length : Int).tdiv (8 : Int)) - (1 : Int)))))) ∧
    sm (AV.d (D.val (Value.int IntKind.i64 (IntKind.i64.wrap (IntKind.i64.wrap ((↑p.length : Int).tdiv (8 : Int)) - (1 : Int)))))) ∧
    sm (AV.d (D.val (Value.int IntKind.i64 (IntKind.i64.wrap ((6 : Int) * IntKind.i64.wrap (IntKind.i64.wrap ((↑p.length : Int).tdiv (8 : Int)) - (1 : Int))))))) ∧ True) ∧
    (sm (some (Blk.fix (D.st [D.arr IntKind.u8 (240 : Nat) w, D.val (Value.int IntKind.i64 (↑R : Int))]))) ∧
    some (Blk.row (5 : TypeId) (D.ints IntKind.u8 p)) = some (Blk.row (5 : TypeId) (D.ints IntKind.u8 (uwL w R (uN p) p ((↑((6 : Nat) * uN p) : Int) - IntKind.i64.wrap ((6 : Int) * IntKind.i64.wrap (IntKind.i64.wrap ((↑p.length : Int).tdiv (8 : Int)) - (1 : Int)))).toNat))) ∧ True) ∧
    true = true) ∧
    ((↑((6 : Nat) * uN p) : Int) - IntKind.i64.wrap ((6 : Int) * IntKind.i64.wrap (IntKind.i64.wrap ((↑p.length : Int).tdiv (8 : Int)) - (1 : Int)))).toNat ≤ (6 : Nat) * uN p) ∧
    ∀ (x : Nat),
    x ≤ (6 : Nat) * uN p →
    true = true ∧
    True ∧
    True ∧
    match decide ((↑((6 : Nat) * uN p) : Int) - (↑x : Int) ≥ (1 : Int)) with
    | true =>
     True ∧
     True ∧
     True ∧
     IntKind.i64.wrap (IntKind.i64.wrap ((↑p.length : Int).tdiv (8 : Int)) - (1 : Int)) ≠ (0 : Int) ∧
     True ∧
     True ∧
     True ∧
     (True ∧ (16 : Nat) ≠ (0 : Nat)) ∧
     ((0 : Int) ≤ (0 : Int) ∧ (0 : Int) ≤ (8 : Int) ∧ (8 : Int) ≤ (↑(16 : Nat) : Int) ∧ (16 : Nat) = (16 : Nat) ∧ (1 : Nat) = (1 : Nat)) ∧
     True ∧
     (IntKind.u8 = IntKind.u8 ∧ (1 : Nat) = (1 : Nat)) ∧
     ((0 : Int) ≤ (8 : Int) ∧ (8 : Int) ≤ (↑(16 : Nat) : Int) ∧ (↑(16 : Nat) : Int) ≤ (↑(16 : Nat) : Int) ∧ (16 : Nat) = (16 : Nat) ∧ (1 : Nat) = (1 : Nat)) ∧
     True ∧
     True ∧
     ((0 : Int) ≤ IntKind.i64.wrap (IntKind.i64.wrap ((IntKind.i64.wrap ((↑((6 : Nat) * uN p) : Int) - (↑x : Int) - (1 : Int))).tmod (IntKind.i64.wrap (IntKind.i64.wrap ((↑p.length : Int).tdiv (8 : Int)) - (1 : Int))) + (1 : Int)) * (8 : Int)) ∧
     IntKind.i64.wrap (IntKind.i64.wrap ((IntKind.i64.wrap ((↑((6 : Nat) * uN p) : Int) - (↑x : Int) - (1 : Int))).tmod (IntKind.i64.wrap (IntKind.i64.wrap ((↑p.length : Int).tdiv (8 : Int)) - (1 : Int))) + (1 : Int)) * (8 : Int)) ≤ (↑(uwL w R (uN p) p x).length : Int) ∧
     (↑(uwL w R (uN p) p x).length : Int) ≤ (↑(uwL w R (uN p) p x).length : Int) ∧ (1 : Nat) ≠ (0 : Nat) ∧ (1 : Nat) = (1 : Nat)) ∧
     (IntKind.u8 = IntKind.u8 ∧ (1 : Nat) = (1 : Nat)) ∧
     ((0 : Int) ≤ (7 : Int) ∧ (7 : Int) < (↑(16 : Nat) : Int) ∧ (16 : Nat) = (16 : Nat) ∧ (1 : Nat) = (1 : Nat)) ∧
     ((1 : Nat) ≠ (0 : Nat) ∧ (1 : Nat) = (1 : Nat) ∧ false = false) ∧
     True ∧
     True ∧
     True ∧
     ((0 : Int) ≤ (7 : Int) ∧ (7 : Int) < (↑(16 : Nat) : Int) ∧ (16 : Nat) = (16 : Nat) ∧ (1 : Nat) = (1 : Nat)) ∧
     (((7 : Nat) < (16 : Nat) ∧ ([] : List Nat) = [] ∧ true = true) ∧ (1 : Nat) ≠ (0 : Nat) ∧ (1 : Nat) = (1 : Nat) ∧ false = false) ∧
     ((241 : Nat) ≠ (0 : Nat) ∧ (241 : Nat) = (241 : Nat) ∧ true = true) ∧
     ((16 : Nat) ≠ (0 : Nat) ∧ (16 : Nat) = (16 : Nat) ∧ true = true) ∧
     (∃ (w_1 : List Int),
     ∃ (R_1 : Nat),
     ∃ (b : List Int),
     [D.st [D.arr IntKind.u8 (240 : Nat) w, D.val (Value.int IntKind.i64 (↑R : Int))],
     D.arr IntKind.u8 (16 : Nat)
     ((cpL (cpL [(0 : Int), (0 : Int), (0 : Int), (0 : Int), (0 : Int), (0 : Int), (0 : Int), (0 : Int), (0 : Int), (0 : Int), (0 : Int), (0 : Int), (0 : Int), (0 : Int), (0 : Int), (0 : Int)] (0 : Nat) (uwL w R (uN p) p x) (8 : Nat)) (8 : Nat)
     (List.take
     ((↑(uwL w R (uN p) p x).length : Int).toNat -
     (IntKind.i64.wrap (IntKind.i64.wrap ((IntKind.i64.wrap ((↑((6 : Nat) * uN p) : Int) - (↑x : Int) - (1 : Int))).tmod (IntKind.i64.wrap (IntKind.i64.wrap ((↑p.length : Int).tdiv (8 : Int)) - (1 : Int))) + (1 : Int)) * (8 : Int))).toNat)
     (List.drop (IntKind.i64.wrap (IntKind.i64.wrap ((IntKind.i64.wrap ((↑((6 : Nat) * uN p) : Int) - (↑x : Int) - (1 : Int))).tmod (IntKind.i64.wrap (IntKind.i64.wrap ((↑p.length : Int).tdiv (8 : Int)) - (1 : Int))) + (1 : Int)) * (8 : Int))).toNat
     (uwL w R (uN p) p x)))
     ((↑(16 : Nat) : Int).toNat - (8 : Nat))).set
     (7 : Nat)
     (ixor IntKind.u8
     ((cpL (cpL [(0 : Int), (0 : Int), (0 : Int), (0 : Int), (0 : Int), (0 : Int), (0 : Int), (0 : Int), (0 : Int), (0 : Int), (0 : Int), (0 : Int), (0 : Int), (0 : Int), (0 : Int), (0 : Int)] (0 : Nat) (uwL w R (uN p) p x) (8 : Nat)) (8 : Nat)
     (List.take
     ((↑(uwL w R (uN p) p x).length : Int).toNat -
     (IntKind.i64.wrap (IntKind.i64.wrap ((IntKind.i64.wrap ((↑((6 : Nat) * uN p) : Int) - (↑x : Int) - (1 : Int))).tmod (IntKind.i64.wrap (IntKind.i64.wrap ((↑p.length : Int).tdiv (8 : Int)) - (1 : Int))) + (1 : Int)) * (8 : Int))).toNat)
     (List.drop (IntKind.i64.wrap (IntKind.i64.wrap ((IntKind.i64.wrap ((↑((6 : Nat) * uN p) : Int) - (↑x : Int) - (1 : Int))).tmod (IntKind.i64.wrap (IntKind.i64.wrap ((↑p.length : Int).tdiv (8 : Int)) - (1 : Int))) + (1 : Int)) * (8 : Int))).toNat
     (uwL w R (uN p) p x)))
     ((↑(16 : Nat) : Int).toNat - (8 : Nat))).getD
     (7 : Nat) (0 : Int))
     (IntKind.u8.wrap ((↑((6 : Nat) * uN p) : Int) - (↑x : Int)))))] =
     [D.st [D.arr IntKind.u8 (240 : Nat) w_1, D.val (Value.int IntKind.i64 (↑R_1 : Int))], D.arr IntKind.u8 (16 : Nat) b] ∧
     isB (240 : Nat) w_1 ∧ isB (16 : Nat) b ∧ R_1 ≤ (14 : Nat)) ∧
     (Sk.arr (16 : Nat) = Sk.arr (16 : Nat) ∧ (16 : Nat) ≠ (0 : Nat) ∧ (16 : Nat) = (16 : Nat) ∧ false = false) ∧
     True ∧
     ((0 : Int) ≤ (0 : Int) ∧ (0 : Int) ≤ (8 : Int) ∧ (8 : Int) ≤ (↑(16 : Nat) : Int) ∧ (16 : Nat) = (16 : Nat) ∧ (1 : Nat) = (1 : Nat)) ∧
     (IntKind.u8 = IntKind.u8 ∧ (1 : Nat) = (1 : Nat)) ∧
     True ∧
     True ∧
     ((0 : Int) ≤ IntKind.i64.wrap (IntKind.i64.wrap ((IntKind.i64.wrap ((↑((6 : Nat) * uN p) : Int) - (↑x : Int) - (1 : Int))).tmod (IntKind.i64.wrap (IntKind.i64.wrap ((↑p.length : Int).tdiv (8 : Int)) - (1 : Int))) + (1 : Int)) * (8 : Int)) ∧
     IntKind.i64.wrap (IntKind.i64.wrap ((IntKind.i64.wrap ((↑((6 : Nat) * uN p) : Int) - (↑x : Int) - (1 : Int))).tmod (IntKind.i64.wrap (IntKind.i64.wrap ((↑p.length : Int).tdiv (8 : Int)) - (1 : Int))) + (1 : Int)) * (8 : Int)) ≤
     (↑(cpL (uwL w R (uN p) p x) (0 : Nat)
     (List.take (8 : Nat)
     (List.drop (0 : Nat)
     (deL w (↑R : Int).toNat
     ((cpL (cpL [(0 : Int), (0 : Int), (0 : Int), (0 : Int), (0 : Int), (0 : Int), (0 : Int), (0 : Int), (0 : Int), (0 : Int), (0 : Int), (0 : Int), (0 : Int), (0 : Int), (0 : Int), (0 : Int)] (0 : Nat) (uwL w R (uN p) p x) (8 : Nat))
     (8 : Nat)
     (List.take
     ((↑(uwL w R (uN p) p x).length : Int).toNat -
     (IntKind.i64.wrap
     (IntKind.i64.wrap ((IntKind.i64.wrap ((↑((6 : Nat) * uN p) : Int) - (↑x : Int) - (1 : Int))).tmod (IntKind.i64.wrap (IntKind.i64.wrap ((↑p.length : Int).tdiv (8 : Int)) - (1 : Int))) + (1 : Int)) * (8 : Int))).toNat)
     (List.drop
     (IntKind.i64.wrap
     (IntKind.i64.wrap ((IntKind.i64.wrap ((↑((6 : Nat) * uN p) : Int) - (↑x : Int) - (1 : Int))).tmod (IntKind.i64.wrap (IntKind.i64.wrap ((↑p.length : Int).tdiv (8 : Int)) - (1 : Int))) + (1 : Int)) * (8 : Int))).toNat
     (uwL w R (uN p) p x)))
     ((↑(16 : Nat) : Int).toNat - (8 : Nat))).set
     (7 : Nat)
     (ixor IntKind.u8
     ((cpL (cpL [(0 : Int), (0 : Int), (0 : Int), (0 : Int), (0 : Int), (0 : Int), (0 : Int), (0 : Int), (0 : Int), (0 : Int), (0 : Int), (0 : Int), (0 : Int), (0 : Int), (0 : Int), (0 : Int)] (0 : Nat) (uwL w R (uN p) p x) (8 : Nat))
     (8 : Nat)
     (List.take
     ((↑(uwL w R (uN p) p x).length : Int).toNat -
     (IntKind.i64.wrap
     (IntKind.i64.wrap ((IntKind.i64.wrap ((↑((6 : Nat) * uN p) : Int) - (↑x : Int) - (1 : Int))).tmod (IntKind.i64.wrap (IntKind.i64.wrap ((↑p.length : Int).tdiv (8 : Int)) - (1 : Int))) + (1 : Int)) * (8 : Int))).toNat)
     (List.drop
     (IntKind.i64.wrap
     (IntKind.i64.wrap ((IntKind.i64.wrap ((↑((6 : Nat) * uN p) : Int) - (↑x : Int) - (1 : Int))).tmod (IntKind.i64.wrap (IntKind.i64.wrap ((↑p.length : Int).tdiv (8 : Int)) - (1 : Int))) + (1 : Int)) * (8 : Int))).toNat
     (uwL w R (uN p) p x)))
     ((↑(16 : Nat) : Int).toNat - (8 : Nat))).getD
     (7 : Nat) (0 : Int))
     (IntKind.u8.wrap ((↑((6 : Nat) * uN p) : Int) - (↑x : Int))))))))
     (uwL w R (uN p) p x).length).length :
     Int) ∧
     (↑(cpL (uwL w R (uN p) p x) (0 : Nat)
     (List.take (8 : Nat)
     (List.drop (0 : Nat)
     (deL w (↑R : Int).toNat
     ((cpL (cpL [(0 : Int), (0 : Int), (0 : Int), (0 : Int), (0 : Int), (0 : Int), (0 : Int), (0 : Int), (0 : Int), (0 : Int), (0 : Int), (0 : Int), (0 : Int), (0 : Int), (0 : Int), (0 : Int)] (0 : Nat) (uwL w R (uN p) p x) (8 : Nat))
     (8 : Nat)
     (List.take
     ((↑(uwL w R (uN p) p x).length : Int).toNat -
     (IntKind.i64.wrap
     (IntKind.i64.wrap ((IntKind.i64.wrap ((↑((6 : Nat) * uN p) : Int) - (↑x : Int) - (1 : Int))).tmod (IntKind.i64.wrap (IntKind.i64.wrap ((↑p.length : Int).tdiv (8 : Int)) - (1 : Int))) + (1 : Int)) * (8 : Int))).toNat)
     (List.drop
     (IntKind.i64.wrap
     (IntKind.i64.wrap ((IntKind.i64.wrap ((↑((6 : Nat) * uN p) : Int) - (↑x : Int) - (1 : Int))).tmod (IntKind.i64.wrap (IntKind.i64.wrap ((↑p.length : Int).tdiv (8 : Int)) - (1 : Int))) + (1 : Int)) * (8 : Int))).toNat
     (uwL w R (uN p) p x)))
     ((↑(16 : Nat) : Int).toNat - (8 : Nat))).set
     (7 : Nat)
     (ixor IntKind.u8
     ((cpL (cpL [(0 : Int), (0 : Int), (0 : Int), (0 : Int), (0 : Int), (0 : Int), (0 : Int), (0 : Int), (0 : Int), (0 : Int), (0 : Int), (0 : Int), (0 : Int), (0 : Int), (0 : Int), (0 : Int)] (0 : Nat) (uwL w R (uN p) p x) (8 : Nat))
     (8 : Nat)
     (List.take
     ((↑(uwL w R (uN p) p x).length : Int).toNat -
     (IntKind.i64.wrap
     (IntKind.i64.wrap ((IntKind.i64.wrap ((↑((6 : Nat) * uN p) : Int) - (↑x : Int) - (1 : Int))).tmod (IntKind.i64.wrap (IntKind.i64.wrap ((↑p.length : Int).tdiv (8 : Int)) - (1 : Int))) + (1 : Int)) * (8 : Int))).toNat)
     (List.drop
     (IntKind.i64.wrap
     (IntKind.i64.wrap ((IntKind.i64.wrap ((↑((6 : Nat) * uN p) : Int) - (↑x : Int) - (1 : Int))).tmod (IntKind.i64.wrap (IntKind.i64.wrap ((↑p.length : Int).tdiv (8 : Int)) - (1 : Int))) + (1 : Int)) * (8 : Int))).toNat
     (uwL w R (uN p) p x)))
     ((↑(16 : Nat) : Int).toNat - (8 : Nat))).getD
     (7 : Nat) (0 : Int))
     (IntKind.u8.wrap ((↑((6 : Nat) * uN p) : Int) - (↑x : Int))))))))
     (uwL w R (uN p) p x).length).length :
     Int) ≤
     (↑(cpL (uwL w R (uN p) p x) (0 : Nat)
     (List.take (8 : Nat)
     (List.drop (0 : Nat)
     (deL w (↑R : Int).toNat
     ((cpL (cpL [(0 : Int), (0 : Int), (0 : Int), (0 : Int), (0 : Int), (0 : Int), (0 : Int), (0 : Int), (0 : Int), (0 : Int), (0 : Int), (0 : Int), (0 : Int), (0 : Int), (0 : Int), (0 : Int)] (0 : Nat) (uwL w R (uN p) p x) (8 : Nat))
     (8 : Nat)
     (List.take
     ((↑(uwL w R (uN p) p x).length : Int).toNat -
     (IntKind.i64.wrap
     (IntKind.i64.wrap ((IntKind.i64.wrap ((↑((6 : Nat) * uN p) : Int) - (↑x : Int) - (1 : Int))).tmod (IntKind.i64.wrap (IntKind.i64.wrap ((↑p.length : Int).tdiv (8 : Int)) - (1 : Int))) + (1 : Int)) * (8 : Int))).toNat)
     (List.drop
     (IntKind.i64.wrap
     (IntKind.i64.wrap ((IntKind.i64.wrap ((↑((6 : Nat) * uN p) : Int) - (↑x : Int) - (1 : Int))).tmod (IntKind.i64.wrap (IntKind.i64.wrap ((↑p.length : Int).tdiv (8 : Int)) - (1 : Int))) + (1 : Int)) * (8 : Int))).toNat
     (uwL w R (uN p) p x)))
     ((↑(16 : Nat) : Int).toNat - (8 : Nat))).set
     (7 : Nat)
     (ixor IntKind.u8
     ((cpL (cpL [(0 : Int), (0 : Int), (0 : Int), (0 : Int), (0 : Int), (0 : Int), (0 : Int), (0 : Int), (0 : Int), (0 : Int), (0 : Int), (0 : Int), (0 : Int), (0 : Int), (0 : Int), (0 : Int)] (0 : Nat) (uwL w R (uN p) p x) (8 : Nat))
     (8 : Nat)
     (List.take
     ((↑(uwL w R (uN p) p x).length : Int).toNat -
     (IntKind.i64.wrap
     (IntKind.i64.wrap ((IntKind.i64.wrap ((↑((6 : Nat) * uN p) : Int) - (↑x : Int) - (1 : Int))).tmod (IntKind.i64.wrap (IntKind.i64.wrap ((↑p.length : Int).tdiv (8 : Int)) - (1 : Int))) + (1 : Int)) * (8 : Int))).toNat)
     (List.drop
     (IntKind.i64.wrap
     (IntKind.i64.wrap ((IntKind.i64.wrap ((↑((6 : Nat) * uN p) : Int) - (↑x : Int) - (1 : Int))).tmod (IntKind.i64.wrap (IntKind.i64.wrap ((↑p.length : Int).tdiv (8 : Int)) - (1 : Int))) + (1 : Int)) * (8 : Int))).toNat
     (uwL w R (uN p) p x)))
     ((↑(16 : Nat) : Int).toNat - (8 : Nat))).getD
     (7 : Nat) (0 : Int))
     (IntKind.u8.wrap ((↑((6 : Nat) * uN p) : Int) - (↑x : Int))))))))
     (uwL w R (uN p) p x).length).length :
     Int) ∧
     (1 : Nat) ≠ (0 : Nat) ∧ (1 : Nat) = (1 : Nat)) ∧
     ((0 : Int) ≤ (8 : Int) ∧ (8 : Int) ≤ (↑(16 : Nat) : Int) ∧ (↑(16 : Nat) : Int) ≤ (↑(16 : Nat) : Int) ∧ (16 : Nat) = (16 : Nat) ∧ (1 : Nat) = (1 : Nat)) ∧
     (IntKind.u8 = IntKind.u8 ∧ (1 : Nat) = (1 : Nat)) ∧
     True ∧
     True ∧
     True ∧
     ((sm (AV.d (D.st [D.arr IntKind.u8 (240 : Nat) w, D.val (Value.int IntKind.i64 (↑R : Int))])) ∧
     sm (AV.d (D.ints IntKind.u8 p)) ∧
     sm (AV.ptr (2 : Nat) []) ∧
     sm (AV.d (D.val (Value.slice none (0 : Nat) (0 : Nat)))) ∧
     sm (AV.d (D.val (Value.int IntKind.i64 (0 : Int)))) ∧
     sm (AV.row (28 : Nat)) ∧
     sm (AV.d (D.val (Value.int IntKind.i64 (IntKind.i64.wrap (IntKind.i64.wrap ((↑p.length : Int).tdiv (8 : Int)) - (1 : Int)))))) ∧
     AV.d (D.val (Value.int IntKind.i64 (IntKind.i64.wrap ((↑((6 : Nat) * uN p) : Int) - (↑x : Int) - (1 : Int))))) =
     AV.d (D.val (Value.int IntKind.i64 ((↑((6 : Nat) * uN p) : Int) - (↑((↑((6 : Nat) * uN p) : Int) - IntKind.i64.wrap ((↑((6 : Nat) * uN p) : Int) - (↑x : Int) - (1 : Int))).toNat : Int)))) ∧
     sm (AV.d (D.ints IntKind.u8 p)) ∧
     sm (AV.d (D.val (Value.int IntKind.i64 (↑p.length : Int)))) ∧
     sm (AV.d (D.val (Value.int IntKind.i64 ((↑p.length : Int).tmod (8 : Int))))) ∧
     sm (AV.d (D.val (Value.bool ((↑p.length : Int).tmod (8 : Int) != (0 : Int))))) ∧
     sm (AV.d (D.val (Value.bool false))) ∧
     sm (AV.d (D.ints IntKind.u8 p)) ∧
     sm (AV.d (D.val (Value.int IntKind.i64 (↑p.length : Int)))) ∧
     sm (AV.d (D.val (Value.bool (decide ((↑p.length : Int) < (24 : Int)))))) ∧
     sm (AV.d (D.val (Value.bool (decide ((↑p.length : Int) < (24 : Int)))))) ∧
     sm (AV.d (D.val (Value.bool false))) ∧
     sm (AV.d (D.ints IntKind.u8 p)) ∧
     sm (AV.d (D.val (Value.int IntKind.i64 (↑p.length : Int)))) ∧
     sm (AV.d (D.val (Value.bool (decide ((↑p.length : Int) > (72 : Int)))))) ∧
     sm (AV.d (D.val (Value.bool (decide ((↑p.length : Int) > (72 : Int)))))) ∧
     sm (AV.d (D.ints IntKind.u8 p)) ∧
     sm (AV.row (28 : Nat)) ∧
     sm (AV.d (D.ints IntKind.u8 p)) ∧
     sm (AV.d (D.val (Value.int IntKind.i64 (↑p.length : Int)))) ∧
     sm (AV.d (D.val (Value.int IntKind.i64 (IntKind.i64.wrap ((↑p.length : Int).tdiv (8 : Int)))))) ∧
     sm (AV.d (D.val (Value.int IntKind.i64 (IntKind.i64.wrap (IntKind.i64.wrap ((↑p.length : Int).tdiv (8 : Int)) - (1 : Int)))))) ∧
     sm (AV.d (D.val (Value.int IntKind.i64 (IntKind.i64.wrap (IntKind.i64.wrap ((↑p.length : Int).tdiv (8 : Int)) - (1 : Int)))))) ∧
     sm (AV.d (D.val (Value.int IntKind.i64 (IntKind.i64.wrap ((6 : Int) * IntKind.i64.wrap (IntKind.i64.wrap ((↑p.length : Int).tdiv (8 : Int)) - (1 : Int))))))) ∧ True) ∧
     (sm (some (Blk.fix (D.st [D.arr IntKind.u8 (240 : Nat) w, D.val (Value.int IntKind.i64 (↑R : Int))]))) ∧
     some
     (Blk.row (5 : TypeId)
     (D.ints IntKind.u8
     (cpL
     (cpL (uwL w R (uN p) p x) (0 : Nat)
     (List.take (8 : Nat)
     (List.drop (0 : Nat)
     (deL w (↑R : Int).toNat
     ((cpL
     (cpL [(0 : Int), (0 : Int), (0 : Int), (0 : Int), (0 : Int), (0 : Int), (0 : Int), (0 : Int), (0 : Int), (0 : Int), (0 : Int), (0 : Int), (0 : Int), (0 : Int), (0 : Int), (0 : Int)] (0 : Nat) (uwL w R (uN p) p x)
     (8 : Nat))
     (8 : Nat)
     (List.take
     ((↑(uwL w R (uN p) p x).length : Int).toNat -
     (IntKind.i64.wrap
     (IntKind.i64.wrap ((IntKind.i64.wrap ((↑((6 : Nat) * uN p) : Int) - (↑x : Int) - (1 : Int))).tmod (IntKind.i64.wrap (IntKind.i64.wrap ((↑p.length : Int).tdiv (8 : Int)) - (1 : Int))) + (1 : Int)) *
     (8 : Int))).toNat)
     (List.drop
     (IntKind.i64.wrap
     (IntKind.i64.wrap ((IntKind.i64.wrap ((↑((6 : Nat) * uN p) : Int) - (↑x : Int) - (1 : Int))).tmod (IntKind.i64.wrap (IntKind.i64.wrap ((↑p.length : Int).tdiv (8 : Int)) - (1 : Int))) + (1 : Int)) *
     (8 : Int))).toNat
     (uwL w R (uN p) p x)))
     ((↑(16 : Nat) : Int).toNat - (8 : Nat))).set
     (7 : Nat)
     (ixor IntKind.u8
     ((cpL
     (cpL [(0 : Int), (0 : Int), (0 : Int), (0 : Int), (0 : Int), (0 : Int), (0 : Int), (0 : Int), (0 : Int), (0 : Int), (0 : Int), (0 : Int), (0 : Int), (0 : Int), (0 : Int), (0 : Int)] (0 : Nat)
     (uwL w R (uN p) p x) (8 : Nat))
     (8 : Nat)
     (List.take
     ((↑(uwL w R (uN p) p x).length : Int).toNat -
     (IntKind.i64.wrap
     (IntKind.i64.wrap ((IntKind.i64.wrap ((↑((6 : Nat) * uN p) : Int) - (↑x : Int) - (1 : Int))).tmod (IntKind.i64.wrap (IntKind.i64.wrap ((↑p.length : Int).tdiv (8 : Int)) - (1 : Int))) + (1 : Int)) *
     (8 : Int))).toNat)
     (List.drop
     (IntKind.i64.wrap
     (IntKind.i64.wrap ((IntKind.i64.wrap ((↑((6 : Nat) * uN p) : Int) - (↑x : Int) - (1 : Int))).tmod (IntKind.i64.wrap (IntKind.i64.wrap ((↑p.length : Int).tdiv (8 : Int)) - (1 : Int))) + (1 : Int)) *
     (8 : Int))).toNat
     (uwL w R (uN p) p x)))
     ((↑(16 : Nat) : Int).toNat - (8 : Nat))).getD
     (7 : Nat) (0 : Int))
     (IntKind.u8.wrap ((↑((6 : Nat) * uN p) : Int) - (↑x : Int))))))))
     (uwL w R (uN p) p x).length)
     (IntKind.i64.wrap
     (IntKind.i64.wrap ((IntKind.i64.wrap ((↑((6 : Nat) * uN p) : Int) - (↑x : Int) - (1 : Int))).tmod (IntKind.i64.wrap (IntKind.i64.wrap ((↑p.length : Int).tdiv (8 : Int)) - (1 : Int))) + (1 : Int)) * (8 : Int))).toNat
     (List.take ((↑(16 : Nat) : Int).toNat - (8 : Nat))
     (List.drop (8 : Nat)
     (deL w (↑R : Int).toNat
     ((cpL
     (cpL [(0 : Int), (0 : Int), (0 : Int), (0 : Int), (0 : Int), (0 : Int), (0 : Int), (0 : Int), (0 : Int), (0 : Int), (0 : Int), (0 : Int), (0 : Int), (0 : Int), (0 : Int), (0 : Int)] (0 : Nat) (uwL w R (uN p) p x)
     (8 : Nat))
     (8 : Nat)
     (List.take
     ((↑(uwL w R (uN p) p x).length : Int).toNat -
     (IntKind.i64.wrap
     (IntKind.i64.wrap ((IntKind.i64.wrap ((↑((6 : Nat) * uN p) : Int) - (↑x : Int) - (1 : Int))).tmod (IntKind.i64.wrap (IntKind.i64.wrap ((↑p.length : Int).tdiv (8 : Int)) - (1 : Int))) + (1 : Int)) *
     (8 : Int))).toNat)
     (List.drop
     (IntKind.i64.wrap
     (IntKind.i64.wrap ((IntKind.i64.wrap ((↑((6 : Nat) * uN p) : Int) - (↑x : Int) - (1 : Int))).tmod (IntKind.i64.wrap (IntKind.i64.wrap ((↑p.length : Int).tdiv (8 : Int)) - (1 : Int))) + (1 : Int)) *
     (8 : Int))).toNat
     (uwL w R (uN p) p x)))
     ((↑(16 : Nat) : Int).toNat - (8 : Nat))).set
     (7 : Nat)
     (ixor IntKind.u8
     ((cpL
     (cpL [(0 : Int), (0 : Int), (0 : Int), (0 : Int), (0 : Int), (0 : Int), (0 : Int), (0 : Int), (0 : Int), (0 : Int), (0 : Int), (0 : Int), (0 : Int), (0 : Int), (0 : Int), (0 : Int)] (0 : Nat)
     (uwL w R (uN p) p x) (8 : Nat))
     (8 : Nat)
     (List.take
     ((↑(uwL w R (uN p) p x).length : Int).toNat -
     (IntKind.i64.wrap
     (IntKind.i64.wrap ((IntKind.i64.wrap ((↑((6 : Nat) * uN p) : Int) - (↑x : Int) - (1 : Int))).tmod (IntKind.i64.wrap (IntKind.i64.wrap ((↑p.length : Int).tdiv (8 : Int)) - (1 : Int))) + (1 : Int)) *
     (8 : Int))).toNat)
     (List.drop
     (IntKind.i64.wrap
     (IntKind.i64.wrap ((IntKind.i64.wrap ((↑((6 : Nat) * uN p) : Int) - (↑x : Int) - (1 : Int))).tmod (IntKind.i64.wrap (IntKind.i64.wrap ((↑p.length : Int).tdiv (8 : Int)) - (1 : Int))) + (1 : Int)) *
     (8 : Int))).toNat
     (uwL w R (uN p) p x)))
     ((↑(16 : Nat) : Int).toNat - (8 : Nat))).getD
     (7 : Nat) (0 : Int))
     (IntKind.u8.wrap ((↑((6 : Nat) * uN p) : Int) - (↑x : Int))))))))
     ((↑(cpL (uwL w R (uN p) p x) (0 : Nat)
     (List.take (8 : Nat)
     (List.drop (0 : Nat)
     (deL w (↑R : Int).toNat
     ((cpL
     (cpL [(0 : Int), (0 : Int), (0 : Int), (0 : Int), (0 : Int), (0 : Int), (0 : Int), (0 : Int), (0 : Int), (0 : Int), (0 : Int), (0 : Int), (0 : Int), (0 : Int), (0 : Int), (0 : Int)] (0 : Nat)
     (uwL w R (uN p) p x) (8 : Nat))
     (8 : Nat)
     (List.take
     ((↑(uwL w R (uN p) p x).length : Int).toNat -
     (IntKind.i64.wrap
     (IntKind.i64.wrap
     ((IntKind.i64.wrap ((↑((6 : Nat) * uN p) : Int) - (↑x : Int) - (1 : Int))).tmod (IntKind.i64.wrap (IntKind.i64.wrap ((↑p.length : Int).tdiv (8 : Int)) - (1 : Int))) + (1 : Int)) *
     (8 : Int))).toNat)
     (List.drop
     (IntKind.i64.wrap
     (IntKind.i64.wrap
     ((IntKind.i64.wrap ((↑((6 : Nat) * uN p) : Int) - (↑x : Int) - (1 : Int))).tmod (IntKind.i64.wrap (IntKind.i64.wrap ((↑p.length : Int).tdiv (8 : Int)) - (1 : Int))) + (1 : Int)) *
     (8 : Int))).toNat
     (uwL w R (uN p) p x)))
     ((↑(16 : Nat) : Int).toNat - (8 : Nat))).set
     (7 : Nat)
     (ixor IntKind.u8
     ((cpL
     (cpL [(0 : Int), (0 : Int), (0 : Int), (0 : Int), (0 : Int), (0 : Int), (0 : Int), (0 : Int), (0 : Int), (0 : Int), (0 : Int), (0 : Int), (0 : Int), (0 : Int), (0 : Int), (0 : Int)] (0 : Nat)
     (uwL w R (uN p) p x) (8 : Nat))
     (8 : Nat)
     (List.take
     ((↑(uwL w R (uN p) p x).length : Int).toNat -
     (IntKind.i64.wrap
     (IntKind.i64.wrap
     ((IntKind.i64.wrap ((↑((6 : Nat) * uN p) : Int) - (↑x : Int) - (1 : Int))).tmod (IntKind.i64.wrap (IntKind.i64.wrap ((↑p.length : Int).tdiv (8 : Int)) - (1 : Int))) + (1 : Int)) *
     (8 : Int))).toNat)
     (List.drop
     (IntKind.i64.wrap
     (IntKind.i64.wrap
     ((IntKind.i64.wrap ((↑((6 : Nat) * uN p) : Int) - (↑x : Int) - (1 : Int))).tmod (IntKind.i64.wrap (IntKind.i64.wrap ((↑p.length : Int).tdiv (8 : Int)) - (1 : Int))) + (1 : Int)) *
     (8 : Int))).toNat
     (uwL w R (uN p) p x)))
     ((↑(16 : Nat) : Int).toNat - (8 : Nat))).getD
     (7 : Nat) (0 : Int))
     (IntKind.u8.wrap ((↑((6 : Nat) * uN p) : Int) - (↑x : Int))))))))
     (uwL w R (uN p) p x).length).length :
     Int).toNat -
     (IntKind.i64.wrap
     (IntKind.i64.wrap ((IntKind.i64.wrap ((↑((6 : Nat) * uN p) : Int) - (↑x : Int) - (1 : Int))).tmod (IntKind.i64.wrap (IntKind.i64.wrap ((↑p.length : Int).tdiv (8 : Int)) - (1 : Int))) + (1 : Int)) *
     (8 : Int))).toNat)))) =
     some (Blk.row (5 : TypeId) (D.ints IntKind.u8 (uwL w R (uN p) p ((↑((6 : Nat) * uN p) : Int) - IntKind.i64.wrap ((↑((6 : Nat) * uN p) : Int) - (↑x : Int) - (1 : Int))).toNat))) ∧
     True) ∧
     true = true) ∧
     ((↑((6 : Nat) * uN p) : Int) - IntKind.i64.wrap ((↑((6 : Nat) * uN p) : Int) - (↑x : Int) - (1 : Int))).toNat ≤ (6 : Nat) * uN p ∧
     (6 : Nat) * uN p - ((↑((6 : Nat) * uN p) : Int) - IntKind.i64.wrap ((↑((6 : Nat) * uN p) : Int) - (↑x : Int) - (1 : Int))).toNat < (6 : Nat) * uN p - x
    | false =>
     True ∧
     ((0 : Int) ≤ (0 : Int) ∧ (0 : Int) ≤ (8 : Int) ∧ (8 : Int) ≤ (↑(uwL w R (uN p) p x).length : Int) ∧ (1 : Nat) ≠ (0 : Nat) ∧ (1 : Nat) = (1 : Nat)) ∧
     True ∧
     True ∧
     (((sm (AV.d (D.st [D.arr IntKind.u8 (240 : Nat) w, D.val (Value.int IntKind.i64 (↑R : Int))])) ∧
     sm (AV.d (D.ints IntKind.u8 p)) ∧
     sm (AV.ptr (2 : Nat) []) ∧
     sm (AV.row (28 : Nat)) ∧
     sm (AV.d (D.val (Value.int IntKind.i64 (IntKind.i64.wrap (IntKind.i64.wrap ((↑p.length : Int).tdiv (8 : Int)) - (1 : Int)))))) ∧
     sm (AV.d (D.val (Value.int IntKind.i64 ((↑((6 : Nat) * uN p) : Int) - (↑x : Int))))) ∧
     sm (AV.d (D.ints IntKind.u8 p)) ∧
     sm (AV.d (D.val (Value.int IntKind.i64 (↑p.length : Int)))) ∧
     sm (AV.d (D.val (Value.int IntKind.i64 ((↑p.length : Int).tmod (8 : Int))))) ∧
     sm (AV.d (D.val (Value.bool ((↑p.length : Int).tmod (8 : Int) != (0 : Int))))) ∧
     sm (AV.d (D.val (Value.bool false))) ∧
     sm (AV.d (D.ints IntKind.u8 p)) ∧
     sm (AV.d (D.val (Value.int IntKind.i64 (↑p.length : Int)))) ∧
     sm (AV.d (D.val (Value.bool (decide ((↑p.length : Int) < (24 : Int)))))) ∧
     sm (AV.d (D.val (Value.bool (decide ((↑p.length : Int) < (24 : Int)))))) ∧
     sm (AV.d (D.val (Value.bool false))) ∧
     sm (AV.d (D.ints IntKind.u8 p)) ∧
     sm (AV.d (D.val (Value.int IntKind.i64 (↑p.length : Int)))) ∧
     sm (AV.d (D.val (Value.bool (decide ((↑p.length : Int) > (72 : Int)))))) ∧
     sm (AV.d (D.val (Value.bool (decide ((↑p.length : Int) > (72 : Int)))))) ∧
     sm (AV.d (D.ints IntKind.u8 p)) ∧
     sm (AV.row (28 : Nat)) ∧
     sm (AV.d (D.ints IntKind.u8 p)) ∧
     sm (AV.d (D.val (Value.int IntKind.i64 (↑p.length : Int)))) ∧
     sm (AV.d (D.val (Value.int IntKind.i64 (IntKind.i64.wrap ((↑p.length : Int).tdiv (8 : Int)))))) ∧
     sm (AV.d (D.val (Value.int IntKind.i64 (IntKind.i64.wrap (IntKind.i64.wrap ((↑p.length : Int).tdiv (8 : Int)) - (1 : Int)))))) ∧
     sm (AV.d (D.val (Value.int IntKind.i64 (IntKind.i64.wrap (IntKind.i64.wrap ((↑p.length : Int).tdiv (8 : Int)) - (1 : Int)))))) ∧
     sm (AV.d (D.val (Value.int IntKind.i64 (IntKind.i64.wrap ((6 : Int) * IntKind.i64.wrap (IntKind.i64.wrap ((↑p.length : Int).tdiv (8 : Int)) - (1 : Int))))))) ∧
     sm (AV.d (D.val (Value.int IntKind.i64 ((↑((6 : Nat) * uN p) : Int) - (↑x : Int))))) ∧
     sm (AV.d (D.val (Value.bool (decide ((↑((6 : Nat) * uN p) : Int) - (↑x : Int) ≥ (1 : Int)))))) ∧
     sm (AV.row (28 : Nat)) ∧
     sm (AV.rpt (28 : Nat) (0 : Nat) (some (8 : Nat))) ∧ sm (AV.d (D.val (Value.int IntKind.i64 (↑(8 : Nat) : Int)))) ∧ AV.d (D.val (Value.int IntKind.i64 (0 : Int))) = AV.d (D.val (Value.int IntKind.i64 (↑(Int.toNat (0 : Int)) : Int))) ∧ True) ∧
     (sm (some (Blk.fix (D.st [D.arr IntKind.u8 (240 : Nat) w, D.val (Value.int IntKind.i64 (↑R : Int))]))) ∧ sm (some (Blk.row (5 : TypeId) (D.ints IntKind.u8 (uwL w R (uN p) p x)))) ∧ True) ∧ true = true) ∧
     Int.toNat (0 : Int) ≤ (8 : Nat) ∧ pf6 (uE w R p) (Int.toNat (0 : Int))) ∧
     ∀ (x_1 : Nat),
     x_1 ≤ (8 : Nat) ∧ pf6 (uE w R p) x_1 →
     true = true ∧
     True ∧
     match decide ((↑x_1 : Int) < (↑(8 : Nat) : Int)) with
     | true =>
      ((0 : Int) ≤ (↑x_1 : Int) ∧ (↑x_1 : Int) < (↑(8 : Nat) : Int) ∧ (1 : Nat) ≠ (0 : Nat) ∧ (1 : Nat) = (1 : Nat)) ∧
      ((0 : Nat) + (↑x_1 : Int).toNat < (uwL w R (uN p) p x).length ∧ (1 : Nat) = (1 : Nat) ∧ false = false) ∧
      True ∧
      True ∧
      True ∧
      match (uwL w R (uN p) p x).getD ((0 : Nat) + (↑x_1 : Int).toNat) (0 : Int) != (166 : Int) with
      | true => True ∧ True ∧ (false = false ∧ false = false ∧ True) ∧ D.tup [D.ints IntKind.u8 [], D.val (Value.int IntKind.i64 (5 : Int))] = F
      | false =>
       True ∧
       True ∧
       ((sm (AV.d (D.st [D.arr IntKind.u8 (240 : Nat) w, D.val (Value.int IntKind.i64 (↑R : Int))])) ∧
       sm (AV.d (D.ints IntKind.u8 p)) ∧
       sm (AV.ptr (2 : Nat) []) ∧
       sm (AV.row (28 : Nat)) ∧
       sm (AV.d (D.val (Value.int IntKind.i64 (IntKind.i64.wrap (IntKind.i64.wrap ((↑p.length : Int).tdiv (8 : Int)) - (1 : Int)))))) ∧
       sm (AV.d (D.val (Value.int IntKind.i64 ((↑((6 : Nat) * uN p) : Int) - (↑x : Int))))) ∧
       sm (AV.d (D.ints IntKind.u8 p)) ∧
       sm (AV.d (D.val (Value.int IntKind.i64 (↑p.length : Int)))) ∧
       sm (AV.d (D.val (Value.int IntKind.i64 ((↑p.length : Int).tmod (8 : Int))))) ∧
       sm (AV.d (D.val (Value.bool ((↑p.length : Int).tmod (8 : Int) != (0 : Int))))) ∧
       sm (AV.d (D.val (Value.bool false))) ∧
       sm (AV.d (D.ints IntKind.u8 p)) ∧
       sm (AV.d (D.val (Value.int IntKind.i64 (↑p.length : Int)))) ∧
       sm (AV.d (D.val (Value.bool (decide ((↑p.length : Int) < (24 : Int)))))) ∧
       sm (AV.d (D.val (Value.bool (decide ((↑p.length : Int) < (24 : Int)))))) ∧
       sm (AV.d (D.val (Value.bool false))) ∧
       sm (AV.d (D.ints IntKind.u8 p)) ∧
       sm (AV.d (D.val (Value.int IntKind.i64 (↑p.length : Int)))) ∧
       sm (AV.d (D.val (Value.bool (decide ((↑p.length : Int) > (72 : Int)))))) ∧
       sm (AV.d (D.val (Value.bool (decide ((↑p.length : Int) > (72 : Int)))))) ∧
       sm (AV.d (D.ints IntKind.u8 p)) ∧
       sm (AV.row (28 : Nat)) ∧
       sm (AV.d (D.ints IntKind.u8 p)) ∧
       sm (AV.d (D.val (Value.int IntKind.i64 (↑p.length : Int)))) ∧
       sm (AV.d (D.val (Value.int IntKind.i64 (IntKind.i64.wrap ((↑p.length : Int).tdiv (8 : Int)))))) ∧
       sm (AV.d (D.val (Value.int IntKind.i64 (IntKind.i64.wrap (IntKind.i64.wrap ((↑p.length : Int).tdiv (8 : Int)) - (1 : Int)))))) ∧
       sm (AV.d (D.val (Value.int IntKind.i64 (IntKind.i64.wrap (IntKind.i64.wrap ((↑p.length : Int).tdiv (8 : Int)) - (1 : Int)))))) ∧
       sm (AV.d (D.val (Value.int IntKind.i64 (IntKind.i64.wrap ((6 : Int) * IntKind.i64.wrap (IntKind.i64.wrap ((↑p.length : Int).tdiv (8 : Int)) - (1 : Int))))))) ∧
       sm (AV.d (D.val (Value.int IntKind.i64 ((↑((6 : Nat) * uN p) : Int) - (↑x : Int))))) ∧
       sm (AV.d (D.val (Value.bool (decide ((↑((6 : Nat) * uN p) : Int) - (↑x : Int) ≥ (1 : Int)))))) ∧
       sm (AV.row (28 : Nat)) ∧
       sm (AV.rpt (28 : Nat) (0 : Nat) (some (8 : Nat))) ∧
       sm (AV.d (D.val (Value.int IntKind.i64 (↑(8 : Nat) : Int)))) ∧
       AV.d (D.val (Value.int IntKind.i64 (IntKind.i64.wrap ((↑x_1 : Int) + (1 : Int))))) = AV.d (D.val (Value.int IntKind.i64 (↑(IntKind.i64.wrap ((↑x_1 : Int) + (1 : Int))).toNat : Int))) ∧ True) ∧
       (sm (some (Blk.fix (D.st [D.arr IntKind.u8 (240 : Nat) w, D.val (Value.int IntKind.i64 (↑R : Int))]))) ∧ sm (some (Blk.row (5 : TypeId) (D.ints IntKind.u8 (uwL w R (uN p) p x)))) ∧ True) ∧ true = true) ∧
       ((IntKind.i64.wrap ((↑x_1 : Int) + (1 : Int))).toNat ≤ (8 : Nat) ∧ pf6 (uE w R p) (IntKind.i64.wrap ((↑x_1 : Int) + (1 : Int))).toNat) ∧ (8 : Nat) - (IntKind.i64.wrap ((↑x_1 : Int) + (1 : Int))).toNat < (8 : Nat) - x_1
     | false =>
      True ∧
      ((0 : Int) ≤ (8 : Int) ∧ (8 : Int) ≤ (↑(uwL w R (uN p) p x).length : Int) ∧ (↑(uwL w R (uN p) p x).length : Int) ≤ (↑(uwL w R (uN p) p x).length : Int) ∧ (1 : Nat) ≠ (0 : Nat) ∧ (1 : Nat) = (1 : Nat)) ∧
      ((25 : Nat) = (25 : Nat) ∧
      (List.take ((↑(uwL w R (uN p) p x).length : Int).toNat - (8 : Nat)) (List.drop (8 : Nat) (uwL w R (uN p) p x))).length ≤ (140737488355328 : Nat) ∧
      (List.take ((↑(uwL w R (uN p) p x).length : Int).toNat - (8 : Nat)) (List.drop (8 : Nat) (uwL w R (uN p) p x))).length * (1 : Nat) ≤ (140737488355328 : Nat) ∧ (1 : Nat) = (1 : Nat)) ∧
      True ∧ True ∧ (false = false ∧ false = false ∧ True) ∧ D.tup [D.ints IntKind.u8 (List.take ((↑(uwL w R (uN p) p x).length : Int).toNat - (8 : Nat)) (List.drop (8 : Nat) (uwL w R (uN p) p x))), D.val (Value.int IntKind.i64 (0 : Int))] = F) := by kernel_rfl
set_option maxRecDepth 100000 in
theorem vc36  (W : List D) (bx ux p : List Int) (F : D)  :
    (owed c36 (inv36 (flW W) (W.length / 4 - 1) p) Try.f36 [.ref (cipD W bx ux), .str p] F) = (
 True ∧
 True ∧
 True ∧
 True ∧
 (8 : Int) ≠ (0 : Int) ∧
 True ∧
 True ∧
 True ∧
 True ∧
 (8 : Int) ≠ (0 : Int) ∧
 True ∧
 True ∧
 match decide ((↑p.length : Int).tmod (8 : Int) > (0 : Int)) with
 | true => True ∧ True ∧ True ∧ True ∧ True ∧ (false = false ∧ false = false ∧ True) ∧ D.tup [D.str (ints { data := { toList := [] } }), D.val (Value.int IntKind.i64 (1 : Int))] = F
 | false =>
  True ∧
  True ∧
  True ∧
  True ∧
  match decide (IntKind.i64.wrap (IntKind.i64.wrap ((↑p.length : Int).tdiv (8 : Int)) - (1 : Int)) < (2 : Int)) with
  | true => True ∧ True ∧ True ∧ (false = false ∧ false = false ∧ True) ∧ D.tup [D.str (ints { data := { toList := [] } }), D.val (Value.int IntKind.i64 (1 : Int))] = F
  | false =>
   True ∧
   True ∧
   True ∧
   match decide (IntKind.i64.wrap (IntKind.i64.wrap ((↑p.length : Int).tdiv (8 : Int)) - (1 : Int)) > (8 : Int)) with
   | true => True ∧ True ∧ (false = false ∧ false = false ∧ True) ∧ D.tup [D.str (ints { data := { toList := [] } }), D.val (Value.int IntKind.i64 (1 : Int))] = F
   | false =>
    True ∧
    ((0 : Int) ≤ (0 : Int) ∧ (0 : Int) ≤ (8 : Int) ∧ (8 : Int) ≤ (↑p.length : Int)) ∧
    (∃ (s : List Int), [D.str (List.drop (0 : Nat) (List.take (8 : Nat) p))] = [D.str s] ∧ okb s ∧ (8 : Nat) ≤ s.length) ∧
    (True ∧ (8 : Nat) ≠ (0 : Nat)) ∧
    (Sk.arr (8 : Nat) = Sk.arr (8 : Nat) ∧ (8 : Nat) ≠ (0 : Nat) ∧ (8 : Nat) = (8 : Nat) ∧ false = false) ∧
    True ∧
    True ∧
    ((0 : Int) ≤ IntKind.i64.wrap (IntKind.i64.wrap (IntKind.i64.wrap ((↑p.length : Int).tdiv (8 : Int)) - (1 : Int)) + (1 : Int)) ∧
    IntKind.i64.wrap (IntKind.i64.wrap (IntKind.i64.wrap ((↑p.length : Int).tdiv (8 : Int)) - (1 : Int)) + (1 : Int)) ≤ IntKind.i64.wrap (IntKind.i64.wrap (IntKind.i64.wrap ((↑p.length : Int).tdiv (8 : Int)) - (1 : Int)) + (1 : Int)) ∧
    IntKind.i64.wrap (IntKind.i64.wrap (IntKind.i64.wrap ((↑p.length : Int).tdiv (8 : Int)) - (1 : Int)) + (1 : Int)) ≤ (281474976710656 : Int) ∧ (↑(16 : Nat) : Int) * IntKind.i64.wrap (IntKind.i64.wrap (IntKind.i64.wrap ((↑p.length : Int).tdiv (8 : Int)) - (1 : Int)) + (1 : Int)) ≤ (281474976710656 : Int) ∧ (1 : Nat) = (1 : Nat)) ∧
    True ∧
    True ∧
    (((sm (AV.d (D.st [D.slc (4 : Nat) W, D.arr IntKind.u8 (256 : Nat) bx, D.arr IntKind.u8 (256 : Nat) ux]).ref) ∧
    sm (AV.d (D.str p)) ∧
    sm (AV.d (D.str (ints { data := { toList := [] } }))) ∧
    sm (AV.d (D.val (Value.int IntKind.i64 (0 : Int)))) ∧
    sm (AV.d (D.val (Value.int IntKind.i64 (IntKind.i64.wrap (IntKind.i64.wrap ((↑p.length : Int).tdiv (8 : Int)) - (1 : Int)))))) ∧
    sm (AV.ptr (7 : Nat) []) ∧
    sm (AV.row (37 : Nat)) ∧
    AV.d (D.val (Value.int IntKind.i64 (1 : Int))) = AV.d (D.val (Value.int IntKind.i64 (↑(1 : Nat) : Int))) ∧
    sm (AV.d (D.str p)) ∧
    sm (AV.d (D.val (Value.int IntKind.i64 (↑p.length : Int)))) ∧
    sm (AV.d (D.val (Value.int IntKind.i64 (IntKind.i64.wrap ((↑p.length : Int).tdiv (8 : Int)))))) ∧
    sm (AV.d (D.val (Value.int IntKind.i64 (IntKind.i64.wrap (IntKind.i64.wrap ((↑p.length : Int).tdiv (8 : Int)) - (1 : Int)))))) ∧
    sm (AV.d (D.str p)) ∧
    sm (AV.d (D.val (Value.int IntKind.i64 (↑p.length : Int)))) ∧
    sm (AV.d (D.val (Value.int IntKind.i64 ((↑p.length : Int).tmod (8 : Int))))) ∧
    sm (AV.d (D.val (Value.bool (decide ((↑p.length : Int).tmod (8 : Int) > (0 : Int)))))) ∧
    sm (AV.d (D.val (Value.bool false))) ∧
    sm (AV.d (D.val (Value.int IntKind.i64 (IntKind.i64.wrap (IntKind.i64.wrap ((↑p.length : Int).tdiv (8 : Int)) - (1 : Int)))))) ∧
    sm (AV.d (D.val (Value.bool (decide (IntKind.i64.wrap (IntKind.i64.wrap ((↑p.length : Int).tdiv (8 : Int)) - (1 : Int)) < (2 : Int)))))) ∧
    sm (AV.d (D.val (Value.bool (decide (IntKind.i64.wrap (IntKind.i64.wrap ((↑p.length : Int).tdiv (8 : Int)) - (1 : Int)) < (2 : Int)))))) ∧
    sm (AV.d (D.val (Value.bool false))) ∧
    sm (AV.d (D.val (Value.int IntKind.i64 (IntKind.i64.wrap (IntKind.i64.wrap ((↑p.length : Int).tdiv (8 : Int)) - (1 : Int)))))) ∧
    sm (AV.d (D.val (Value.bool (decide (IntKind.i64.wrap (IntKind.i64.wrap ((↑p.length : Int).tdiv (8 : Int)) - (1 : Int)) > (8 : Int)))))) ∧
    sm (AV.d (D.val (Value.bool (decide (IntKind.i64.wrap (IntKind.i64.wrap ((↑p.length : Int).tdiv (8 : Int)) - (1 : Int)) > (8 : Int)))))) ∧
    sm (AV.d (D.str p)) ∧
    sm (AV.d (D.str (List.drop (0 : Nat) (List.take (8 : Nat) p)))) ∧
    sm (AV.d (D.arr IntKind.u8 (8 : Nat) (List.take (8 : Nat) (List.drop (0 : Nat) (List.take (8 : Nat) p))))) ∧
    sm (AV.d (D.val (Value.int IntKind.i64 (IntKind.i64.wrap (IntKind.i64.wrap ((↑p.length : Int).tdiv (8 : Int)) - (1 : Int)))))) ∧
    sm (AV.d (D.val (Value.int IntKind.i64 (IntKind.i64.wrap (IntKind.i64.wrap (IntKind.i64.wrap ((↑p.length : Int).tdiv (8 : Int)) - (1 : Int)) + (1 : Int)))))) ∧ sm (AV.row (37 : Nat)) ∧ True) ∧
    (sm (some (Blk.fix (D.arr IntKind.u8 (8 : Nat) (List.take (8 : Nat) (List.drop (0 : Nat) (List.take (8 : Nat) p)))))) ∧
    some (Blk.row (9 : TypeId) (D.slc (1 : Nat) (List.replicate (IntKind.i64.wrap (IntKind.i64.wrap (IntKind.i64.wrap ((↑p.length : Int).tdiv (8 : Int)) - (1 : Int)) + (1 : Int))).toNat (D.str [])))) = some (Blk.row (9 : TypeId) (D.slc (1 : Nat) (rwL (uN p) p (1 : Nat)))) ∧ True) ∧
    true = true) ∧
    (1 : Nat) - (1 : Nat) ≤ uN p) ∧
    ∀ (x : Nat),
    x ≤ uN p →
    true = true ∧
    True ∧
    True ∧
    True ∧
    match decide ((↑(x + (1 : Nat)) : Int) ≤ IntKind.i64.wrap (IntKind.i64.wrap ((↑p.length : Int).tdiv (8 : Int)) - (1 : Int))) with
    | true =>
     True ∧
     True ∧
     True ∧
     True ∧
     True ∧
     True ∧
     True ∧
     True ∧
     ((0 : Int) ≤ IntKind.i64.wrap ((8 : Int) * (↑(x + (1 : Nat)) : Int)) ∧
     IntKind.i64.wrap ((8 : Int) * (↑(x + (1 : Nat)) : Int)) ≤ IntKind.i64.wrap (IntKind.i64.wrap ((8 : Int) * (↑(x + (1 : Nat)) : Int)) + (8 : Int)) ∧ IntKind.i64.wrap (IntKind.i64.wrap ((8 : Int) * (↑(x + (1 : Nat)) : Int)) + (8 : Int)) ≤ (↑p.length : Int)) ∧
     ((0 : Int) ≤ (↑(x + (1 : Nat)) : Int) ∧ (↑(x + (1 : Nat)) : Int) < (↑(rwL (uN p) p (x + (1 : Nat))).length : Int) ∧ (1 : Nat) ≠ (0 : Nat) ∧ (1 : Nat) = (1 : Nat)) ∧
     ((↑(x + (1 : Nat)) : Int).toNat < (rwL (uN p) p (x + (1 : Nat))).length ∧ (1 : Nat) = (1 : Nat) ∧ (1 : Nat) = (1 : Nat)) ∧
     True ∧
     True ∧
     True ∧
     ((sm (AV.d (D.st [D.slc (4 : Nat) W, D.arr IntKind.u8 (256 : Nat) bx, D.arr IntKind.u8 (256 : Nat) ux]).ref) ∧
     sm (AV.d (D.str p)) ∧
     sm (AV.d (D.str (ints { data := { toList := [] } }))) ∧
     sm (AV.d (D.val (Value.int IntKind.i64 (0 : Int)))) ∧
     sm (AV.d (D.val (Value.int IntKind.i64 (IntKind.i64.wrap (IntKind.i64.wrap ((↑p.length : Int).tdiv (8 : Int)) - (1 : Int)))))) ∧
     sm (AV.ptr (7 : Nat) []) ∧
     sm (AV.row (37 : Nat)) ∧
     AV.d (D.val (Value.int IntKind.i64 (IntKind.i64.wrap ((↑(x + (1 : Nat)) : Int) + (1 : Int))))) = AV.d (D.val (Value.int IntKind.i64 (↑((IntKind.i64.wrap ((↑(x + (1 : Nat)) : Int) + (1 : Int))).toNat - (1 : Nat) + (1 : Nat)) : Int))) ∧
     sm (AV.d (D.str p)) ∧
     sm (AV.d (D.val (Value.int IntKind.i64 (↑p.length : Int)))) ∧
     sm (AV.d (D.val (Value.int IntKind.i64 (IntKind.i64.wrap ((↑p.length : Int).tdiv (8 : Int)))))) ∧
     sm (AV.d (D.val (Value.int IntKind.i64 (IntKind.i64.wrap (IntKind.i64.wrap ((↑p.length : Int).tdiv (8 : Int)) - (1 : Int)))))) ∧
     sm (AV.d (D.str p)) ∧
     sm (AV.d (D.val (Value.int IntKind.i64 (↑p.length : Int)))) ∧
     sm (AV.d (D.val (Value.int IntKind.i64 ((↑p.length : Int).tmod (8 : Int))))) ∧
     sm (AV.d (D.val (Value.bool (decide ((↑p.length : Int).tmod (8 : Int) > (0 : Int)))))) ∧
     sm (AV.d (D.val (Value.bool false))) ∧
     sm (AV.d (D.val (Value.int IntKind.i64 (IntKind.i64.wrap (IntKind.i64.wrap ((↑p.length : Int).tdiv (8 : Int)) - (1 : Int)))))) ∧
     sm (AV.d (D.val (Value.bool (decide (IntKind.i64.wrap (IntKind.i64.wrap ((↑p.length : Int).tdiv (8 : Int)) - (1 : Int)) < (2 : Int)))))) ∧
     sm (AV.d (D.val (Value.bool (decide (IntKind.i64.wrap (IntKind.i64.wrap ((↑p.length : Int).tdiv (8 : Int)) - (1 : Int)) < (2 : Int)))))) ∧
     sm (AV.d (D.val (Value.bool false))) ∧
     sm (AV.d (D.val (Value.int IntKind.i64 (IntKind.i64.wrap (IntKind.i64.wrap ((↑p.length : Int).tdiv (8 : Int)) - (1 : Int)))))) ∧
     sm (AV.d (D.val (Value.bool (decide (IntKind.i64.wrap (IntKind.i64.wrap ((↑p.length : Int).tdiv (8 : Int)) - (1 : Int)) > (8 : Int)))))) ∧
     sm (AV.d (D.val (Value.bool (decide (IntKind.i64.wrap (IntKind.i64.wrap ((↑p.length : Int).tdiv (8 : Int)) - (1 : Int)) > (8 : Int)))))) ∧
     sm (AV.d (D.str p)) ∧
     sm (AV.d (D.str (List.drop (0 : Nat) (List.take (8 : Nat) p)))) ∧
     sm (AV.d (D.arr IntKind.u8 (8 : Nat) (List.take (8 : Nat) (List.drop (0 : Nat) (List.take (8 : Nat) p))))) ∧
     sm (AV.d (D.val (Value.int IntKind.i64 (IntKind.i64.wrap (IntKind.i64.wrap ((↑p.length : Int).tdiv (8 : Int)) - (1 : Int)))))) ∧
     sm (AV.d (D.val (Value.int IntKind.i64 (IntKind.i64.wrap (IntKind.i64.wrap (IntKind.i64.wrap ((↑p.length : Int).tdiv (8 : Int)) - (1 : Int)) + (1 : Int)))))) ∧ sm (AV.row (37 : Nat)) ∧ True) ∧
     (sm (some (Blk.fix (D.arr IntKind.u8 (8 : Nat) (List.take (8 : Nat) (List.drop (0 : Nat) (List.take (8 : Nat) p)))))) ∧
     some
     (Blk.row (9 : TypeId)
     (D.slc (1 : Nat)
     ((rwL (uN p) p (x + (1 : Nat))).set (↑(x + (1 : Nat)) : Int).toNat (D.str (List.drop (IntKind.i64.wrap ((8 : Int) * (↑(x + (1 : Nat)) : Int))).toNat (List.take (IntKind.i64.wrap (IntKind.i64.wrap ((8 : Int) * (↑(x + (1 : Nat)) : Int)) + (8 : Int))).toNat p)))))) =
     some (Blk.row (9 : TypeId) (D.slc (1 : Nat) (rwL (uN p) p ((IntKind.i64.wrap ((↑(x + (1 : Nat)) : Int) + (1 : Int))).toNat - (1 : Nat) + (1 : Nat))))) ∧
     True) ∧
     true = true) ∧
     (IntKind.i64.wrap ((↑(x + (1 : Nat)) : Int) + (1 : Int))).toNat - (1 : Nat) ≤ uN p ∧ uN p - ((IntKind.i64.wrap ((↑(x + (1 : Nat)) : Int) + (1 : Int))).toNat - (1 : Nat)) < uN p - x
    | false =>
     True ∧
     (((sm (AV.d (D.st [D.slc (4 : Nat) W, D.arr IntKind.u8 (256 : Nat) bx, D.arr IntKind.u8 (256 : Nat) ux]).ref) ∧
     sm (AV.d (D.str p)) ∧
     sm (AV.d (D.str (ints { data := { toList := [] } }))) ∧
     sm (AV.d (D.val (Value.int IntKind.i64 (0 : Int)))) ∧
     sm (AV.d (D.val (Value.int IntKind.i64 (IntKind.i64.wrap (IntKind.i64.wrap ((↑p.length : Int).tdiv (8 : Int)) - (1 : Int)))))) ∧
     sm (AV.ptr (7 : Nat) []) ∧
     sm (AV.row (37 : Nat)) ∧
     sm (AV.d (D.val (Value.int IntKind.i64 (↑(x + (1 : Nat)) : Int)))) ∧
     AV.d (D.val (Value.int IntKind.i64 (5 : Int))) = AV.d (D.val (Value.int IntKind.i64 ((5 : Int) - (↑((5 : Int) - (5 : Int)).toNat : Int)))) ∧
     sm (AV.d (D.str p)) ∧
     sm (AV.d (D.val (Value.int IntKind.i64 (↑p.length : Int)))) ∧
     sm (AV.d (D.val (Value.int IntKind.i64 (IntKind.i64.wrap ((↑p.length : Int).tdiv (8 : Int)))))) ∧
     sm (AV.d (D.val (Value.int IntKind.i64 (IntKind.i64.wrap (IntKind.i64.wrap ((↑p.length : Int).tdiv (8 : Int)) - (1 : Int)))))) ∧
     sm (AV.d (D.str p)) ∧
     sm (AV.d (D.val (Value.int IntKind.i64 (↑p.length : Int)))) ∧
     sm (AV.d (D.val (Value.int IntKind.i64 ((↑p.length : Int).tmod (8 : Int))))) ∧
     sm (AV.d (D.val (Value.bool (decide ((↑p.length : Int).tmod (8 : Int) > (0 : Int)))))) ∧
     sm (AV.d (D.val (Value.bool false))) ∧
     sm (AV.d (D.val (Value.int IntKind.i64 (IntKind.i64.wrap (IntKind.i64.wrap ((↑p.length : Int).tdiv (8 : Int)) - (1 : Int)))))) ∧
     sm (AV.d (D.val (Value.bool (decide (IntKind.i64.wrap (IntKind.i64.wrap ((↑p.length : Int).tdiv (8 : Int)) - (1 : Int)) < (2 : Int)))))) ∧
     sm (AV.d (D.val (Value.bool (decide (IntKind.i64.wrap (IntKind.i64.wrap ((↑p.length : Int).tdiv (8 : Int)) - (1 : Int)) < (2 : Int)))))) ∧
     sm (AV.d (D.val (Value.bool false))) ∧
     sm (AV.d (D.val (Value.int IntKind.i64 (IntKind.i64.wrap (IntKind.i64.wrap ((↑p.length : Int).tdiv (8 : Int)) - (1 : Int)))))) ∧
     sm (AV.d (D.val (Value.bool (decide (IntKind.i64.wrap (IntKind.i64.wrap ((↑p.length : Int).tdiv (8 : Int)) - (1 : Int)) > (8 : Int)))))) ∧
     sm (AV.d (D.val (Value.bool (decide (IntKind.i64.wrap (IntKind.i64.wrap ((↑p.length : Int).tdiv (8 : Int)) - (1 : Int)) > (8 : Int)))))) ∧
     sm (AV.d (D.str p)) ∧
     sm (AV.d (D.str (List.drop (0 : Nat) (List.take (8 : Nat) p)))) ∧
     sm (AV.d (D.arr IntKind.u8 (8 : Nat) (List.take (8 : Nat) (List.drop (0 : Nat) (List.take (8 : Nat) p))))) ∧
     sm (AV.d (D.val (Value.int IntKind.i64 (IntKind.i64.wrap (IntKind.i64.wrap ((↑p.length : Int).tdiv (8 : Int)) - (1 : Int)))))) ∧
     sm (AV.d (D.val (Value.int IntKind.i64 (IntKind.i64.wrap (IntKind.i64.wrap (IntKind.i64.wrap ((↑p.length : Int).tdiv (8 : Int)) - (1 : Int)) + (1 : Int)))))) ∧
     sm (AV.row (37 : Nat)) ∧
     sm (AV.d (D.val (Value.int IntKind.i64 (↑(x + (1 : Nat)) : Int)))) ∧
     sm (AV.d (D.val (Value.int IntKind.i64 (IntKind.i64.wrap (IntKind.i64.wrap ((↑p.length : Int).tdiv (8 : Int)) - (1 : Int)))))) ∧
     sm (AV.d (D.val (Value.bool (decide ((↑(x + (1 : Nat)) : Int) ≤ IntKind.i64.wrap (IntKind.i64.wrap ((↑p.length : Int).tdiv (8 : Int)) - (1 : Int))))))) ∧ True) ∧
     (some (Blk.fix (D.arr IntKind.u8 (8 : Nat) (List.take (8 : Nat) (List.drop (0 : Nat) (List.take (8 : Nat) p))))) = some (Blk.fix (D.arr IntKind.u8 (8 : Nat) (rdA (uwL (flW W) (W.length / (4 : Nat) - (1 : Nat)) (uN p) p (uN p * ((5 : Int) - (5 : Int)).toNat)) (0 : Nat)))) ∧
     some (Blk.row (9 : TypeId) (D.slc (1 : Nat) (rwL (uN p) p (x + (1 : Nat))))) = some (Blk.row (9 : TypeId) (D.slc (1 : Nat) (rwL (uN p) (uwL (flW W) (W.length / (4 : Nat) - (1 : Nat)) (uN p) p (uN p * ((5 : Int) - (5 : Int)).toNat)) (uN p + (1 : Nat))))) ∧ True) ∧
     true = true) ∧
     ((5 : Int) - (5 : Int)).toNat ≤ (6 : Nat)) ∧
     ∀ (x_1 : Nat),
     x_1 ≤ (6 : Nat) →
     true = true ∧
     True ∧
     True ∧
     match decide ((5 : Int) - (↑x_1 : Int) ≥ (0 : Int)) with
     | true =>
      True ∧
      True ∧
      (((sm (AV.d (D.st [D.slc (4 : Nat) W, D.arr IntKind.u8 (256 : Nat) bx, D.arr IntKind.u8 (256 : Nat) ux]).ref) ∧
      sm (AV.d (D.str p)) ∧
      sm (AV.d (D.str (ints { data := { toList := [] } }))) ∧
      sm (AV.d (D.val (Value.int IntKind.i64 (0 : Int)))) ∧
      sm (AV.d (D.val (Value.int IntKind.i64 (IntKind.i64.wrap (IntKind.i64.wrap ((↑p.length : Int).tdiv (8 : Int)) - (1 : Int)))))) ∧
      sm (AV.ptr (7 : Nat) []) ∧
      sm (AV.row (37 : Nat)) ∧
      sm (AV.d (D.val (Value.int IntKind.i64 (↑(x + (1 : Nat)) : Int)))) ∧
      sm (AV.d (D.val (Value.int IntKind.i64 ((5 : Int) - (↑x_1 : Int))))) ∧
      AV.d (D.val (Value.int IntKind.i64 (IntKind.i64.wrap (IntKind.i64.wrap ((↑p.length : Int).tdiv (8 : Int)) - (1 : Int))))) =
      AV.d (D.val (Value.int IntKind.i64 ((↑(uN p) : Int) - (↑((↑(uN p) : Int) - IntKind.i64.wrap (IntKind.i64.wrap ((↑p.length : Int).tdiv (8 : Int)) - (1 : Int))).toNat : Int)))) ∧
      sm (AV.d (D.str p)) ∧
      sm (AV.d (D.val (Value.int IntKind.i64 (↑p.length : Int)))) ∧
      sm (AV.d (D.val (Value.int IntKind.i64 (IntKind.i64.wrap ((↑p.length : Int).tdiv (8 : Int)))))) ∧
      sm (AV.d (D.val (Value.int IntKind.i64 (IntKind.i64.wrap (IntKind.i64.wrap ((↑p.length : Int).tdiv (8 : Int)) - (1 : Int)))))) ∧
      sm (AV.d (D.str p)) ∧
      sm (AV.d (D.val (Value.int IntKind.i64 (↑p.length : Int)))) ∧
      sm (AV.d (D.val (Value.int IntKind.i64 ((↑p.length : Int).tmod (8 : Int))))) ∧
      sm (AV.d (D.val (Value.bool (decide ((↑p.length : Int).tmod (8 : Int) > (0 : Int)))))) ∧
      sm (AV.d (D.val (Value.bool false))) ∧
      sm (AV.d (D.val (Value.int IntKind.i64 (IntKind.i64.wrap (IntKind.i64.wrap ((↑p.length : Int).tdiv (8 : Int)) - (1 : Int)))))) ∧
      sm (AV.d (D.val (Value.bool (decide (IntKind.i64.wrap (IntKind.i64.wrap ((↑p.length : Int).tdiv (8 : Int)) - (1 : Int)) < (2 : Int)))))) ∧
      sm (AV.d (D.val (Value.bool (decide (IntKind.i64.wrap (IntKind.i64.wrap ((↑p.length : Int).tdiv (8 : Int)) - (1 : Int)) < (2 : Int)))))) ∧
      sm (AV.d (D.val (Value.bool false))) ∧
      sm (AV.d (D.val (Value.int IntKind.i64 (IntKind.i64.wrap (IntKind.i64.wrap ((↑p.length : Int).tdiv (8 : Int)) - (1 : Int)))))) ∧
      sm (AV.d (D.val (Value.bool (decide (IntKind.i64.wrap (IntKind.i64.wrap ((↑p.length : Int).tdiv (8 : Int)) - (1 : Int)) > (8 : Int)))))) ∧
      sm (AV.d (D.val (Value.bool (decide (IntKind.i64.wrap (IntKind.i64.wrap ((↑p.length : Int).tdiv (8 : Int)) - (1 : Int)) > (8 : Int)))))) ∧
      sm (AV.d (D.str p)) ∧
      sm (AV.d (D.str (List.drop (0 : Nat) (List.take (8 : Nat) p)))) ∧
      sm (AV.d (D.arr IntKind.u8 (8 : Nat) (List.take (8 : Nat) (List.drop (0 : Nat) (List.take (8 : Nat) p))))) ∧
      sm (AV.d (D.val (Value.int IntKind.i64 (IntKind.i64.wrap (IntKind.i64.wrap ((↑p.length : Int).tdiv (8 : Int)) - (1 : Int)))))) ∧
      sm (AV.d (D.val (Value.int IntKind.i64 (IntKind.i64.wrap (IntKind.i64.wrap (IntKind.i64.wrap ((↑p.length : Int).tdiv (8 : Int)) - (1 : Int)) + (1 : Int)))))) ∧
      sm (AV.row (37 : Nat)) ∧
      sm (AV.d (D.val (Value.int IntKind.i64 (↑(x + (1 : Nat)) : Int)))) ∧
      sm (AV.d (D.val (Value.int IntKind.i64 (IntKind.i64.wrap (IntKind.i64.wrap ((↑p.length : Int).tdiv (8 : Int)) - (1 : Int)))))) ∧
      sm (AV.d (D.val (Value.bool (decide ((↑(x + (1 : Nat)) : Int) ≤ IntKind.i64.wrap (IntKind.i64.wrap ((↑p.length : Int).tdiv (8 : Int)) - (1 : Int))))))) ∧
      sm (AV.d (D.val (Value.int IntKind.i64 ((5 : Int) - (↑x_1 : Int))))) ∧
      sm (AV.d (D.val (Value.bool (decide ((5 : Int) - (↑x_1 : Int) ≥ (0 : Int)))))) ∧ sm (AV.d (D.val (Value.int IntKind.i64 (IntKind.i64.wrap (IntKind.i64.wrap ((↑p.length : Int).tdiv (8 : Int)) - (1 : Int)))))) ∧ True) ∧
      (some (Blk.fix (D.arr IntKind.u8 (8 : Nat) (rdA (uwL (flW W) (W.length / (4 : Nat) - (1 : Nat)) (uN p) p (uN p * x_1)) (0 : Nat)))) =
      some (Blk.fix (D.arr IntKind.u8 (8 : Nat) (rdA (uwL (flW W) (W.length / (4 : Nat) - (1 : Nat)) (uN p) p (uN p * ((5 : Int) - ((5 : Int) - (↑x_1 : Int))).toNat + ((↑(uN p) : Int) - IntKind.i64.wrap (IntKind.i64.wrap ((↑p.length : Int).tdiv (8 : Int)) - (1 : Int))).toNat)) (0 : Nat)))) ∧
      some (Blk.row (9 : TypeId) (D.slc (1 : Nat) (rwL (uN p) (uwL (flW W) (W.length / (4 : Nat) - (1 : Nat)) (uN p) p (uN p * x_1)) (uN p + (1 : Nat))))) =
      some
      (Blk.row (9 : TypeId)
      (D.slc (1 : Nat) (rwL (uN p) (uwL (flW W) (W.length / (4 : Nat) - (1 : Nat)) (uN p) p (uN p * ((5 : Int) - ((5 : Int) - (↑x_1 : Int))).toNat + ((↑(uN p) : Int) - IntKind.i64.wrap (IntKind.i64.wrap ((↑p.length : Int).tdiv (8 : Int)) - (1 : Int))).toNat)) (uN p + (1 : Nat))))) ∧
      True) ∧
      true = true) ∧
      ((↑(uN p) : Int) - IntKind.i64.wrap (IntKind.i64.wrap ((↑p.length : Int).tdiv (8 : Int)) - (1 : Int))).toNat ≤ uN p ∧ ((5 : Int) - ((5 : Int) - (↑x_1 : Int))).toNat ≤ (5 : Nat) ∧ (5 : Int) - (↑((5 : Int) - ((5 : Int) - (↑x_1 : Int))).toNat : Int) = (5 : Int) - (↑x_1 : Int)) ∧
      ∀ (x_2 : Nat × Nat),
      x_2.fst ≤ uN p ∧ x_2.snd ≤ (5 : Nat) ∧ (5 : Int) - (↑x_2.snd : Int) = (5 : Int) - (↑x_1 : Int) →
      true = true ∧
      True ∧
      True ∧
      match decide ((↑(uN p) : Int) - (↑x_2.fst : Int) ≥ (1 : Int)) with
      | true =>
       ((8 : Nat) ≠ (0 : Nat) ∧ (8 : Nat) = (8 : Nat) ∧ true = true) ∧
       True ∧
       True ∧
       True ∧
       True ∧
       True ∧
       (∃ (a : List Int),
       ∃ (t : Nat),
       [D.arr IntKind.u8 (8 : Nat) (rdA (uwL (flW W) (W.length / (4 : Nat) - (1 : Nat)) (uN p) p (uN p * x_2.snd + x_2.fst)) (0 : Nat)),
       D.val (Value.int IntKind.i64 (IntKind.i64.wrap (IntKind.i64.wrap (IntKind.i64.wrap (IntKind.i64.wrap ((↑p.length : Int).tdiv (8 : Int)) - (1 : Int)) * ((5 : Int) - (↑x_1 : Int))) + ((↑(uN p) : Int) - (↑x_2.fst : Int)))))] =
       [D.arr IntKind.u8 (8 : Nat) a, D.val (Value.int IntKind.i64 (↑t : Int))] ∧
       isB (8 : Nat) a ∧ t < (256 : Nat)) ∧
       (Sk.arr (8 : Nat) = Sk.arr (8 : Nat) ∧ (8 : Nat) ≠ (0 : Nat) ∧ (8 : Nat) = (8 : Nat) ∧ false = false) ∧
       True ∧
       ((0 : Int) ≤ (0 : Int) ∧ (0 : Int) ≤ (↑(8 : Nat) : Int) ∧ (↑(8 : Nat) : Int) ≤ (↑(8 : Nat) : Int) ∧ (8 : Nat) = (8 : Nat) ∧ (1 : Nat) = (1 : Nat)) ∧
       isBytes
       (List.take ((↑(8 : Nat) : Int).toNat - (0 : Nat))
       (List.drop (0 : Nat)
       (cnL (rdA (uwL (flW W) (W.length / (4 : Nat) - (1 : Nat)) (uN p) p (uN p * x_2.snd + x_2.fst)) (0 : Nat))
       (IntKind.i64.wrap (IntKind.i64.wrap (IntKind.i64.wrap (IntKind.i64.wrap ((↑p.length : Int).tdiv (8 : Int)) - (1 : Int)) * ((5 : Int) - (↑x_1 : Int))) + ((↑(uN p) : Int) - (↑x_2.fst : Int)))).toNat))) ∧
       True ∧
       True ∧
       ((0 : Int) ≤ (↑(uN p) : Int) - (↑x_2.fst : Int) ∧
       (↑(uN p) : Int) - (↑x_2.fst : Int) < (↑(rwL (uN p) (uwL (flW W) (W.length / (4 : Nat) - (1 : Nat)) (uN p) p (uN p * x_2.snd + x_2.fst)) (uN p + (1 : Nat))).length : Int) ∧ (1 : Nat) ≠ (0 : Nat) ∧ (1 : Nat) = (1 : Nat)) ∧
       (((↑(uN p) : Int) - (↑x_2.fst : Int)).toNat < (rwL (uN p) (uwL (flW W) (W.length / (4 : Nat) - (1 : Nat)) (uN p) p (uN p * x_2.snd + x_2.fst)) (uN p + (1 : Nat))).length ∧
       (1 : Nat) ≠ (0 : Nat) ∧
       (1 : Nat) = (1 : Nat) ∧
       D.str (strOf ((rwL (uN p) (uwL (flW W) (W.length / (4 : Nat) - (1 : Nat)) (uN p) p (uN p * x_2.snd + x_2.fst)) (uN p + (1 : Nat))).getD ((↑(uN p) : Int) - (↑x_2.fst : Int)).toNat (D.val (Value.bool false)))) =
       (rwL (uN p) (uwL (flW W) (W.length / (4 : Nat) - (1 : Nat)) (uN p) p (uN p * x_2.snd + x_2.fst)) (uN p + (1 : Nat))).getD ((↑(uN p) : Int) - (↑x_2.fst : Int)).toNat (D.val (Value.bool false)) ∧
       false = false) ∧
       (↑((List.take ((↑(8 : Nat) : Int).toNat - (0 : Nat))
       (List.drop (0 : Nat)
       (cnL (rdA (uwL (flW W) (W.length / (4 : Nat) - (1 : Nat)) (uN p) p (uN p * x_2.snd + x_2.fst)) (0 : Nat))
       (IntKind.i64.wrap (IntKind.i64.wrap (IntKind.i64.wrap (IntKind.i64.wrap ((↑p.length : Int).tdiv (8 : Int)) - (1 : Int)) * ((5 : Int) - (↑x_1 : Int))) + ((↑(uN p) : Int) - (↑x_2.fst : Int)))).toNat))).length +
       (strOf ((rwL (uN p) (uwL (flW W) (W.length / (4 : Nat) - (1 : Nat)) (uN p) p (uN p * x_2.snd + x_2.fst)) (uN p + (1 : Nat))).getD ((↑(uN p) : Int) - (↑x_2.fst : Int)).toNat (D.val (Value.bool false)))).length) :
       Int) ≤
       (9223372036854775807 : Int) ∧
       (∃ (s : List Int),
       [D.str
       (List.take ((↑(8 : Nat) : Int).toNat - (0 : Nat))
       (List.drop (0 : Nat)
       (cnL (rdA (uwL (flW W) (W.length / (4 : Nat) - (1 : Nat)) (uN p) p (uN p * x_2.snd + x_2.fst)) (0 : Nat))
       (IntKind.i64.wrap (IntKind.i64.wrap (IntKind.i64.wrap (IntKind.i64.wrap ((↑p.length : Int).tdiv (8 : Int)) - (1 : Int)) * ((5 : Int) - (↑x_1 : Int))) + ((↑(uN p) : Int) - (↑x_2.fst : Int)))).toNat)) ++
       strOf ((rwL (uN p) (uwL (flW W) (W.length / (4 : Nat) - (1 : Nat)) (uN p) p (uN p * x_2.snd + x_2.fst)) (uN p + (1 : Nat))).getD ((↑(uN p) : Int) - (↑x_2.fst : Int)).toNat (D.val (Value.bool false))))] =
       [D.str s] ∧
       okb s ∧ (16 : Nat) ≤ s.length) ∧
       (∃ (W_1 : List D),
       ∃ (bx_1 : List Int),
       ∃ (ux_1 : List Int),
       ∃ (b : List Int),
       [(D.st [D.slc (4 : Nat) W, D.arr IntKind.u8 (256 : Nat) bx, D.arr IntKind.u8 (256 : Nat) ux]).ref,
       D.arr IntKind.u8 (16 : Nat)
       (List.take (16 : Nat)
       (List.take ((↑(8 : Nat) : Int).toNat - (0 : Nat))
       (List.drop (0 : Nat)
       (cnL (rdA (uwL (flW W) (W.length / (4 : Nat) - (1 : Nat)) (uN p) p (uN p * x_2.snd + x_2.fst)) (0 : Nat))
       (IntKind.i64.wrap (IntKind.i64.wrap (IntKind.i64.wrap (IntKind.i64.wrap ((↑p.length : Int).tdiv (8 : Int)) - (1 : Int)) * ((5 : Int) - (↑x_1 : Int))) + ((↑(uN p) : Int) - (↑x_2.fst : Int)))).toNat)) ++
       strOf ((rwL (uN p) (uwL (flW W) (W.length / (4 : Nat) - (1 : Nat)) (uN p) p (uN p * x_2.snd + x_2.fst)) (uN p + (1 : Nat))).getD ((↑(uN p) : Int) - (↑x_2.fst : Int)).toNat (D.val (Value.bool false)))))] =
       [(D.st [D.slc (4 : Nat) W_1, D.arr IntKind.u8 (256 : Nat) bx_1, D.arr IntKind.u8 (256 : Nat) ux_1]).ref, D.arr IntKind.u8 (16 : Nat) b] ∧
       okW W_1 ∧ (4 : Nat) ≤ W_1.length ∧ W_1.length ≤ (60 : Nat) ∧ okX bx_1 ux_1 ∧ isB (16 : Nat) b) ∧
       (True ∧ (16 : Nat) ≠ (0 : Nat)) ∧
       (Sk.arr (16 : Nat) = Sk.arr (16 : Nat) ∧ (16 : Nat) ≠ (0 : Nat) ∧ (16 : Nat) = (16 : Nat) ∧ false = false) ∧
       ((0 : Int) ≤ (0 : Int) ∧ (0 : Int) ≤ (8 : Int) ∧ (8 : Int) ≤ (↑(16 : Nat) : Int) ∧ (16 : Nat) = (16 : Nat) ∧ (1 : Nat) = (1 : Nat)) ∧
       isBytes
       (List.take (8 : Nat)
       (List.drop (0 : Nat)
       (deL (flW W) (W.length / (4 : Nat) - (1 : Nat))
       (List.take (16 : Nat)
       (List.take ((↑(8 : Nat) : Int).toNat - (0 : Nat))
       (List.drop (0 : Nat)
       (cnL (rdA (uwL (flW W) (W.length / (4 : Nat) - (1 : Nat)) (uN p) p (uN p * x_2.snd + x_2.fst)) (0 : Nat))
       (IntKind.i64.wrap (IntKind.i64.wrap (IntKind.i64.wrap (IntKind.i64.wrap ((↑p.length : Int).tdiv (8 : Int)) - (1 : Int)) * ((5 : Int) - (↑x_1 : Int))) + ((↑(uN p) : Int) - (↑x_2.fst : Int)))).toNat)) ++
       strOf ((rwL (uN p) (uwL (flW W) (W.length / (4 : Nat) - (1 : Nat)) (uN p) p (uN p * x_2.snd + x_2.fst)) (uN p + (1 : Nat))).getD ((↑(uN p) : Int) - (↑x_2.fst : Int)).toNat (D.val (Value.bool false)))))))) ∧
       (∃ (s : List Int),
       [D.str
       (List.take (8 : Nat)
       (List.drop (0 : Nat)
       (deL (flW W) (W.length / (4 : Nat) - (1 : Nat))
       (List.take (16 : Nat)
       (List.take ((↑(8 : Nat) : Int).toNat - (0 : Nat))
       (List.drop (0 : Nat)
       (cnL (rdA (uwL (flW W) (W.length / (4 : Nat) - (1 : Nat)) (uN p) p (uN p * x_2.snd + x_2.fst)) (0 : Nat))
       (IntKind.i64.wrap (IntKind.i64.wrap (IntKind.i64.wrap (IntKind.i64.wrap ((↑p.length : Int).tdiv (8 : Int)) - (1 : Int)) * ((5 : Int) - (↑x_1 : Int))) + ((↑(uN p) : Int) - (↑x_2.fst : Int)))).toNat)) ++
       strOf ((rwL (uN p) (uwL (flW W) (W.length / (4 : Nat) - (1 : Nat)) (uN p) p (uN p * x_2.snd + x_2.fst)) (uN p + (1 : Nat))).getD ((↑(uN p) : Int) - (↑x_2.fst : Int)).toNat (D.val (Value.bool false))))))))] =
       [D.str s] ∧
       okb s ∧ (8 : Nat) ≤ s.length) ∧
       (Sk.arr (8 : Nat) = Sk.arr (8 : Nat) ∧ (8 : Nat) ≠ (0 : Nat) ∧ (8 : Nat) = (8 : Nat) ∧ false = false) ∧
       True ∧
       True ∧
       ((0 : Int) ≤ (8 : Int) ∧ (8 : Int) ≤ (↑(16 : Nat) : Int) ∧ (↑(16 : Nat) : Int) ≤ (↑(16 : Nat) : Int) ∧ (16 : Nat) = (16 : Nat) ∧ (1 : Nat) = (1 : Nat)) ∧
       isBytes
       (List.take ((↑(16 : Nat) : Int).toNat - (8 : Nat))
       (List.drop (8 : Nat)
       (deL (flW W) (W.length / (4 : Nat) - (1 : Nat))
       (List.take (16 : Nat)
       (List.take ((↑(8 : Nat) : Int).toNat - (0 : Nat))
       (List.drop (0 : Nat)
       (cnL (rdA (uwL (flW W) (W.length / (4 : Nat) - (1 : Nat)) (uN p) p (uN p * x_2.snd + x_2.fst)) (0 : Nat))
       (IntKind.i64.wrap (IntKind.i64.wrap (IntKind.i64.wrap (IntKind.i64.wrap ((↑p.length : Int).tdiv (8 : Int)) - (1 : Int)) * ((5 : Int) - (↑x_1 : Int))) + ((↑(uN p) : Int) - (↑x_2.fst : Int)))).toNat)) ++
       strOf ((rwL (uN p) (uwL (flW W) (W.length / (4 : Nat) - (1 : Nat)) (uN p) p (uN p * x_2.snd + x_2.fst)) (uN p + (1 : Nat))).getD ((↑(uN p) : Int) - (↑x_2.fst : Int)).toNat (D.val (Value.bool false)))))))) ∧
       ((0 : Int) ≤ (↑(uN p) : Int) - (↑x_2.fst : Int) ∧
       (↑(uN p) : Int) - (↑x_2.fst : Int) < (↑(rwL (uN p) (uwL (flW W) (W.length / (4 : Nat) - (1 : Nat)) (uN p) p (uN p * x_2.snd + x_2.fst)) (uN p + (1 : Nat))).length : Int) ∧ (1 : Nat) ≠ (0 : Nat) ∧ (1 : Nat) = (1 : Nat)) ∧
       (((↑(uN p) : Int) - (↑x_2.fst : Int)).toNat < (rwL (uN p) (uwL (flW W) (W.length / (4 : Nat) - (1 : Nat)) (uN p) p (uN p * x_2.snd + x_2.fst)) (uN p + (1 : Nat))).length ∧ (1 : Nat) = (1 : Nat) ∧ (1 : Nat) = (1 : Nat)) ∧
       True ∧
       True ∧
       True ∧
       ((sm (AV.d (D.st [D.slc (4 : Nat) W, D.arr IntKind.u8 (256 : Nat) bx, D.arr IntKind.u8 (256 : Nat) ux]).ref) ∧
       sm (AV.d (D.str p)) ∧
       sm (AV.d (D.str (ints { data := { toList := [] } }))) ∧
       sm (AV.d (D.val (Value.int IntKind.i64 (0 : Int)))) ∧
       sm (AV.d (D.val (Value.int IntKind.i64 (IntKind.i64.wrap (IntKind.i64.wrap ((↑p.length : Int).tdiv (8 : Int)) - (1 : Int)))))) ∧
       sm (AV.ptr (7 : Nat) []) ∧
       sm (AV.row (37 : Nat)) ∧
       sm (AV.d (D.val (Value.int IntKind.i64 (↑(x + (1 : Nat)) : Int)))) ∧
       sm (AV.d (D.val (Value.int IntKind.i64 ((5 : Int) - (↑x_1 : Int))))) ∧
       AV.d (D.val (Value.int IntKind.i64 (IntKind.i64.wrap ((↑(uN p) : Int) - (↑x_2.fst : Int) - (1 : Int))))) =
       AV.d (D.val (Value.int IntKind.i64 ((↑(uN p) : Int) - (↑((↑(uN p) : Int) - IntKind.i64.wrap ((↑(uN p) : Int) - (↑x_2.fst : Int) - (1 : Int))).toNat : Int)))) ∧
       sm (AV.d (D.str p)) ∧
       sm (AV.d (D.val (Value.int IntKind.i64 (↑p.length : Int)))) ∧
       sm (AV.d (D.val (Value.int IntKind.i64 (IntKind.i64.wrap ((↑p.length : Int).tdiv (8 : Int)))))) ∧
       sm (AV.d (D.val (Value.int IntKind.i64 (IntKind.i64.wrap (IntKind.i64.wrap ((↑p.length : Int).tdiv (8 : Int)) - (1 : Int)))))) ∧
       sm (AV.d (D.str p)) ∧
       sm (AV.d (D.val (Value.int IntKind.i64 (↑p.length : Int)))) ∧
       sm (AV.d (D.val (Value.int IntKind.i64 ((↑p.length : Int).tmod (8 : Int))))) ∧
       sm (AV.d (D.val (Value.bool (decide ((↑p.length : Int).tmod (8 : Int) > (0 : Int)))))) ∧
       sm (AV.d (D.val (Value.bool false))) ∧
       sm (AV.d (D.val (Value.int IntKind.i64 (IntKind.i64.wrap (IntKind.i64.wrap ((↑p.length : Int).tdiv (8 : Int)) - (1 : Int)))))) ∧
       sm (AV.d (D.val (Value.bool (decide (IntKind.i64.wrap (IntKind.i64.wrap ((↑p.length : Int).tdiv (8 : Int)) - (1 : Int)) < (2 : Int)))))) ∧
       sm (AV.d (D.val (Value.bool (decide (IntKind.i64.wrap (IntKind.i64.wrap ((↑p.length : Int).tdiv (8 : Int)) - (1 : Int)) < (2 : Int)))))) ∧
       sm (AV.d (D.val (Value.bool false))) ∧
       sm (AV.d (D.val (Value.int IntKind.i64 (IntKind.i64.wrap (IntKind.i64.wrap ((↑p.length : Int).tdiv (8 : Int)) - (1 : Int)))))) ∧
       sm (AV.d (D.val (Value.bool (decide (IntKind.i64.wrap (IntKind.i64.wrap ((↑p.length : Int).tdiv (8 : Int)) - (1 : Int)) > (8 : Int)))))) ∧
       sm (AV.d (D.val (Value.bool (decide (IntKind.i64.wrap (IntKind.i64.wrap ((↑p.length : Int).tdiv (8 : Int)) - (1 : Int)) > (8 : Int)))))) ∧
       sm (AV.d (D.str p)) ∧
       sm (AV.d (D.str (List.drop (0 : Nat) (List.take (8 : Nat) p)))) ∧
       sm (AV.d (D.arr IntKind.u8 (8 : Nat) (List.take (8 : Nat) (List.drop (0 : Nat) (List.take (8 : Nat) p))))) ∧
       sm (AV.d (D.val (Value.int IntKind.i64 (IntKind.i64.wrap (IntKind.i64.wrap ((↑p.length : Int).tdiv (8 : Int)) - (1 : Int)))))) ∧
       sm
       (AV.d
       (D.val
       (Value.int IntKind.i64 (IntKind.i64.wrap (IntKind.i64.wrap (IntKind.i64.wrap ((↑p.length : Int).tdiv (8 : Int)) - (1 : Int)) + (1 : Int)))))) ∧
       sm (AV.row (37 : Nat)) ∧
       sm (AV.d (D.val (Value.int IntKind.i64 (↑(x + (1 : Nat)) : Int)))) ∧
       sm (AV.d (D.val (Value.int IntKind.i64 (IntKind.i64.wrap (IntKind.i64.wrap ((↑p.length : Int).tdiv (8 : Int)) - (1 : Int)))))) ∧
       sm
       (AV.d
       (D.val
       (Value.bool (decide ((↑(x + (1 : Nat)) : Int) ≤ IntKind.i64.wrap (IntKind.i64.wrap ((↑p.length : Int).tdiv (8 : Int)) - (1 : Int))))))) ∧
       sm (AV.d (D.val (Value.int IntKind.i64 ((5 : Int) - (↑x_1 : Int))))) ∧
       sm (AV.d (D.val (Value.bool (decide ((5 : Int) - (↑x_1 : Int) ≥ (0 : Int)))))) ∧
       sm (AV.d (D.val (Value.int IntKind.i64 (IntKind.i64.wrap (IntKind.i64.wrap ((↑p.length : Int).tdiv (8 : Int)) - (1 : Int)))))) ∧ True) ∧
       (some
       (Blk.fix
       (D.arr IntKind.u8 (8 : Nat)
       (List.take (8 : Nat)
       (List.take (8 : Nat)
       (List.drop (0 : Nat)
       (deL (flW W) (W.length / (4 : Nat) - (1 : Nat))
       (List.take (16 : Nat)
       (List.take ((↑(8 : Nat) : Int).toNat - (0 : Nat))
       (List.drop (0 : Nat)
       (cnL (rdA (uwL (flW W) (W.length / (4 : Nat) - (1 : Nat)) (uN p) p (uN p * x_2.snd + x_2.fst)) (0 : Nat))
       (IntKind.i64.wrap
       (IntKind.i64.wrap (IntKind.i64.wrap (IntKind.i64.wrap ((↑p.length : Int).tdiv (8 : Int)) - (1 : Int)) * ((5 : Int) - (↑x_1 : Int))) +
       ((↑(uN p) : Int) - (↑x_2.fst : Int)))).toNat)) ++
       strOf
       ((rwL (uN p) (uwL (flW W) (W.length / (4 : Nat) - (1 : Nat)) (uN p) p (uN p * x_2.snd + x_2.fst)) (uN p + (1 : Nat))).getD ((↑(uN p) : Int) - (↑x_2.fst : Int)).toNat
       (D.val (Value.bool false))))))))))) =
       some
       (Blk.fix
       (D.arr IntKind.u8 (8 : Nat)
       (rdA
       (uwL (flW W) (W.length / (4 : Nat) - (1 : Nat)) (uN p) p
       (uN p * ((5 : Int) - ((5 : Int) - (↑x_1 : Int))).toNat + ((↑(uN p) : Int) - IntKind.i64.wrap ((↑(uN p) : Int) - (↑x_2.fst : Int) - (1 : Int))).toNat))
       (0 : Nat)))) ∧
       some
       (Blk.row (9 : TypeId)
       (D.slc (1 : Nat)
       ((rwL (uN p) (uwL (flW W) (W.length / (4 : Nat) - (1 : Nat)) (uN p) p (uN p * x_2.snd + x_2.fst)) (uN p + (1 : Nat))).set ((↑(uN p) : Int) - (↑x_2.fst : Int)).toNat
       (D.str
       (List.take ((↑(16 : Nat) : Int).toNat - (8 : Nat))
       (List.drop (8 : Nat)
       (deL (flW W) (W.length / (4 : Nat) - (1 : Nat))
       (List.take (16 : Nat)
       (List.take ((↑(8 : Nat) : Int).toNat - (0 : Nat))
       (List.drop (0 : Nat)
       (cnL (rdA (uwL (flW W) (W.length / (4 : Nat) - (1 : Nat)) (uN p) p (uN p * x_2.snd + x_2.fst)) (0 : Nat))
       (IntKind.i64.wrap
       (IntKind.i64.wrap (IntKind.i64.wrap (IntKind.i64.wrap ((↑p.length : Int).tdiv (8 : Int)) - (1 : Int)) * ((5 : Int) - (↑x_1 : Int))) +
       ((↑(uN p) : Int) - (↑x_2.fst : Int)))).toNat)) ++
       strOf
       ((rwL (uN p) (uwL (flW W) (W.length / (4 : Nat) - (1 : Nat)) (uN p) p (uN p * x_2.snd + x_2.fst)) (uN p + (1 : Nat))).getD ((↑(uN p) : Int) - (↑x_2.fst : Int)).toNat
       (D.val (Value.bool false)))))))))))) =
       some
       (Blk.row (9 : TypeId)
       (D.slc (1 : Nat)
       (rwL (uN p)
       (uwL (flW W) (W.length / (4 : Nat) - (1 : Nat)) (uN p) p
       (uN p * ((5 : Int) - ((5 : Int) - (↑x_1 : Int))).toNat + ((↑(uN p) : Int) - IntKind.i64.wrap ((↑(uN p) : Int) - (↑x_2.fst : Int) - (1 : Int))).toNat))
       (uN p + (1 : Nat))))) ∧
       True) ∧
       true = true) ∧
       (((↑(uN p) : Int) - IntKind.i64.wrap ((↑(uN p) : Int) - (↑x_2.fst : Int) - (1 : Int))).toNat ≤ uN p ∧
       ((5 : Int) - ((5 : Int) - (↑x_1 : Int))).toNat ≤ (5 : Nat) ∧ (5 : Int) - (↑((5 : Int) - ((5 : Int) - (↑x_1 : Int))).toNat : Int) = (5 : Int) - (↑x_1 : Int)) ∧
       uN p - ((↑(uN p) : Int) - IntKind.i64.wrap ((↑(uN p) : Int) - (↑x_2.fst : Int) - (1 : Int))).toNat < uN p - x_2.fst
      | false =>
       True ∧
       True ∧
       True ∧
       ((sm (AV.d (D.st [D.slc (4 : Nat) W, D.arr IntKind.u8 (256 : Nat) bx, D.arr IntKind.u8 (256 : Nat) ux]).ref) ∧
       sm (AV.d (D.str p)) ∧
       sm (AV.d (D.str (ints { data := { toList := [] } }))) ∧
       sm (AV.d (D.val (Value.int IntKind.i64 (0 : Int)))) ∧
       sm (AV.d (D.val (Value.int IntKind.i64 (IntKind.i64.wrap (IntKind.i64.wrap ((↑p.length : Int).tdiv (8 : Int)) - (1 : Int)))))) ∧
       sm (AV.ptr (7 : Nat) []) ∧
       sm (AV.row (37 : Nat)) ∧
       sm (AV.d (D.val (Value.int IntKind.i64 (↑(x + (1 : Nat)) : Int)))) ∧
       AV.d (D.val (Value.int IntKind.i64 (IntKind.i64.wrap ((5 : Int) - (↑x_1 : Int) - (1 : Int))))) = AV.d (D.val (Value.int IntKind.i64 ((5 : Int) - (↑((5 : Int) - IntKind.i64.wrap ((5 : Int) - (↑x_1 : Int) - (1 : Int))).toNat : Int)))) ∧
       sm (AV.d (D.str p)) ∧
       sm (AV.d (D.val (Value.int IntKind.i64 (↑p.length : Int)))) ∧
       sm (AV.d (D.val (Value.int IntKind.i64 (IntKind.i64.wrap ((↑p.length : Int).tdiv (8 : Int)))))) ∧
       sm (AV.d (D.val (Value.int IntKind.i64 (IntKind.i64.wrap (IntKind.i64.wrap ((↑p.length : Int).tdiv (8 : Int)) - (1 : Int)))))) ∧
       sm (AV.d (D.str p)) ∧
       sm (AV.d (D.val (Value.int IntKind.i64 (↑p.length : Int)))) ∧
       sm (AV.d (D.val (Value.int IntKind.i64 ((↑p.length : Int).tmod (8 : Int))))) ∧
       sm (AV.d (D.val (Value.bool (decide ((↑p.length : Int).tmod (8 : Int) > (0 : Int)))))) ∧
       sm (AV.d (D.val (Value.bool false))) ∧
       sm (AV.d (D.val (Value.int IntKind.i64 (IntKind.i64.wrap (IntKind.i64.wrap ((↑p.length : Int).tdiv (8 : Int)) - (1 : Int)))))) ∧
       sm (AV.d (D.val (Value.bool (decide (IntKind.i64.wrap (IntKind.i64.wrap ((↑p.length : Int).tdiv (8 : Int)) - (1 : Int)) < (2 : Int)))))) ∧
       sm (AV.d (D.val (Value.bool (decide (IntKind.i64.wrap (IntKind.i64.wrap ((↑p.length : Int).tdiv (8 : Int)) - (1 : Int)) < (2 : Int)))))) ∧
       sm (AV.d (D.val (Value.bool false))) ∧
       sm (AV.d (D.val (Value.int IntKind.i64 (IntKind.i64.wrap (IntKind.i64.wrap ((↑p.length : Int).tdiv (8 : Int)) - (1 : Int)))))) ∧
       sm (AV.d (D.val (Value.bool (decide (IntKind.i64.wrap (IntKind.i64.wrap ((↑p.length : Int).tdiv (8 : Int)) - (1 : Int)) > (8 : Int)))))) ∧
       sm (AV.d (D.val (Value.bool (decide (IntKind.i64.wrap (IntKind.i64.wrap ((↑p.length : Int).tdiv (8 : Int)) - (1 : Int)) > (8 : Int)))))) ∧
       sm (AV.d (D.str p)) ∧
       sm (AV.d (D.str (List.drop (0 : Nat) (List.take (8 : Nat) p)))) ∧
       sm (AV.d (D.arr IntKind.u8 (8 : Nat) (List.take (8 : Nat) (List.drop (0 : Nat) (List.take (8 : Nat) p))))) ∧
       sm (AV.d (D.val (Value.int IntKind.i64 (IntKind.i64.wrap (IntKind.i64.wrap ((↑p.length : Int).tdiv (8 : Int)) - (1 : Int)))))) ∧
       sm (AV.d (D.val (Value.int IntKind.i64 (IntKind.i64.wrap (IntKind.i64.wrap (IntKind.i64.wrap ((↑p.length : Int).tdiv (8 : Int)) - (1 : Int)) + (1 : Int)))))) ∧
       sm (AV.row (37 : Nat)) ∧
       sm (AV.d (D.val (Value.int IntKind.i64 (↑(x + (1 : Nat)) : Int)))) ∧
       sm (AV.d (D.val (Value.int IntKind.i64 (IntKind.i64.wrap (IntKind.i64.wrap ((↑p.length : Int).tdiv (8 : Int)) - (1 : Int)))))) ∧
       sm (AV.d (D.val (Value.bool (decide ((↑(x + (1 : Nat)) : Int) ≤ IntKind.i64.wrap (IntKind.i64.wrap ((↑p.length : Int).tdiv (8 : Int)) - (1 : Int))))))) ∧ True) ∧
       (some (Blk.fix (D.arr IntKind.u8 (8 : Nat) (rdA (uwL (flW W) (W.length / (4 : Nat) - (1 : Nat)) (uN p) p (uN p * x_2.snd + x_2.fst)) (0 : Nat)))) =
       some (Blk.fix (D.arr IntKind.u8 (8 : Nat) (rdA (uwL (flW W) (W.length / (4 : Nat) - (1 : Nat)) (uN p) p (uN p * ((5 : Int) - IntKind.i64.wrap ((5 : Int) - (↑x_1 : Int) - (1 : Int))).toNat)) (0 : Nat)))) ∧
       some (Blk.row (9 : TypeId) (D.slc (1 : Nat) (rwL (uN p) (uwL (flW W) (W.length / (4 : Nat) - (1 : Nat)) (uN p) p (uN p * x_2.snd + x_2.fst)) (uN p + (1 : Nat))))) =
       some (Blk.row (9 : TypeId) (D.slc (1 : Nat) (rwL (uN p) (uwL (flW W) (W.length / (4 : Nat) - (1 : Nat)) (uN p) p (uN p * ((5 : Int) - IntKind.i64.wrap ((5 : Int) - (↑x_1 : Int) - (1 : Int))).toNat)) (uN p + (1 : Nat))))) ∧
       True) ∧
       true = true) ∧
       ((5 : Int) - IntKind.i64.wrap ((5 : Int) - (↑x_1 : Int) - (1 : Int))).toNat ≤ (6 : Nat) ∧ (6 : Nat) - ((5 : Int) - IntKind.i64.wrap ((5 : Int) - (↑x_1 : Int) - (1 : Int))).toNat < (6 : Nat) - x_1
     | false =>
      True ∧
      True ∧
      ((0 : Int) ≤ (1 : Int) ∧
      (1 : Int) ≤ (↑(rwL (uN p) (uwL (flW W) (W.length / (4 : Nat) - (1 : Nat)) (uN p) p (uN p * x_1)) (uN p + (1 : Nat))).length : Int) ∧
      (↑(rwL (uN p) (uwL (flW W) (W.length / (4 : Nat) - (1 : Nat)) (uN p) p (uN p * x_1)) (uN p + (1 : Nat))).length : Int) ≤ (↑(rwL (uN p) (uwL (flW W) (W.length / (4 : Nat) - (1 : Nat)) (uN p) p (uN p * x_1)) (uN p + (1 : Nat))).length : Int) ∧ (1 : Nat) ≠ (0 : Nat) ∧ (1 : Nat) = (1 : Nat)) ∧
      True ∧
      True ∧
      (((sm (AV.d (D.st [D.slc (4 : Nat) W, D.arr IntKind.u8 (256 : Nat) bx, D.arr IntKind.u8 (256 : Nat) ux]).ref) ∧
      sm (AV.d (D.str p)) ∧
      sm (AV.d (D.str (ints { data := { toList := [] } }))) ∧
      sm (AV.d (D.val (Value.int IntKind.i64 (0 : Int)))) ∧
      sm (AV.d (D.val (Value.int IntKind.i64 (IntKind.i64.wrap (IntKind.i64.wrap ((↑p.length : Int).tdiv (8 : Int)) - (1 : Int)))))) ∧
      sm (AV.ptr (7 : Nat) []) ∧
      sm (AV.row (37 : Nat)) ∧
      sm (AV.d (D.val (Value.int IntKind.i64 (↑(x + (1 : Nat)) : Int)))) ∧
      sm (AV.d (D.val (Value.int IntKind.i64 ((5 : Int) - (↑x_1 : Int))))) ∧
      AV.d (D.str (ints { data := { toList := [] } })) = AV.d (D.str (List.take (0 : Nat) (List.drop (8 : Nat) (uE (flW W) (W.length / (4 : Nat) - (1 : Nat)) p)))) ∧
      sm (AV.d (D.str p)) ∧
      sm (AV.d (D.val (Value.int IntKind.i64 (↑p.length : Int)))) ∧
      sm (AV.d (D.val (Value.int IntKind.i64 (IntKind.i64.wrap ((↑p.length : Int).tdiv (8 : Int)))))) ∧
      sm (AV.d (D.val (Value.int IntKind.i64 (IntKind.i64.wrap (IntKind.i64.wrap ((↑p.length : Int).tdiv (8 : Int)) - (1 : Int)))))) ∧
      sm (AV.d (D.str p)) ∧
      sm (AV.d (D.val (Value.int IntKind.i64 (↑p.length : Int)))) ∧
      sm (AV.d (D.val (Value.int IntKind.i64 ((↑p.length : Int).tmod (8 : Int))))) ∧
      sm (AV.d (D.val (Value.bool (decide ((↑p.length : Int).tmod (8 : Int) > (0 : Int)))))) ∧
      sm (AV.d (D.val (Value.bool false))) ∧
      sm (AV.d (D.val (Value.int IntKind.i64 (IntKind.i64.wrap (IntKind.i64.wrap ((↑p.length : Int).tdiv (8 : Int)) - (1 : Int)))))) ∧
      sm (AV.d (D.val (Value.bool (decide (IntKind.i64.wrap (IntKind.i64.wrap ((↑p.length : Int).tdiv (8 : Int)) - (1 : Int)) < (2 : Int)))))) ∧
      sm (AV.d (D.val (Value.bool (decide (IntKind.i64.wrap (IntKind.i64.wrap ((↑p.length : Int).tdiv (8 : Int)) - (1 : Int)) < (2 : Int)))))) ∧
      sm (AV.d (D.val (Value.bool false))) ∧
      sm (AV.d (D.val (Value.int IntKind.i64 (IntKind.i64.wrap (IntKind.i64.wrap ((↑p.length : Int).tdiv (8 : Int)) - (1 : Int)))))) ∧
      sm (AV.d (D.val (Value.bool (decide (IntKind.i64.wrap (IntKind.i64.wrap ((↑p.length : Int).tdiv (8 : Int)) - (1 : Int)) > (8 : Int)))))) ∧
      sm (AV.d (D.val (Value.bool (decide (IntKind.i64.wrap (IntKind.i64.wrap ((↑p.length : Int).tdiv (8 : Int)) - (1 : Int)) > (8 : Int)))))) ∧
      sm (AV.d (D.str p)) ∧
      sm (AV.d (D.str (List.drop (0 : Nat) (List.take (8 : Nat) p)))) ∧
      sm (AV.d (D.arr IntKind.u8 (8 : Nat) (List.take (8 : Nat) (List.drop (0 : Nat) (List.take (8 : Nat) p))))) ∧
      sm (AV.d (D.val (Value.int IntKind.i64 (IntKind.i64.wrap (IntKind.i64.wrap ((↑p.length : Int).tdiv (8 : Int)) - (1 : Int)))))) ∧
      sm (AV.d (D.val (Value.int IntKind.i64 (IntKind.i64.wrap (IntKind.i64.wrap (IntKind.i64.wrap ((↑p.length : Int).tdiv (8 : Int)) - (1 : Int)) + (1 : Int)))))) ∧
      sm (AV.row (37 : Nat)) ∧
      sm (AV.d (D.val (Value.int IntKind.i64 (↑(x + (1 : Nat)) : Int)))) ∧
      sm (AV.d (D.val (Value.int IntKind.i64 (IntKind.i64.wrap (IntKind.i64.wrap ((↑p.length : Int).tdiv (8 : Int)) - (1 : Int)))))) ∧
      sm (AV.d (D.val (Value.bool (decide ((↑(x + (1 : Nat)) : Int) ≤ IntKind.i64.wrap (IntKind.i64.wrap ((↑p.length : Int).tdiv (8 : Int)) - (1 : Int))))))) ∧
      sm (AV.d (D.val (Value.int IntKind.i64 ((5 : Int) - (↑x_1 : Int))))) ∧
      sm (AV.d (D.val (Value.bool (decide ((5 : Int) - (↑x_1 : Int) ≥ (0 : Int)))))) ∧
      sm (AV.row (37 : Nat)) ∧
      sm (AV.rpt (37 : Nat) (1 : Nat) (some ((↑(rwL (uN p) (uwL (flW W) (W.length / (4 : Nat) - (1 : Nat)) (uN p) p (uN p * x_1)) (uN p + (1 : Nat))).length : Int).toNat - (1 : Nat)))) ∧
      sm (AV.d (D.val (Value.int IntKind.i64 (↑((↑(rwL (uN p) (uwL (flW W) (W.length / (4 : Nat) - (1 : Nat)) (uN p) p (uN p * x_1)) (uN p + (1 : Nat))).length : Int).toNat - (1 : Nat)) : Int)))) ∧
      AV.d (D.val (Value.int IntKind.i64 (0 : Int))) = AV.d (D.val (Value.int IntKind.i64 (↑(Int.toNat (0 : Int)) : Int))) ∧ True) ∧
      (sm (some (Blk.fix (D.arr IntKind.u8 (8 : Nat) (rdA (uwL (flW W) (W.length / (4 : Nat) - (1 : Nat)) (uN p) p (uN p * x_1)) (0 : Nat))))) ∧
      sm (some (Blk.row (9 : TypeId) (D.slc (1 : Nat) (rwL (uN p) (uwL (flW W) (W.length / (4 : Nat) - (1 : Nat)) (uN p) p (uN p * x_1)) (uN p + (1 : Nat)))))) ∧ True) ∧
      true = true) ∧
      Int.toNat (0 : Int) ≤ uN p) ∧
      ∀ (x_2 : Nat),
      x_2 ≤ uN p →
      true = true ∧
      True ∧
      match decide ((↑x_2 : Int) < (↑((↑(rwL (uN p) (uwL (flW W) (W.length / (4 : Nat) - (1 : Nat)) (uN p) p (uN p * x_1)) (uN p + (1 : Nat))).length : Int).toNat - (1 : Nat)) : Int)) with
      | true =>
       ((0 : Int) ≤ (↑x_2 : Int) ∧ (↑x_2 : Int) < (↑((↑(rwL (uN p) (uwL (flW W) (W.length / (4 : Nat) - (1 : Nat)) (uN p) p (uN p * x_1)) (uN p + (1 : Nat))).length : Int).toNat - (1 : Nat)) : Int) ∧ (1 : Nat) ≠ (0 : Nat) ∧ (1 : Nat) = (1 : Nat)) ∧
       ((1 : Nat) + (↑x_2 : Int).toNat < (rwL (uN p) (uwL (flW W) (W.length / (4 : Nat) - (1 : Nat)) (uN p) p (uN p * x_1)) (uN p + (1 : Nat))).length ∧
       (1 : Nat) ≠ (0 : Nat) ∧
       (1 : Nat) = (1 : Nat) ∧
       D.str (strOf ((rwL (uN p) (uwL (flW W) (W.length / (4 : Nat) - (1 : Nat)) (uN p) p (uN p * x_1)) (uN p + (1 : Nat))).getD ((1 : Nat) + (↑x_2 : Int).toNat) (D.val (Value.bool false)))) =
       (rwL (uN p) (uwL (flW W) (W.length / (4 : Nat) - (1 : Nat)) (uN p) p (uN p * x_1)) (uN p + (1 : Nat))).getD ((1 : Nat) + (↑x_2 : Int).toNat) (D.val (Value.bool false)) ∧
       false = false) ∧
       True ∧
       True ∧
       True ∧
       (↑((List.take ((8 : Nat) * x_2) (List.drop (8 : Nat) (uE (flW W) (W.length / (4 : Nat) - (1 : Nat)) p))).length +
       (strOf ((rwL (uN p) (uwL (flW W) (W.length / (4 : Nat) - (1 : Nat)) (uN p) p (uN p * x_1)) (uN p + (1 : Nat))).getD ((1 : Nat) + (↑x_2 : Int).toNat) (D.val (Value.bool false)))).length) :
       Int) ≤
       (9223372036854775807 : Int) ∧
       True ∧
       True ∧
       True ∧
       ((sm (AV.d (D.st [D.slc (4 : Nat) W, D.arr IntKind.u8 (256 : Nat) bx, D.arr IntKind.u8 (256 : Nat) ux]).ref) ∧
       sm (AV.d (D.str p)) ∧
       sm (AV.d (D.str (ints { data := { toList := [] } }))) ∧
       sm (AV.d (D.val (Value.int IntKind.i64 (0 : Int)))) ∧
       sm (AV.d (D.val (Value.int IntKind.i64 (IntKind.i64.wrap (IntKind.i64.wrap ((↑p.length : Int).tdiv (8 : Int)) - (1 : Int)))))) ∧
       sm (AV.ptr (7 : Nat) []) ∧
       sm (AV.row (37 : Nat)) ∧
       sm (AV.d (D.val (Value.int IntKind.i64 (↑(x + (1 : Nat)) : Int)))) ∧
       sm (AV.d (D.val (Value.int IntKind.i64 ((5 : Int) - (↑x_1 : Int))))) ∧
       AV.d
       (D.str
       (List.take ((8 : Nat) * x_2) (List.drop (8 : Nat) (uE (flW W) (W.length / (4 : Nat) - (1 : Nat)) p)) ++
       strOf ((rwL (uN p) (uwL (flW W) (W.length / (4 : Nat) - (1 : Nat)) (uN p) p (uN p * x_1)) (uN p + (1 : Nat))).getD ((1 : Nat) + (↑x_2 : Int).toNat) (D.val (Value.bool false))))) =
       AV.d (D.str (List.take ((8 : Nat) * (IntKind.i64.wrap ((↑x_2 : Int) + (1 : Int))).toNat) (List.drop (8 : Nat) (uE (flW W) (W.length / (4 : Nat) - (1 : Nat)) p)))) ∧
       sm (AV.d (D.str p)) ∧
       sm (AV.d (D.val (Value.int IntKind.i64 (↑p.length : Int)))) ∧
       sm (AV.d (D.val (Value.int IntKind.i64 (IntKind.i64.wrap ((↑p.length : Int).tdiv (8 : Int)))))) ∧
       sm (AV.d (D.val (Value.int IntKind.i64 (IntKind.i64.wrap (IntKind.i64.wrap ((↑p.length : Int).tdiv (8 : Int)) - (1 : Int)))))) ∧
       sm (AV.d (D.str p)) ∧
       sm (AV.d (D.val (Value.int IntKind.i64 (↑p.length : Int)))) ∧
       sm (AV.d (D.val (Value.int IntKind.i64 ((↑p.length : Int).tmod (8 : Int))))) ∧
       sm (AV.d (D.val (Value.bool (decide ((↑p.length : Int).tmod (8 : Int) > (0 : Int)))))) ∧
       sm (AV.d (D.val (Value.bool false))) ∧
       sm (AV.d (D.val (Value.int IntKind.i64 (IntKind.i64.wrap (IntKind.i64.wrap ((↑p.length : Int).tdiv (8 : Int)) - (1 : Int)))))) ∧
       sm (AV.d (D.val (Value.bool (decide (IntKind.i64.wrap (IntKind.i64.wrap ((↑p.length : Int).tdiv (8 : Int)) - (1 : Int)) < (2 : Int)))))) ∧
       sm (AV.d (D.val (Value.bool (decide (IntKind.i64.wrap (IntKind.i64.wrap ((↑p.length : Int).tdiv (8 : Int)) - (1 : Int)) < (2 : Int)))))) ∧
       sm (AV.d (D.val (Value.bool false))) ∧
       sm (AV.d (D.val (Value.int IntKind.i64 (IntKind.i64.wrap (IntKind.i64.wrap ((↑p.length : Int).tdiv (8 : Int)) - (1 : Int)))))) ∧
       sm (AV.d (D.val (Value.bool (decide (IntKind.i64.wrap (IntKind.i64.wrap ((↑p.length : Int).tdiv (8 : Int)) - (1 : Int)) > (8 : Int)))))) ∧
       sm (AV.d (D.val (Value.bool (decide (IntKind.i64.wrap (IntKind.i64.wrap ((↑p.length : Int).tdiv (8 : Int)) - (1 : Int)) > (8 : Int)))))) ∧
       sm (AV.d (D.str p)) ∧
       sm (AV.d (D.str (List.drop (0 : Nat) (List.take (8 : Nat) p)))) ∧
       sm (AV.d (D.arr IntKind.u8 (8 : Nat) (List.take (8 : Nat) (List.drop (0 : Nat) (List.take (8 : Nat) p))))) ∧
       sm (AV.d (D.val (Value.int IntKind.i64 (IntKind.i64.wrap (IntKind.i64.wrap ((↑p.length : Int).tdiv (8 : Int)) - (1 : Int)))))) ∧
       sm (AV.d (D.val (Value.int IntKind.i64 (IntKind.i64.wrap (IntKind.i64.wrap (IntKind.i64.wrap ((↑p.length : Int).tdiv (8 : Int)) - (1 : Int)) + (1 : Int)))))) ∧
       sm (AV.row (37 : Nat)) ∧
       sm (AV.d (D.val (Value.int IntKind.i64 (↑(x + (1 : Nat)) : Int)))) ∧
       sm (AV.d (D.val (Value.int IntKind.i64 (IntKind.i64.wrap (IntKind.i64.wrap ((↑p.length : Int).tdiv (8 : Int)) - (1 : Int)))))) ∧
       sm (AV.d (D.val (Value.bool (decide ((↑(x + (1 : Nat)) : Int) ≤ IntKind.i64.wrap (IntKind.i64.wrap ((↑p.length : Int).tdiv (8 : Int)) - (1 : Int))))))) ∧
       sm (AV.d (D.val (Value.int IntKind.i64 ((5 : Int) - (↑x_1 : Int))))) ∧
       sm (AV.d (D.val (Value.bool (decide ((5 : Int) - (↑x_1 : Int) ≥ (0 : Int)))))) ∧
       sm (AV.row (37 : Nat)) ∧
       sm (AV.rpt (37 : Nat) (1 : Nat) (some ((↑(rwL (uN p) (uwL (flW W) (W.length / (4 : Nat) - (1 : Nat)) (uN p) p (uN p * x_1)) (uN p + (1 : Nat))).length : Int).toNat - (1 : Nat)))) ∧
       sm
       (AV.d
       (D.val
       (Value.int IntKind.i64
       (↑((↑(rwL (uN p) (uwL (flW W) (W.length / (4 : Nat) - (1 : Nat)) (uN p) p (uN p * x_1)) (uN p + (1 : Nat))).length : Int).toNat - (1 : Nat)) : Int)))) ∧
       AV.d (D.val (Value.int IntKind.i64 (IntKind.i64.wrap ((↑x_2 : Int) + (1 : Int))))) =
       AV.d (D.val (Value.int IntKind.i64 (↑(IntKind.i64.wrap ((↑x_2 : Int) + (1 : Int))).toNat : Int))) ∧
       True) ∧
       (sm (some (Blk.fix (D.arr IntKind.u8 (8 : Nat) (rdA (uwL (flW W) (W.length / (4 : Nat) - (1 : Nat)) (uN p) p (uN p * x_1)) (0 : Nat))))) ∧
       sm (some (Blk.row (9 : TypeId) (D.slc (1 : Nat) (rwL (uN p) (uwL (flW W) (W.length / (4 : Nat) - (1 : Nat)) (uN p) p (uN p * x_1)) (uN p + (1 : Nat)))))) ∧ True) ∧
       true = true) ∧
       (IntKind.i64.wrap ((↑x_2 : Int) + (1 : Int))).toNat ≤ uN p ∧ uN p - (IntKind.i64.wrap ((↑x_2 : Int) + (1 : Int))).toNat < uN p - x_2
      | false =>
       ((8 : Nat) ≠ (0 : Nat) ∧ (8 : Nat) = (8 : Nat) ∧ true = true) ∧
       ((1 : Nat) = (1 : Nat) ∧
       false = false ∧
       ((0 : Nat) < (8 : Nat) ∧ ([] : List Nat) = [] ∧ true = true) ∧
       false = false ∧
       ((1 : Nat) < (8 : Nat) ∧ ([] : List Nat) = [] ∧ true = true) ∧
       false = false ∧
       ((2 : Nat) < (8 : Nat) ∧ ([] : List Nat) = [] ∧ true = true) ∧
       false = false ∧
       ((3 : Nat) < (8 : Nat) ∧ ([] : List Nat) = [] ∧ true = true) ∧
       false = false ∧
       ((4 : Nat) < (8 : Nat) ∧ ([] : List Nat) = [] ∧ true = true) ∧ false = false ∧ ((5 : Nat) < (8 : Nat) ∧ ([] : List Nat) = [] ∧ true = true) ∧ false = false ∧ ((6 : Nat) < (8 : Nat) ∧ ([] : List Nat) = [] ∧ true = true) ∧ false = false ∧ ((7 : Nat) < (8 : Nat) ∧ ([] : List Nat) = [] ∧ true = true) ∧ True) ∧
       (IntKind.u8 = IntKind.u8 ∧ IntKind.u8 = IntKind.u8 ∧ (8 : Nat) = (8 : Nat) ∧ (8 : Nat) = (8 : Nat) ∧ (1 : Nat) = (1 : Nat)) ∧
       match !eqB (rdA (uwL (flW W) (W.length / (4 : Nat) - (1 : Nat)) (uN p) p (uN p * x_1)) (0 : Nat)) [(166 : Int), (166 : Int), (166 : Int), (166 : Int), (166 : Int), (166 : Int), (166 : Int), (166 : Int)] with
       | true => True ∧ True ∧ (false = false ∧ false = false ∧ True) ∧ D.tup [D.str (ints { data := { toList := [] } }), D.val (Value.int IntKind.i64 (5 : Int))] = F
       | false => True ∧ True ∧ True ∧ (false = false ∧ false = false ∧ True) ∧ D.tup [D.str (List.take ((8 : Nat) * x_2) (List.drop (8 : Nat) (uE (flW W) (W.length / (4 : Nat) - (1 : Nat)) p))), D.val (Value.int IntKind.i64 (0 : Int))] = F) := by kernel_rfl
end Go.Proofs.Ytnadggcfdakpoaa
namespace Go.Proofs.Ytnadggcfdakpoaa
open Go Go.Vg
theorem getD_setS {a : List Int} {i j : Nat} {x : Int} (hi : i < a.length) : (a.set i x).getD j 0 = if j = i then x else a.getD j 0 := by
 simp only [List.getD_eq_getElem?_getD, List.getElem?_set]
 by_cases h : i = j
 ·subst h; rw [if_pos rfl, if_pos rfl, if_pos hi]; rfl
 ·rw [if_neg h, if_neg (fun e => h e.symm)]
theorem okb_drop {l : List Int} (h : okb l) (n : Nat) : okb (l.drop n) := fun x hx => h x (List.mem_of_mem_drop hx)
theorem okb_take {l : List Int} (h : okb l) (n : Nat) : okb (l.take n) := fun x hx => h x (List.mem_of_mem_take hx)
theorem okb_app {a b : List Int} (ha : okb a) (hb : okb b) : okb (a ++ b) := fun x hx => (List.mem_append.1 hx).elim (ha x) (hb x)
theorem okb_set {a : List Int} (ha : okb a) {i : Nat} {x : Int} (hx : 0 ≤ x ∧ x < 256) : okb (a.set i x) := fun y hy => (List.mem_or_eq_of_mem_set hy).elim (ha y) (fun e => by rw [e]; exact hx)
theorem cnL_ok {n : Nat} {a : List Int} (h : isB n a) {t : Nat} (ht : t < 256) : isB n (cnL a t) := ⟨okb_set h.1 (ixor_ok (okb_g h.1 7) (by omega)), by unfold cnL; rw [List.length_set]; exact h.2⟩
theorem rdA_ok {X : List Int} (h : okb X) {i : Nat} (hi : 8 * i + 8 ≤ X.length) : isB 8 (rdA X i) := ⟨okb_take (okb_drop h _) _, by unfold rdA; rw [List.length_take, List.length_drop]; omega⟩
theorem rdA_len {X : List Int} {i : Nat} (hi : 8 * i + 8 ≤ X.length) : (rdA X i).length = 8 := by unfold rdA; rw [List.length_take, List.length_drop]; omega
theorem puA_len {X l : List Int} {i : Nat} (hi : 8 * i + 8 ≤ X.length) (hl : l.length = 8) : (puA X i l).length = X.length := by
 unfold puA
 rw [List.length_append, List.length_append, List.length_take, List.length_drop]; omega
theorem puA_ok {X l : List Int} (h : okb X) (hl : okb l) (i : Nat) : okb (puA X i l) := okb_app (okb_app (okb_take h _) hl) (okb_drop h _)
theorem rdA_get {X : List Int} {i j : Nat} (hj : j < 8) : (rdA X i).getD j 0 = X.getD (8 * i + j) 0 := by
 unfold rdA
 rw [getD_take hj, getD_drop]
theorem puA_get {X l : List Int} {i j : Nat} (hi : 8 * i + 8 ≤ X.length) (hl : l.length = 8) : (puA X i l).getD j 0 = if 8 * i ≤ j ∧ j < 8 * i + 8 then l.getD (j - 8 * i) 0 else X.getD j 0 := by
 unfold puA
 have e : (X.take (8 * i)).length = 8 * i := by rw [List.length_take]; omega
 rw [getD_app, List.length_append, e, hl]
 by_cases h1 : j < 8 * i + 8
 ·rw [if_pos h1, getD_app, e]
  by_cases h2 : j < 8 * i
  ·rw [if_pos h2, if_neg (by omega), getD_take h2]
  ·rw [if_neg h2, if_pos (by omega)]
 ·rw [if_neg h1, if_neg (by omega), getD_drop]
  congr 1
  omega
theorem rdA_pu {X l : List Int} {i j : Nat} (hi : 8 * i + 8 ≤ X.length) (hj : 8 * j + 8 ≤ X.length) (hl : l.length = 8) : rdA (puA X i l) j = if j = i then l else rdA X j := by
 have hp := puA_len hi hl
 split
 ·rename_i h
  subst h
  refine ext_getD (n := 8) (rdA_len (by omega)) hl fun m hm => ?_
  rw [rdA_get hm, puA_get hi hl, if_pos (by omega)]
  congr 1
  omega
 ·rename_i h
  refine ext_getD (n := 8) (rdA_len (by omega)) (rdA_len hj) fun m hm => ?_
  rw [rdA_get hm, rdA_get hm, puA_get hi hl, if_neg (by omega)]
theorem cpL_pu {X m : List Int} {o i len : Nat} (ho : o = 8 * i) (hi : 8 * i + 8 ≤ X.length) (hm : m.length = 8) (hlen : 8 ≤ len) : cpL X o m len = puA X i m := by
 subst ho
 unfold cpL puA
 have e : Nat.min 8 len = 8 := Nat.min_eq_left hlen
 rw [hm, e, List.take_of_length_le (l := m) (by omega)]
theorem cpL_b {X Z : List Int} {i : Nat} (hZ : Z.length = 16) (h0 : 8 ≤ X.length) (hi : 8 * i + 8 ≤ X.length) : cpL (cpL Z 0 X 8) 8 (X.drop (8 * i)) (16 - 8) = bWL X i := by
 unfold cpL bWL rdA
 have e1 : Nat.min X.length 8 = 8 := Nat.min_eq_right h0
 have e2 : Nat.min (X.length - 8 * i) (16 - 8) = 8 := Nat.min_eq_right (by omega)
 rw [e1, List.take_zero, List.nil_append, Nat.mul_zero, List.drop_zero, List.length_drop, e2, List.take_left' (by rw [List.length_take]; omega)]
 rw [List.drop_of_length_le (l := X.take 8 ++ _) (by rw [List.length_append, List.length_take, List.length_drop]; omega), List.append_nil]
theorem bWL_ok {X : List Int} (h : okb X) {i : Nat} (h0 : 8 ≤ X.length) (hi : 8 * i + 8 ≤ X.length) : isB 16 (bWL X i) :=
 ⟨okb_app (rdA_ok h (i := 0) (by omega)).1 (rdA_ok h hi).1, by unfold bWL; rw [List.length_append, rdA_len (i := 0) (by omega), rdA_len hi]⟩
theorem take_cn (E : List Int) (t : Nat) (h : E.length = 16) : List.take 8 (E.set 7 (ixor .u8 (E.getD 7 0) ((t : Nat) : Int))) = cnL (E.take 8) t := by
 unfold cnL
 rw [List.take_set, getD_take (by omega)]
theorem drop_cn (E : List Int) (x : Int) : List.drop 8 (E.set 7 x) = E.drop 8 := by
 rw [List.drop_set_of_lt (by omega)]
theorem cn_bW (X : List Int) (i t : Nat) (h0 : 8 ≤ X.length) : cnL (bWL X i) t = cnL (rdA X 0) t ++ rdA X i := by
 unfold cnL bWL
 have e := rdA_len (X := X) (i := 0) (by omega)
 rw [List.set_append_left _ _ (by omega), getD_app, if_pos (by omega)]
theorem icL_zero (p : List Int) : 0 :: 0 :: 0 :: 0 :: 0 :: 0 :: 0 :: 0 :: p = icL 0 p := rfl
theorem icL_len (p : List Int) {i : Nat} (h : i ≤ 8) : (icL i p).length = 8 + p.length := by
 unfold icL
 simp only [List.length_append, List.length_replicate]; omega
theorem icL_set (p : List Int) {i : Nat} (h : i < 8) : (icL i p).set i 166 = icL (i + 1) p := by
 unfold icL
 rw [List.set_append_right _ _ (by rw [List.length_replicate]; exact Nat.le_refl _), List.length_replicate, Nat.sub_self, show 8 - i = (8 - (i + 1)) + 1 by omega, List.replicate_succ, List.cons_append, List.set_cons_zero, List.replicate_succ', List.append_assoc]
 rfl
theorem w0L_len (p : List Int) : (w0L p).length = 8 + p.length := icL_len p (Nat.le_refl _)
theorem w0L_ok {p : List Int} (h : okb p) : okb (w0L p) := okb_app (fun x hx => by rw [List.eq_of_mem_replicate hx]; decide) (okb_app (fun x hx => by rw [List.eq_of_mem_replicate hx]; decide) h)
theorem lnB_le {n t : Nat} (h : 0 < n) : lnB n t ≤ n ∧ 1 ≤ lnB n t := by
 have := Nat.mod_lt (t - 1) h
 unfold lnB; omega
def okX8 (n : Nat) (X : List Int) : Prop := okb X ∧ X.length = 8 * (n + 1)
theorem enL_ok {w : List Int} (hw : okb w) {b : List Int} (hb : isB 16 b) (R : Nat) : isB 16 (enL w R b) := enS_ok hw hb.1 _ _
theorem deL_ok {w : List Int} (hw : okb w) {b : List Int} (hb : isB 16 b) (R : Nat) : isB 16 (deL w R b) := adK_ok hw (deS_ok hw hb R R).1 0
theorem tk8 {E : List Int} (h : isB 16 E) : isB 8 (E.take 8) := ⟨okb_take h.1 _, by rw [List.length_take, h.2]; rfl⟩
theorem dr8 {E : List Int} (h : isB 16 E) : isB 8 (E.drop 8) := ⟨okb_drop h.1 _, by rw [List.length_drop, h.2]⟩
theorem wsT_ok {w X : List Int} {n t : Nat} (hw : okb w) (R : Nat) (hn : 0 < n) (ht : t < 256) (h : okX8 n X) : okX8 n (wsT w R n X t) := by
 have hl := lnB_le (n := n) (t := t) hn
 have hb := enL_ok hw (bWL_ok h.1 (i := lnB n t) (by rw [h.2]; omega) (by rw [h.2]; omega)) R
 have h1 := cnL_ok (tk8 hb) ht
 have h2 := dr8 hb
 have e := puA_len (X := X) (i := 0) (by rw [h.2]; omega) h1.2
 exact ⟨puA_ok (puA_ok h.1 h1.1 _) h2.1 _, by unfold wsT; rw [puA_len (by rw [e, h.2]; omega) h2.2, e, h.2]⟩
theorem usT_ok {w X : List Int} {n t : Nat} (hw : okb w) (R : Nat) (hn : 0 < n) (ht : t < 256) (h : okX8 n X) : okX8 n (usT w R n X t) := by
 have hl := lnB_le (n := n) (t := t) hn
 have hb := deL_ok hw (cnL_ok (bWL_ok h.1 (i := lnB n t) (by rw [h.2]; omega) (by rw [h.2]; omega)) ht) R
 have h1 := tk8 hb
 have h2 := dr8 hb
 have e := puA_len (X := X) (i := 0) (by rw [h.2]; omega) h1.2
 exact ⟨puA_ok (puA_ok h.1 h1.1 _) h2.1 _, by unfold usT; rw [puA_len (by rw [e, h.2]; omega) h2.2, e, h.2]⟩
theorem wpL_ok {w X : List Int} {n : Nat} (hw : okb w) (R : Nat) (hn : 0 < n) (h : okX8 n X) : ∀ k, k < 255 → okX8 n (wpL w R n X k)
 | 0, _ => h
 | k + 1, hk => wsT_ok hw R hn (by omega) (wpL_ok hw R hn h k (by omega))
theorem uwL_ok {w X : List Int} {n : Nat} (hw : okb w) (R : Nat) (hn : 0 < n) (h8 : n ≤ 8) (h : okX8 n X) : ∀ k, okX8 n (uwL w R n X k)
 | 0 => h
 | k + 1 => usT_ok hw R hn (by omega) (uwL_ok hw R hn h8 h k)
theorem w0_ok {p : List Int} (h : okb p) (h8 : p.length % 8 = 0) : okX8 (wN p) (w0L p) := ⟨w0L_ok h, by rw [w0L_len]; unfold wN; omega⟩
theorem u0_ok {p : List Int} (h : okb p) (h8 : p.length % 8 = 0) (hl : 8 ≤ p.length) : okX8 (uN p) p := ⟨h, by unfold uN; omega⟩
theorem wr_arg {w : List Int} {R : Nat} {p : List Int} (h : ¬ okWr p) : wrE p = 1 ∧ wrL w R p = [] := by
 unfold wrE wrL
 rw [if_neg h, if_neg h]
 exact ⟨rfl, rfl⟩
theorem wr_ok {w : List Int} {R : Nat} {p : List Int} (h : okWr p) : wrE p = 0 ∧ wrL w R p = wE w R p := by
 unfold wrE wrL
 rw [if_pos h, if_pos h]
 exact ⟨rfl, rfl⟩
theorem un_arg {w : List Int} {R : Nat} {p : List Int} (h : ¬ okUn p) : unE w R p = 1 ∧ unL w R p = [] := by
 unfold unE unL
 rw [if_neg h, if_neg (fun hc => h hc.1)]
 exact ⟨rfl, rfl⟩
theorem un_sum {w : List Int} {R : Nat} {p : List Int} (h : okUn p) (h2 : ¬ pf6 (uE w R p) 8) : unE w R p = 5 ∧ unL w R p = [] := by
 unfold unE unL
 rw [if_pos h, if_neg h2, if_neg (fun hc => h2 hc.2)]
 exact ⟨rfl, rfl⟩
theorem un_ok {w : List Int} {R : Nat} {p : List Int} (h : okUn p) (h2 : pf6 (uE w R p) 8) : unE w R p = 0 ∧ unL w R p = (uE w R p).drop 8 := by
 unfold unE unL
 rw [if_pos h, if_pos h2, if_pos ⟨h, h2⟩]
 exact ⟨rfl, rfl⟩
theorem td8 (x : Nat) : (x : Int).tdiv 8 = ((x / 8 : Nat) : Int) := by
 rw [Int.tdiv_eq_ediv_of_nonneg (by omega)]
 omega
theorem tm8 (x : Nat) : (x : Int).tmod 8 = ((x % 8 : Nat) : Int) := by
 rw [Int.tmod_eq_emod_of_nonneg (by omega)]
 omega
theorem rwc {a b : List Int} (h : a = b) : some (Blk.row (5 : TypeId) (.ints .u8 a)) = some (Blk.row (5 : TypeId) (.ints .u8 b)) := by rw [h]
set_option maxRecDepth 100000 in
theorem m96 : Meets Try.prog 96 sp96 := by
 refine meets_of_owed (C := c96) ⟨tab_ok, fun f s h => by cases h⟩ (by kernel_rfl) (by kernel_rfl : Try.prog.funcs[96]? = some Try.f96) (by kernel_rfl) (by kernel_rfl) (by kernel_rfl) _ ?_
 rintro _ ⟨s, rfl, hs, hl⟩
 refine ⟨fun _ => rfl, inv96 s, ?_⟩
 show owed c96 (inv96 s) Try.f96 [.str s] (b16 (s.take 16))
 rw [vc96]
 simp (decide := true) only [eq_self, true_and, and_true, ne_eq, not_false_eq_true, Int.toNat_natCast]
 refine ⟨?_, ?_⟩
 ·and_intros <;> first | exact True.intro | omega | rfl | decide
 intro i hi
 split
 ·rename_i h
  have h := of_decide_eq_true h
  have hi : i < 16 := by omega
  have e1 : IntKind.i64.wrap ((i : Int) + 1) = ((i + 1 : Nat) : Int) := sq (by omega)
  have hset : (s.take i ++ List.replicate (16 - i) 0).set i (s.getD i 0) = s.take (i + 1) ++ List.replicate (16 - (i + 1)) 0 := by
   rw [List.set_append_right _ _ (by rw [List.length_take]; omega), List.length_take, show i - min i s.length = 0 by omega, show 16 - i = (16 - (i + 1)) + 1 by omega, List.replicate_succ, List.set_cons_zero, List.take_succ_eq_append_getElem (by omega), List.append_assoc, List.getD_eq_getElem?_getD, List.getElem?_eq_getElem (by omega)]
   rfl
  rw [e1, Int.toNat_natCast, hset]
  and_intros <;> first | exact True.intro | omega | rfl | decide
 ·rename_i h
  have h := of_decide_eq_false h
  have hi : i = 16 := by omega
  subst hi
  and_intros <;> first | exact True.intro | omega | rfl | decide | simp
set_option maxRecDepth 100000 in
theorem m99 : Meets Try.prog 99 sp99 := by
 refine meets_of_owed (C := c96) ⟨tab_ok, fun f s h => by cases h⟩ (by kernel_rfl) (by kernel_rfl : Try.prog.funcs[99]? = some Try.f99) (by kernel_rfl) (by kernel_rfl) (by kernel_rfl) _ ?_
 rintro _ ⟨s, rfl, hs, hl⟩
 refine ⟨fun _ => rfl, inv99 s, ?_⟩
 show owed c96 (inv99 s) Try.f99 [.str s] (b8 (s.take 8))
 rw [vc99]
 simp (decide := true) only [eq_self, true_and, and_true, ne_eq, not_false_eq_true, Int.toNat_natCast]
 refine ⟨?_, ?_⟩
 ·and_intros <;> first | exact True.intro | omega | rfl | decide
 intro i hi
 split
 ·rename_i h
  have h := of_decide_eq_true h
  have hi : i < 8 := by omega
  have e1 : IntKind.i64.wrap ((i : Int) + 1) = ((i + 1 : Nat) : Int) := sq (by omega)
  have hset : (s.take i ++ List.replicate (8 - i) 0).set i (s.getD i 0) = s.take (i + 1) ++ List.replicate (8 - (i + 1)) 0 := by
   rw [List.set_append_right _ _ (by rw [List.length_take]; omega), List.length_take, show i - min i s.length = 0 by omega, show 8 - i = (8 - (i + 1)) + 1 by omega, List.replicate_succ, List.set_cons_zero, List.take_succ_eq_append_getElem (by omega), List.append_assoc, List.getD_eq_getElem?_getD, List.getElem?_eq_getElem (by omega)]
   rfl
  rw [e1, Int.toNat_natCast, hset]
  and_intros <;> first | exact True.intro | omega | rfl | decide
 ·rename_i h
  have h := of_decide_eq_false h
  have hi : i = 8 := by omega
  subst hi
  rw [Nat.sub_self, List.replicate_zero, List.append_nil]
  rfl
theorem set_get (l : List Int) (i : Nat) (h : i < l.length) : l.set i (l.getD i 0) = l := by
 rw [List.getD_eq_getElem?_getD, List.getElem?_eq_getElem h]
 exact List.set_getElem_self h
theorem ixor0 {x : Int} (h : 0 ≤ x ∧ x < 256) : ixor .u8 x 0 = x := by
 obtain ⟨m, rfl⟩ := Int.eq_ofNat_of_zero_le h.1
 have e := ixorN .u8 (a := m) (b := 0) (by rw [kb8]; omega) (by rw [kb8]; omega)
 rw [Nat.xor_zero] at e
 exact e
theorem cnA_step {a : List Int} {t k : Nat} (ha : isB 8 a) (ht : t < 256) (hk : k < 8) : (cnA a t k).set (7 - k) (ixor .u8 ((cnA a t k).getD (7 - k) 0) ((cnN0 t k % 256 : Nat) : Int)) = cnA a t (k + 1) := by
 unfold cnA cnN0
 rw [if_neg (Nat.succ_ne_zero k)]
 by_cases h : k = 0
 ·subst h
  rw [if_pos rfl, if_pos rfl, Nat.mod_eq_of_lt ht]
  rfl
 ·rw [if_neg h, if_neg h]
  have hc := cnL_ok ha ht
  have := ixor0 (okb_g hc.1 (7 - k))
  rw [show ((0 % 256 : Nat) : Int) = 0 from rfl, this, set_get _ _ (by rw [hc.2]; omega)]
set_option maxRecDepth 100000 in
theorem m98 : Meets Try.prog 98 sp98 := by
 refine meets_of_owed (C := c96) ⟨tab_ok, fun f s h => by cases h⟩ (by kernel_rfl) (by kernel_rfl : Try.prog.funcs[98]? = some Try.f98) (by kernel_rfl) (by kernel_rfl) (by kernel_rfl) _ ?_
 rintro _ ⟨a, t, rfl, ha, ht⟩
 refine ⟨fun _ => rfl, inv98 a t, ?_⟩
 show owed c96 (inv98 a t) Try.f98 [b8 a, i64n t] (b8 (cnL a t))
 rw [vc98]
 simp (decide := true) only [eq_self, true_and, and_true, ne_eq, not_false_eq_true, Int.toNat_natCast]
 refine ⟨?_, ?_⟩
 ·have e0 : ((7 : Int) - 7).toNat = 0 := rfl
  rw [e0]
  and_intros <;> first | exact True.intro | omega | rfl | decide
 intro k hk
 split
 ·rename_i h
  have h := of_decide_eq_true h
  have hk : k < 8 := by omega
  have hn : cnN0 t k < 256 := by unfold cnN0; split <;> omega
  have e1 : ((7 : Int) - (k : Int)) = ((7 - k : Nat) : Int) := by omega
  have e2 : IntKind.i64.wrap (((7 - k : Nat) : Int) - 1) = 7 - ((k + 1 : Nat) : Int) := by rw [wi (by omega) (by omega)]; omega
  have e3 : ((7 : Int) - (7 - ((k + 1 : Nat) : Int))).toNat = k + 1 := by omega
  have e4 : ((cnN0 t k : Nat) : Int).tdiv 256 = ((cnN0 t (k + 1) : Nat) : Int) := by
   rw [Int.tdiv_eq_ediv_of_nonneg (by omega)]
   have : cnN0 t (k + 1) = 0 := by unfold cnN0; rw [if_neg (Nat.succ_ne_zero k)]
   rw [this]; omega
  have e5 : IntKind.i64.wrap ((cnN0 t (k + 1) : Nat) : Int) = ((cnN0 t (k + 1) : Nat) : Int) := by
   have : cnN0 t (k + 1) = 0 := by unfold cnN0; rw [if_neg (Nat.succ_ne_zero k)]
   rw [this]; rfl
  have e6 : IntKind.u8.wrap (((cnN0 t k : Nat) : Int).tmod 256) = ((cnN0 t k % 256 : Nat) : Int) := by
   rw [Int.tmod_eq_emod_of_nonneg (by omega), w8]; omega
  simp only [e1, e2, e3, e4, e5, e6, Int.toNat_natCast, cnA_step ha ht hk]
  and_intros <;> first | exact True.intro | omega | rfl | decide
 ·rename_i h
  have h := of_decide_eq_false h
  have hk : k = 8 := by omega
  subst hk
  rfl
end Go.Proofs.Ytnadggcfdakpoaa
namespace Go.Proofs.Ytnadggcfdakpoaa
open Go Go.Vg
theorem wraps {w X : List Int} {n k : Nat} {R : Nat} (hw : okb w) (hn : 0 < n) (h : okX8 n X) {Z : List Int} (hZ : Z.length = 16) {o : Nat} (ho : o = 8 * lnB n (k + 1)) {b : List Int}
  (hbb : cpL (cpL Z 0 X 8) 8 (List.take (X.length - o) (List.drop o X)) (16 - 8) = b) :
  isB 16 b ∧
  cpL X 0 (List.take 8 ((enL w R b).set 7 (ixor .u8 ((enL w R b).getD 7 0) ((k + 1 : Nat) : Int)))) X.length = puA X 0 (cnL ((enL w R (bWL X (lnB n (k + 1)))).take 8) (k + 1)) ∧
  (puA X 0 (cnL ((enL w R (bWL X (lnB n (k + 1)))).take 8) (k + 1))).length = X.length ∧
  cpL (puA X 0 (cnL ((enL w R (bWL X (lnB n (k + 1)))).take 8) (k + 1))) o (List.take (16 - 8) (List.drop 8 ((enL w R b).set 7 (ixor .u8 ((enL w R b).getD 7 0) ((k + 1 : Nat) : Int))))) (X.length - o) = wsT w R n X (k + 1) := by
 have hl := lnB_le (n := n) (t := k + 1) hn
 have e0 : List.take (X.length - o) (List.drop o X) = List.drop o X := List.take_of_length_le (by rw [List.length_drop]; exact Nat.le_refl _)
 subst ho
 have eb : b = bWL X (lnB n (k + 1)) := by
  rw [← hbb, e0]
  exact cpL_b hZ (by rw [h.2]; omega) (by rw [h.2]; omega)
 subst eb
 have hb := bWL_ok h.1 (i := lnB n (k + 1)) (by rw [h.2]; omega) (by rw [h.2]; omega)
 have he := enL_ok hw hb R
 unfold wsT
 generalize enL w R (bWL X (lnB n (k + 1))) = E at he
 have q1 : (cnL (E.take 8) (k + 1)).length = 8 := by unfold cnL; rw [List.length_set]; exact (tk8 he).2
 have e2 := puA_len (X := X) (i := 0) (by rw [h.2]; omega) q1
 have q2 := dr8 he
 refine ⟨hb, ?_, e2, ?_⟩
 ·rw [take_cn E (k + 1) he.2]
  exact cpL_pu (by omega) (by rw [h.2]; omega) q1 (by rw [h.2]; omega)
 ·rw [drop_cn, List.take_of_length_le (l := List.drop 8 E) (by rw [q2.2]; exact Nat.le_refl _)]
  exact cpL_pu rfl (by rw [e2, h.2]; omega) q2.2 (by rw [h.2]; omega)
theorem ln_eq (n k : Nat) : 8 * (k % n + 1) = 8 * lnB n (k + 1) := by unfold lnB; rw [Nat.add_sub_cancel]
set_option maxRecDepth 100000 in
theorem m33 : Meets Try.prog 33 sp33 := by
 refine meets_of_owed (C := c33) ⟨tab_ok, lkS_ok ⟨m25, trivial⟩⟩ (by kernel_rfl) (by kernel_rfl : Try.prog.funcs[33]? = some Try.f33) (by kernel_rfl) (by kernel_rfl) (by kernel_rfl) _ ?_
 rintro _ ⟨w, R, p, rfl, hw, hR, hp, hlp⟩
 refine ⟨(by intro h; cases h), inv33 w R p, ?_⟩
 show owed c33 (inv33 w R p) Try.f33 [keyD w ((R : Nat) : Int), .ints .u8 p] (.tup [.ints .u8 (wrL w R p), .val (.int .i64 (wrE p))])
 rw [vc33]
 have hlp : p.length ≤ 140737488351232 := hlp
 simp (decide := true) only [eq_self, true_and, and_true, ne_eq, not_false_eq_true, Int.toNat_natCast, tm8, td8]
 split
 ·rename_i h
  have h := bne_iff_ne.1 h
  obtain ⟨a1, a2⟩ := wr_arg (w := w) (R := R) (p := p) (fun hc => by have := hc.1; omega)
  rw [a1, a2]
 ·rename_i h0
  have h0 : p.length % 8 = 0 := by have := bne_eq_false_iff_eq.1 h0; omega
  split
  ·rename_i h
   have h := of_decide_eq_true h
   obtain ⟨a1, a2⟩ := wr_arg (w := w) (R := R) (p := p) (fun hc => by have := hc.2.1; omega)
   rw [a1, a2]
  ·rename_i h1
   have h1 := of_decide_eq_false h1
   split
   ·rename_i h
    have h := of_decide_eq_true h
    obtain ⟨a1, a2⟩ := wr_arg (w := w) (R := R) (p := p) (fun hc => by have := hc.2.2; omega)
    rw [a1, a2]
   ·rename_i h2
    have h2 := of_decide_eq_false h2
    have hok : okWr p := ⟨h0, by omega, by omega⟩
    have e8 : IntKind.i64.wrap (8 + (p.length : Int)) = ((8 + p.length : Nat) : Int) := by rw [wi (by omega) (by omega)]; omega
    have hn : p.length / 8 = wN p := rfl
    have hn2 : 2 ≤ wN p ∧ wN p ≤ 8 := by unfold wN; omega
    have en : IntKind.i64.wrap ((wN p : Nat) : Int) = ((wN p : Nat) : Int) := wi (by omega) (by omega)
    have e6 : IntKind.i64.wrap (6 * ((wN p : Nat) : Int)) = ((6 * wN p : Nat) : Int) := by rw [wi (by omega) (by omega)]; omega
    simp only [icL_zero p, e8, hn, en, e6, icL_len p (Nat.zero_le 8)]
    and_intros
    all_goals first | exact True.intro | omega | rfl | decide | skip
    intro x hx
    simp only [icL_len p hx]
    split
    ·rename_i h
     have h := of_decide_eq_true h
     have hx : x < 8 := by omega
     have e1 : IntKind.i64.wrap ((x : Int) + 1) = ((x + 1 : Nat) : Int) := sq (by omega)
     rw [e1, Int.toNat_natCast, icL_set p hx]
     and_intros <;> first | exact True.intro | omega | rfl | decide
    ·rename_i h
     have h := of_decide_eq_false h
     obtain rfl : x = 8 := by omega
     and_intros
     all_goals first | exact True.intro | omega | rfl | decide | skip
     intro k hk
     have hX := wpL_ok hw.1 R (n := wN p) (by omega) (w0_ok hp h0) k (by omega)
     split
     ·rename_i h
      have h := of_decide_eq_true h
      have hk : k < 6 * wN p := by omega
      have hwn : wpL w R (wN p) (w0L p) (k + 1) = wsT w R (wN p) (wpL w R (wN p) (w0L p) k) (k + 1) := rfl
      have f1 : IntKind.i64.wrap (((k + 1 : Nat) : Int) - 1) = ((k : Nat) : Int) := by rw [wi (by omega) (by omega)]; omega
      have f2 : ((k : Nat) : Int).tmod ((wN p : Nat) : Int) = ((k % wN p : Nat) : Int) := tmodN _ _
      have hm := Nat.mod_lt k (show 0 < wN p by omega)
      have f3 : IntKind.i64.wrap (((k % wN p : Nat) : Int) + 1) = ((k % wN p + 1 : Nat) : Int) := sq (by omega)
      have f4 : IntKind.i64.wrap (((k % wN p + 1 : Nat) : Int) * 8) = ((8 * (k % wN p + 1) : Nat) : Int) := by rw [wi (by omega) (by omega)]; omega
      have f5 : IntKind.u8.wrap ((k + 1 : Nat) : Int) = ((k + 1 : Nat) : Int) := by rw [wN8]; omega
      have f6 : IntKind.i64.wrap (((k + 1 : Nat) : Int) + 1) = ((k + 1 + 1 : Nat) : Int) := sq (by omega)
      simp only [f1, f2, f3, f4, f5, f6, Int.toNat_natCast, Nat.add_sub_cancel, hwn, List.drop_zero]
      generalize wpL w R (wN p) (w0L p) k = X at hX ⊢
      generalize hb : cpL (cpL [0, 0, 0, 0, 0, 0, 0, 0, 0, 0, 0, 0, 0, 0, 0, 0] 0 X 8) 8 (List.take (X.length - 8 * (k % wN p + 1)) (List.drop (8 * (k % wN p + 1)) X)) (16 - 8) = b
      obtain ⟨g1, g2, g3, g4⟩ := wraps (R := R) hw.1 (show 0 < wN p by omega) hX rfl (ln_eq _ _) hb
      simp only [g2, g3, g4]
      have hl := hX.2
      and_intros <;> first | exact True.intro | exact ⟨_, _, _, rfl, hw, g1, hR⟩ | omega | rfl | decide
     ·rename_i h
      have h := of_decide_eq_false h
      obtain rfl : k = 6 * wN p := by omega
      obtain ⟨a1, a2⟩ := wr_ok (w := w) (R := R) hok
      rw [a1, a2]
      and_intros <;> first | exact True.intro | rfl
end Go.Proofs.Ytnadggcfdakpoaa
namespace Go.Proofs.Ytnadggcfdakpoaa
open Go Go.Vg
theorem unwraps {w X : List Int} {n t : Nat} {R : Nat} (hw : okb w) (hn : 0 < n) (ht : t < 256) (h : okX8 n X) {Z : List Int} (hZ : Z.length = 16) {o : Nat} (ho : o = 8 * lnB n t) {b : List Int}
  (hbb : cpL (cpL Z 0 X 8) 8 (List.take (X.length - o) (List.drop o X)) (16 - 8) = b) :
  isB 16 (b.set 7 (ixor .u8 (b.getD 7 0) ((t : Nat) : Int))) ∧
  cpL X 0 (List.take 8 (deL w R (b.set 7 (ixor .u8 (b.getD 7 0) ((t : Nat) : Int))))) X.length = puA X 0 ((deL w R (cnL (bWL X (lnB n t)) t)).take 8) ∧
  (puA X 0 ((deL w R (cnL (bWL X (lnB n t)) t)).take 8)).length = X.length ∧
  cpL (puA X 0 ((deL w R (cnL (bWL X (lnB n t)) t)).take 8)) o (List.take (16 - 8) (List.drop 8 (deL w R (b.set 7 (ixor .u8 (b.getD 7 0) ((t : Nat) : Int)))))) (X.length - o) = usT w R n X t := by
 have hl := lnB_le (n := n) (t := t) hn
 have e0 : List.take (X.length - o) (List.drop o X) = List.drop o X := List.take_of_length_le (by rw [List.length_drop]; exact Nat.le_refl _)
 subst ho
 have eb : b = bWL X (lnB n t) := by
  rw [← hbb, e0]
  exact cpL_b hZ (by rw [h.2]; omega) (by rw [h.2]; omega)
 subst eb
 have hb := cnL_ok (bWL_ok h.1 (i := lnB n t) (by rw [h.2]; omega) (by rw [h.2]; omega)) ht
 have he := deL_ok hw hb R
 have ec : (bWL X (lnB n t)).set 7 (ixor .u8 ((bWL X (lnB n t)).getD 7 0) ((t : Nat) : Int)) = cnL (bWL X (lnB n t)) t := rfl
 rw [ec]
 unfold usT
 generalize deL w R (cnL (bWL X (lnB n t)) t) = E at he
 have q1 := (tk8 he).2
 have e2 := puA_len (X := X) (i := 0) (by rw [h.2]; omega) q1
 have q2 := dr8 he
 refine ⟨hb, ?_, e2, ?_⟩
 ·exact cpL_pu (by omega) (by rw [h.2]; omega) q1 (by rw [h.2]; omega)
 ·rw [List.take_of_length_le (l := List.drop 8 E) (by rw [q2.2]; exact Nat.le_refl _)]
  exact cpL_pu rfl (by rw [e2, h.2]; omega) q2.2 (by rw [h.2]; omega)
set_option maxRecDepth 100000 in
theorem m35 : Meets Try.prog 35 sp35 := by
 refine meets_of_owed (C := c35) ⟨tab_ok, lkS_ok ⟨m27, trivial⟩⟩ (by kernel_rfl) (by kernel_rfl : Try.prog.funcs[35]? = some Try.f35) (by kernel_rfl) (by kernel_rfl) (by kernel_rfl) _ ?_
 rintro _ ⟨w, R, p, rfl, hw, hR, hp, hlp⟩
 refine ⟨(by intro h; cases h), inv35 w R p, ?_⟩
 show owed c35 (inv35 w R p) Try.f35 [keyD w ((R : Nat) : Int), .ints .u8 p] (.tup [.ints .u8 (unL w R p), .val (.int .i64 (unE w R p))])
 rw [vc35]
 have hlp : p.length ≤ 140737488351232 := hlp
 simp (decide := true) only [eq_self, true_and, and_true, ne_eq, not_false_eq_true, Int.toNat_natCast, tm8, td8]
 split
 ·rename_i h
  have h := bne_iff_ne.1 h
  obtain ⟨a1, a2⟩ := un_arg (w := w) (R := R) (p := p) (fun hc => by have := hc.1; omega)
  rw [a1, a2]
 ·rename_i h0
  have h0 : p.length % 8 = 0 := by have := bne_eq_false_iff_eq.1 h0; omega
  split
  ·rename_i h
   have h := of_decide_eq_true h
   obtain ⟨a1, a2⟩ := un_arg (w := w) (R := R) (p := p) (fun hc => by have := hc.2.1; omega)
   rw [a1, a2]
  ·rename_i h1
   have h1 := of_decide_eq_false h1
   split
   ·rename_i h
    have h := of_decide_eq_true h
    obtain ⟨a1, a2⟩ := un_arg (w := w) (R := R) (p := p) (fun hc => by have := hc.2.2; omega)
    rw [a1, a2]
   ·rename_i h2
    have h2 := of_decide_eq_false h2
    have hok : okUn p := ⟨h0, by omega, by omega⟩
    have en0 : IntKind.i64.wrap ((p.length / 8 : Nat) : Int) = ((p.length / 8 : Nat) : Int) := wi (by omega) (by omega)
    have en : IntKind.i64.wrap (((p.length / 8 : Nat) : Int) - 1) = ((uN p : Nat) : Int) := by rw [wi (by omega) (by omega)]; unfold uN; omega
    have hn2 : 2 ≤ uN p ∧ uN p ≤ 8 := by unfold uN; omega
    have e6 : IntKind.i64.wrap (6 * ((uN p : Nat) : Int)) = ((6 * uN p : Nat) : Int) := by rw [wi (by omega) (by omega)]; omega
    have ez : (((6 * uN p : Nat) : Int) - ((6 * uN p : Nat) : Int)).toNat = 0 := by omega
    simp only [en0, en, e6, ez]
    and_intros
    all_goals first | exact True.intro | omega | rfl | decide | skip
    intro k hk
    have hX := uwL_ok hw.1 R (n := uN p) (by omega) hn2.2 (u0_ok hp h0 (by omega)) k
    split
    ·rename_i h
     have h := of_decide_eq_true h
     have hk : k < 6 * uN p := by omega
     have hwn : uwL w R (uN p) p (k + 1) = usT w R (uN p) (uwL w R (uN p) p k) (6 * uN p - k) := rfl
     have f0 : ((6 * uN p : Nat) : Int) - ((k : Nat) : Int) = ((6 * uN p - k : Nat) : Int) := by omega
     have f1 : IntKind.i64.wrap (((6 * uN p - k : Nat) : Int) - 1) = ((6 * uN p - k - 1 : Nat) : Int) := by rw [wi (by omega) (by omega)]; omega
     have f2 : ((6 * uN p - k - 1 : Nat) : Int).tmod ((uN p : Nat) : Int) = (((6 * uN p - k - 1) % uN p : Nat) : Int) := tmodN _ _
     have hm := Nat.mod_lt (6 * uN p - k - 1) (show 0 < uN p by omega)
     have f3 : IntKind.i64.wrap ((((6 * uN p - k - 1) % uN p : Nat) : Int) + 1) = ((lnB (uN p) (6 * uN p - k) : Nat) : Int) := sq (by omega)
     have hl := lnB_le (n := uN p) (t := 6 * uN p - k) (by omega)
     have f4 : IntKind.i64.wrap (((lnB (uN p) (6 * uN p - k) : Nat) : Int) * 8) = ((8 * lnB (uN p) (6 * uN p - k) : Nat) : Int) := by rw [wi (by omega) (by omega)]; omega
     have f5 : IntKind.u8.wrap ((6 * uN p - k : Nat) : Int) = ((6 * uN p - k : Nat) : Int) := by rw [wN8]; omega
     have f6 : (((6 * uN p : Nat) : Int) - ((6 * uN p - k - 1 : Nat) : Int)).toNat = k + 1 := by omega
     simp only [f0, f1, f2, f3, f4, f5, f6, Int.toNat_natCast, hwn, List.drop_zero]
     generalize uwL w R (uN p) p k = X at hX ⊢
     generalize hb : cpL (cpL [0, 0, 0, 0, 0, 0, 0, 0, 0, 0, 0, 0, 0, 0, 0, 0] 0 X 8) 8 (List.take (X.length - 8 * lnB (uN p) (6 * uN p - k)) (List.drop (8 * lnB (uN p) (6 * uN p - k)) X)) (16 - 8) = b
     obtain ⟨g1, g2, g3, g4⟩ := unwraps (R := R) hw.1 (show 0 < uN p by omega) (show 6 * uN p - k < 256 by omega) hX rfl rfl hb
     simp only [g2, g3, g4]
     have hl2 := hX.2
     have f7 : ((6 * uN p - k - 1 : Nat) : Int) = ((6 * uN p : Nat) : Int) - ((k + 1 : Nat) : Int) := by omega
     and_intros <;> first | exact True.intro | exact ⟨_, _, _, rfl, hw, g1, hR⟩ | (rw [f7]; done) | omega | rfl | decide
    ·rename_i h
     have h := of_decide_eq_false h
     obtain rfl : k = 6 * uN p := by omega
     have hU : uwL w R (uN p) p (6 * uN p) = uE w R p := rfl
     rw [hU] at hX ⊢
     generalize hO : uE w R p = O at *
     have hl := hX.2
     have t0 : pf6 O 0 := fun j hj => absurd hj (Nat.not_lt_zero _)
     and_intros
     all_goals first | exact True.intro | exact t0 | omega | rfl | decide | skip
     rintro i ⟨hi, ht⟩
     simp only [Nat.zero_add]
     split
     ·rename_i h4
      have h4 := of_decide_eq_true h4
      have hi : i < 8 := by omega
      have e4 : IntKind.i64.wrap ((i : Int) + 1) = ((i + 1 : Nat) : Int) := sq (by omega)
      refine ⟨⟨by omega, by omega⟩, by omega, ?_⟩
      split
      ·rename_i h5
       have h5 := bne_iff_ne.1 h5
       obtain ⟨a1, a2⟩ := un_sum (w := w) (R := R) (p := p) hok (by rw [hO]; intro hu; exact h5 (hu i hi))
       rw [a1, a2]
      ·rename_i h5
       have h5 := bne_eq_false_iff_eq.1 h5
       have ht2 : pf6 O (i + 1) := by
        intro j hj
        by_cases hji : j = i
        ·subst hji; exact h5
        ·exact ht j (by omega)
       rw [e4, Int.toNat_natCast]
       and_intros <;> first | exact True.intro | exact ht2 | omega | rfl | decide
     ·rename_i h4
      have h4 := of_decide_eq_false h4
      obtain rfl : i = 8 := by omega
      obtain ⟨a1, a2⟩ := un_ok (w := w) (R := R) (p := p) hok (by rw [hO]; exact ht)
      have e7 : List.take (O.length - 8) (List.drop 8 O) = List.drop 8 O := List.take_of_length_le (by rw [List.length_drop]; exact Nat.le_refl _)
      have e8 : (List.drop 8 O).length = O.length - 8 := List.length_drop
      rw [a1, a2, hO, e7]
      and_intros <;> first | exact True.intro | omega | rfl | decide
end Go.Proofs.Ytnadggcfdakpoaa
