/- The reference's rows of blocks; Wrapped. -/
import Derived.Test.YtnadggcfdakpoaaZb13
namespace Go.Proofs.Ytnadggcfdakpoaa
open Go Go.Vg
theorem in0 : ints { data := { toList := [] } } = [] := rfl
theorem tn0 : Int.toNat 0 = 0 := rfl
theorem rw_len (n : Nat) (X : List Int) (k : Nat) : (rwL n X k).length = n + 1 := by simp [rwL]
theorem rw_get? {n k i : Nat} {X : List Int} (hi : i ≤ n) : (rwL n X k)[i]? = some (.str (if 1 ≤ i ∧ i < k then rdA X i else [])) := by
 unfold rwL
 rw [List.getElem?_map, List.getElem?_range (by omega)]
 rfl
theorem rw_get {n i : Nat} {X : List Int} (h1 : 1 ≤ i) (hi : i ≤ n) (d : D) : (rwL n X (n + 1)).getD i d = .str (rdA X i) := by
 rw [List.getD_eq_getElem?_getD, rw_get? hi, if_pos ⟨h1, by omega⟩]
 rfl
theorem rw_ext {n : Nat} {a b : List D} (ha : a.length = n + 1) (hb : b.length = n + 1) (h : ∀ i, i ≤ n → a[i]? = b[i]?) : a = b := by
 refine List.ext_getElem? fun i => ?_
 by_cases hi : i ≤ n
 ·exact h i hi
 ·rw [List.getElem?_eq_none (by omega), List.getElem?_eq_none (by omega)]
theorem rw_one (n : Nat) (X : List Int) : List.replicate (n + 1) (D.str []) = rwL n X 1 :=
 rw_ext (by simp) (rw_len _ _ _) fun i hi => by
  rw [rw_get? hi, if_neg (by omega), List.getElem?_replicate, if_pos (by omega)]
theorem rw_set {n k : Nat} {X : List Int} (h1 : 1 ≤ k) (hk : k ≤ n) : (rwL n X k).set k (.str (rdA X k)) = rwL n X (k + 1) :=
 rw_ext (by rw [List.length_set, rw_len]) (rw_len _ _ _) fun i hi => by
  rw [List.getElem?_set, rw_get? hi, rw_get? hi]
  by_cases h : k = i
  ·subst h; rw [if_pos rfl, if_pos (by rw [rw_len]; omega), if_pos (by omega)]
  ·rw [if_neg h]
   by_cases h2 : 1 ≤ i ∧ i < k
   ·rw [if_pos h2, if_pos (by omega)]
   ·rw [if_neg h2, if_neg (by omega)]
theorem rw_put {n i : Nat} {X a l : List Int} (hX : X.length = 8 * (n + 1)) (h1 : 1 ≤ i) (hi : i ≤ n) (ha : a.length = 8) (hl : l.length = 8) :
  (rwL n X (n + 1)).set i (.str l) = rwL n (puA (puA X 0 a) i l) (n + 1) ∧ rdA (puA (puA X 0 a) i l) 0 = a := by
 have e := puA_len (X := X) (i := 0) (by omega) ha
 refine ⟨rw_ext (by rw [List.length_set, rw_len]) (rw_len _ _ _) fun j hj => ?_, ?_⟩
 ·rw [List.getElem?_set, rw_get? hj, rw_get? hj]
  by_cases h : i = j
  ·subst h
   rw [if_pos rfl, if_pos (by rw [rw_len]; omega), if_pos (by omega), rdA_pu (by omega) (by omega) hl, if_pos rfl]
  ·rw [if_neg h]
   by_cases h2 : 1 ≤ j ∧ j < n + 1
   ·rw [if_pos h2, if_pos h2, rdA_pu (by omega) (by omega) hl, if_neg (by omega), rdA_pu (by omega) (by omega) ha, if_neg (by omega)]
   ·rw [if_neg h2, if_neg h2]
 ·rw [rdA_pu (by omega) (by omega) hl, if_neg (by omega), rdA_pu (by omega) (by omega) ha, if_pos rfl]
theorem wref {w X : List Int} {n t i R : Nat} (hw : okb w) (hn : 0 < n) (h : okX8 n X) (ht : lnB n t = i) :
  rdA (wsT w R n X t) 0 = cnL ((enL w R (bWL X i)).take 8) t ∧ (rwL n X (n + 1)).set i (.str ((enL w R (bWL X i)).drop 8)) = rwL n (wsT w R n X t) (n + 1) := by
 have hl := lnB_le (n := n) (t := t) hn
 rw [ht] at hl
 have he := enL_ok hw (bWL_ok h.1 (i := i) (by rw [h.2]; omega) (by rw [h.2]; omega)) R
 have q1 : (cnL ((enL w R (bWL X i)).take 8) t).length = 8 := by unfold cnL; rw [List.length_set]; exact (tk8 he).2
 obtain ⟨a1, a2⟩ := rw_put h.2 hl.2 hl.1 q1 (dr8 he).2
 unfold wsT
 rw [ht]
 exact ⟨a2, a1⟩
theorem uref {w X : List Int} {n t i R : Nat} (hw : okb w) (hn : 0 < n) (ht2 : t < 256) (h : okX8 n X) (ht : lnB n t = i) :
  rdA (usT w R n X t) 0 = (deL w R (cnL (bWL X i) t)).take 8 ∧ (rwL n X (n + 1)).set i (.str ((deL w R (cnL (bWL X i) t)).drop 8)) = rwL n (usT w R n X t) (n + 1) := by
 have hl := lnB_le (n := n) (t := t) hn
 rw [ht] at hl
 have he := deL_ok hw (cnL_ok (bWL_ok h.1 (i := i) (by rw [h.2]; omega) (by rw [h.2]; omega)) ht2) R
 obtain ⟨a1, a2⟩ := rw_put h.2 hl.2 hl.1 (tk8 he).2 (dr8 he).2
 unfold usT
 rw [ht]
 exact ⟨a2, a1⟩
theorem rd_w0 (p : List Int) (k : Nat) : rdA (w0L p) (k + 1) = (p.drop (8 * k)).take 8 := by
 unfold rdA w0L icL
 rw [show 8 * (k + 1) = 8 + 8 * k by omega, ← List.drop_drop]
 rfl
theorem sl8 (p : List Int) (k : Nat) : List.drop (8 * k) (List.take (8 * (k + 1)) p) = (p.drop (8 * k)).take 8 := by
 rw [List.drop_take]
 congr 1
 omega
theorem tk_rd (E : List Int) (i : Nat) : List.take (8 * i) E ++ rdA E i = List.take (8 * (i + 1)) E := by
 unfold rdA
 rw [show 8 * (i + 1) = 8 * i + 8 by omega, List.take_add]
theorem slcc {a b : List D} (h : a = b) : some (Blk.row (9 : TypeId) (.slc 1 a)) = some (Blk.row (9 : TypeId) (.slc 1 b)) := by rw [h]
theorem b8c {a b : List Int} (h : a = b) : some (Blk.fix (.arr .u8 8 a)) = some (Blk.fix (.arr .u8 8 b)) := by rw [h]
set_option maxHeartbeats 1000000 in
set_option maxRecDepth 100000 in
theorem m34 : Meets Try.prog 34 sp34 := by
 refine meets_of_owed (C := c34) ⟨tab_ok, lkS_ok ⟨m96, m98, m99, m26, trivial⟩⟩ (by kernel_rfl) (by kernel_rfl : Try.prog.funcs[34]? = some Try.f34) (by kernel_rfl) (by kernel_rfl) (by kernel_rfl) _ ?_
 rintro _ ⟨W, bx, ux, p, rfl, hW, hW4, hW60, hXX, hp, hlp⟩
 refine ⟨fun _ => rfl, inv34 (flW W) (W.length / 4 - 1) p, ?_⟩
 show owed c34 (inv34 (flW W) (W.length / 4 - 1) p) Try.f34 [.ref (cipD W bx ux), .str p] (.tup [.str (wrL (flW W) (W.length / 4 - 1) p), .val (.int .i64 (wrE p))])
 rw [vc34]
 have hlp : p.length ≤ 140737488351232 := hlp
 have hw : okb (flW W) := flW_ok hW
 generalize hR : W.length / 4 - 1 = R
 generalize hv : flW W = w at *
 have hn : p.length / 8 = wN p := rfl
 have en : IntKind.i64.wrap ((wN p : Nat) : Int) = ((wN p : Nat) : Int) := wi (by unfold wN; omega) (by unfold wN; omega)
 simp (decide := true) only [in0, tn0, eq_self, true_and, and_true, ne_eq, not_false_eq_true, Int.toNat_natCast, tm8, td8, hn, en]
 split
 ·rename_i h
  have h := of_decide_eq_true h
  obtain ⟨a1, a2⟩ := wr_arg (w := w) (R := R) (p := p) (fun hc => by have := hc.1; omega)
  rw [a1, a2]
 ·rename_i h0
  have h0 : p.length % 8 = 0 := by have := of_decide_eq_false h0; omega
  have hnp : p.length = 8 * wN p := by unfold wN; omega
  split
  ·rename_i h
   have h := of_decide_eq_true h
   obtain ⟨a1, a2⟩ := wr_arg (w := w) (R := R) (p := p) (fun hc => by have := hc.2.1; omega)
   rw [a1, a2]
  ·rename_i h1
   have h1 := of_decide_eq_false h1
   split
   ·rename_i h
    have h := of_decide_eq_true h
    obtain ⟨a1, a2⟩ := wr_arg (w := w) (R := R) (p := p) (fun hc => by have := hc.2.2; omega)
    rw [a1, a2]
   ·rename_i h2
    have h2 := of_decide_eq_false h2
    have hok : okWr p := ⟨h0, by omega, by omega⟩
    have hn2 : 2 ≤ wN p ∧ wN p ≤ 8 := by omega
    have f1 : IntKind.i64.wrap (((wN p : Nat) : Int) + 1) = ((wN p + 1 : Nat) : Int) := sq (by omega)
    have hw0 := w0_ok hp h0
    have f2 : rwL (wN p) (w0L p) (wN p + 1) = rwL (wN p) (wpL w R (wN p) (w0L p) (wN p * 0)) (wN p + 1) := rfl
    simp only [f1, Int.toNat_natCast, rw_len, rw_one (wN p) (w0L p)]
    and_intros
    all_goals first | exact True.intro | omega | rfl | decide | skip
    intro k hk
    split
    ·rename_i h
     have h := of_decide_eq_true h
     have hk : k < wN p := by omega
     have g1 : IntKind.i64.wrap (8 * ((k + 1 : Nat) : Int)) = ((8 * (k + 1) : Nat) : Int) := by rw [wi (by omega) (by omega)]; omega
     have g2 : IntKind.i64.wrap (((8 * (k + 1) : Nat) : Int) - 8) = ((8 * k : Nat) : Int) := by rw [wi (by omega) (by omega)]; omega
     have g3 : IntKind.i64.wrap (((k + 1 : Nat) : Int) + 1) = ((k + 1 + 1 : Nat) : Int) := sq (by omega)
     have g4 := rw_set (n := wN p) (k := k + 1) (X := w0L p) (by omega) (by omega)
     rw [rd_w0] at g4
     simp only [g1, g2, g3, Int.toNat_natCast, sl8, g4, Nat.add_sub_cancel]
     and_intros <;> first | exact True.intro | omega | rfl | decide
    ·rename_i h
     have h := of_decide_eq_false h
     obtain rfl : k = wN p := by omega
     and_intros
     all_goals first | exact True.intro | omega | rfl | decide | skip
     intro j hj
     have hm0 : wN p * j ≤ 8 * 6 := Nat.mul_le_mul hn2.2 hj
     split
     ·rename_i h
      have h := of_decide_eq_true h
      have hj : j < 6 := by omega
      have hm1 : wN p * j ≤ 8 * 5 := Nat.mul_le_mul hn2.2 (by omega)
      simp only [Nat.add_zero]
      and_intros
      all_goals first | exact True.intro | omega | rfl | decide | skip
      rintro ⟨i, c⟩ ⟨hi, hc⟩
      have hi : i ≤ wN p := hi
      obtain rfl : c = j := by
       have hc : ((c : Nat) : Int) = (j : Int) := hc
       omega
      simp only []
      have hX := wpL_ok hw R (n := wN p) (by omega) hw0 (wN p * c + i) (by omega)
      split
      ·rename_i h
       have h := of_decide_eq_true h
       have hi : i < wN p := by omega
       have g1 : IntKind.i64.wrap (((wN p : Nat) : Int) * ((c : Nat) : Int)) = ((wN p * c : Nat) : Int) := by
        rw [← Int.natCast_mul, wi (by omega) (by omega)]
       have g2 : IntKind.i64.wrap (((wN p * c : Nat) : Int) + ((i + 1 : Nat) : Int)) = ((wN p * c + i + 1 : Nat) : Int) := by rw [wi (by omega) (by omega)]; omega
       have g3 : IntKind.i64.wrap (((i + 1 : Nat) : Int) + 1) = ((i + 1 + 1 : Nat) : Int) := sq (by omega)
       have hwn : wpL w R (wN p) (w0L p) (wN p * c + (i + 1)) = wsT w R (wN p) (wpL w R (wN p) (w0L p) (wN p * c + i)) (wN p * c + i + 1) := rfl
       have hln : lnB (wN p) (wN p * c + i + 1) = i + 1 := by
        unfold lnB
        rw [Nat.add_sub_cancel, Nat.mul_add_mod, Nat.mod_eq_of_lt hi]
       simp only [g1, g2, g3, Int.toNat_natCast, Nat.add_sub_cancel, hwn]
       generalize wpL w R (wN p) (w0L p) (wN p * c + i) = X at hX ⊢
       obtain ⟨r1, r2⟩ := wref (R := R) hw (show 0 < wN p by omega) hX hln
       have hXl := hX.2
       have k1 := rdA_ok hX.1 (i := 0) (by omega)
       have k2 := rdA_ok hX.1 (i := i + 1) (by omega)
       have k3 := bWL_ok hX.1 (i := i + 1) (by omega) (by omega)
       have k4 := enL_ok hw k3 R
       have t1 : List.take (8 - 0) (rdA X 0) = rdA X 0 := List.take_of_length_le (by rw [k1.2]; exact Nat.le_refl _)
       have t2 : List.take 16 (rdA X 0 ++ rdA X (i + 1)) = bWL X (i + 1) := List.take_of_length_le (by rw [List.length_append, k1.2, k2.2]; exact Nat.le_refl _)
       have t3 : List.take 8 (List.take 8 (enL w R (bWL X (i + 1)))) = List.take 8 (enL w R (bWL X (i + 1))) := by rw [List.take_take, Nat.min_self]
       have t4 : List.take (16 - 8) (List.drop 8 (enL w R (bWL X (i + 1)))) = List.drop 8 (enL w R (bWL X (i + 1))) := List.take_of_length_le (by rw [(dr8 k4).2]; exact Nat.le_refl _)
       simp only [rw_get (show 1 ≤ i + 1 by omega) (show i + 1 ≤ wN p by omega), strOf, t1, t2, t3, t4, r1, r2, k1.2, k2.2, List.drop_zero]
       have k5 : isBytes (rdA X 0) := k1.1
       have k6 : isBytes (List.take 8 (enL w R (bWL X (i + 1)))) := (tk8 k4).1
       have k7 : isBytes (List.drop 8 (enL w R (bWL X (i + 1)))) := (dr8 k4).1
       have k8 : okb (rdA X 0 ++ rdA X (i + 1)) ∧ 16 ≤ (rdA X 0 ++ rdA X (i + 1)).length := ⟨okb_app k1.1 k2.1, by rw [List.length_append, k1.2, k2.2]; exact Nat.le_refl _⟩
       and_intros <;> first | exact True.intro | exact k5 | exact k6 | exact k7 | exact ⟨_, rfl, k8⟩ | exact ⟨W, bx, ux, _, rfl, hW, hW4, hW60, hXX, k3⟩ | exact ⟨_, rfl, (tk8 k4).1, Nat.le_of_eq (tk8 k4).2.symm⟩ | exact ⟨_, _, rfl, tk8 k4, by omega⟩ | omega | rfl | decide
      ·rename_i h
       have h := of_decide_eq_false h
       obtain rfl : i = wN p := by omega
       have g3 : IntKind.i64.wrap (((c : Nat) : Int) + 1) = ((c + 1 : Nat) : Int) := sq (by omega)
       have g4 : wN p * c + wN p = wN p * (c + 1) := rfl
       simp only [g3, Int.toNat_natCast, g4]
       and_intros <;> first | exact True.intro | omega | rfl | decide
     ·rename_i h
      have h := of_decide_eq_false h
      obtain rfl : j = 6 := by omega
      have hE : wpL w R (wN p) (w0L p) (wN p * 6) = wE w R p := by unfold wE; rw [Nat.mul_comm]
      have hX := wpL_ok hw R (n := wN p) (by omega) hw0 (wN p * 6) (by omega)
      rw [hE] at hX ⊢
      have hXl := hX.2
      generalize hEE : wE w R p = E at *
      have k1 := rdA_ok hX.1 (i := 0) (by omega)
      have k5 : isBytes (rdA E 0) := k1.1
      have t1 : List.take (8 - 0) (List.drop 0 (rdA E 0)) = rdA E 0 := List.take_of_length_le (by rw [List.drop_zero, k1.2]; exact Nat.le_refl _)
      simp only [t1]
      and_intros
      all_goals first | exact True.intro | exact k5 | omega | rfl | decide | skip
      intro i hi
      have e1 : wN p + 1 - 1 = wN p := by omega
      simp only [e1]
      split
      ·rename_i h
       have h := of_decide_eq_true h
       have hi : i < wN p := by omega
       have k2 := rdA_ok hX.1 (i := i + 1) (by omega)
       have g3 : IntKind.i64.wrap ((i : Int) + 1) = ((i + 1 : Nat) : Int) := sq (by omega)
       have g4 := rw_get (n := wN p) (i := 1 + i) (X := E) (show 1 ≤ 1 + i by omega) (show 1 + i ≤ wN p by omega)
       rw [Nat.add_comm 1 i] at g4 ⊢
       have k6 : (List.take (8 * (i + 1)) E).length = 8 * (i + 1) := by rw [List.length_take]; omega
       simp only [g3, Int.toNat_natCast, g4, strOf, tk_rd, k2.2, k6]
       and_intros <;> first | exact True.intro | omega | rfl | decide
      ·rename_i h
       have h := of_decide_eq_false h
       obtain rfl : i = wN p := by omega
       obtain ⟨a1, a2⟩ := wr_ok (w := w) (R := R) hok
       rw [a1, a2, hEE, List.take_of_length_le (by omega)]
end Go.Proofs.Ytnadggcfdakpoaa
namespace Go.Proofs.Ytnadggcfdakpoaa
open Go Go.Vg
theorem sl8' (p : List Int) (k : Nat) : List.drop (8 * k) (List.take (8 * k + 8) p) = rdA p k := sl8 p k
theorem rd8 (E : List Int) (i : Nat) : rdA E (1 + i) = rdA (E.drop 8) i := by
 unfold rdA
 rw [List.drop_drop]
 congr 2
 omega
theorem pf6_iff {E : List Int} (h : 8 ≤ E.length) : eqB (rdA E 0) [166, 166, 166, 166, 166, 166, 166, 166] = true ↔ pf6 E 8 := by
 rw [eqB_iff]
 constructor
 ·intro h2 j hj
  have := rdA_get (X := E) (i := 0) hj
  rw [Nat.mul_zero, Nat.zero_add] at this
  rw [← this, h2]
  have : j = 0 ∨ j = 1 ∨ j = 2 ∨ j = 3 ∨ j = 4 ∨ j = 5 ∨ j = 6 ∨ j = 7 := by omega
  rcases this with rfl | rfl | rfl | rfl | rfl | rfl | rfl | rfl <;> rfl
 ·intro h2
  refine ext_getD (n := 8) (rdA_len (by omega)) rfl fun j hj => ?_
  rw [rdA_get hj, Nat.mul_zero, Nat.zero_add, h2 j hj]
  have : j = 0 ∨ j = 1 ∨ j = 2 ∨ j = 3 ∨ j = 4 ∨ j = 5 ∨ j = 6 ∨ j = 7 := by omega
  rcases this with rfl | rfl | rfl | rfl | rfl | rfl | rfl | rfl <;> rfl
set_option maxHeartbeats 1000000 in
set_option maxRecDepth 100000 in
theorem m36 : Meets Try.prog 36 sp36 := by
 refine meets_of_owed (C := c36) ⟨tab_ok, lkS_ok ⟨m96, m98, m99, m28, trivial⟩⟩ (by kernel_rfl) (by kernel_rfl : Try.prog.funcs[36]? = some Try.f36) (by kernel_rfl) (by kernel_rfl) (by kernel_rfl) _ ?_
 rintro _ ⟨W, bx, ux, p, rfl, hW, hW4, hW60, hXX, hp, hlp⟩
 refine ⟨fun _ => rfl, inv36 (flW W) (W.length / 4 - 1) p, ?_⟩
 show owed c36 (inv36 (flW W) (W.length / 4 - 1) p) Try.f36 [.ref (cipD W bx ux), .str p] (.tup [.str (unL (flW W) (W.length / 4 - 1) p), .val (.int .i64 (unE (flW W) (W.length / 4 - 1) p))])
 rw [vc36]
 have hlp : p.length ≤ 140737488351232 := hlp
 have hw : okb (flW W) := flW_ok hW
 generalize hR : W.length / 4 - 1 = R
 generalize hv : flW W = w at *
 have en0 : IntKind.i64.wrap ((p.length / 8 : Nat) : Int) = ((p.length / 8 : Nat) : Int) := wi (by omega) (by omega)
 simp (decide := true) only [in0, tn0, eq_self, true_and, and_true, ne_eq, not_false_eq_true, Int.toNat_natCast, tm8, td8, en0]
 split
 ·rename_i h
  have h := of_decide_eq_true h
  obtain ⟨a1, a2⟩ := un_arg (w := w) (R := R) (p := p) (fun hc => by have := hc.1; omega)
  rw [a1, a2]
 ·rename_i h0
  have h0 : p.length % 8 = 0 := by have := of_decide_eq_false h0; omega
  have en1 : IntKind.i64.wrap (((p.length / 8 : Nat) : Int) - 1) = ((p.length / 8 : Nat) : Int) - 1 := wi (by omega) (by omega)
  rw [en1]
  split
  ·rename_i h
   have h := of_decide_eq_true h
   obtain ⟨a1, a2⟩ := un_arg (w := w) (R := R) (p := p) (fun hc => by have := hc.2.1; omega)
   rw [a1, a2]
  ·rename_i h1
   have h1 := of_decide_eq_false h1
   split
   ·rename_i h
    have h := of_decide_eq_true h
    obtain ⟨a1, a2⟩ := un_arg (w := w) (R := R) (p := p) (fun hc => by have := hc.2.2; omega)
    rw [a1, a2]
   ·rename_i h2
    have h2 := of_decide_eq_false h2
    have hok : okUn p := ⟨h0, by omega, by omega⟩
    have hnp : p.length = 8 * (uN p + 1) := by unfold uN; omega
    have hn2 : 2 ≤ uN p ∧ uN p ≤ 8 := by omega
    have en : ((p.length / 8 : Nat) : Int) - 1 = ((uN p : Nat) : Int) := by omega
    have f1 : IntKind.i64.wrap (((uN p : Nat) : Int) + 1) = ((uN p + 1 : Nat) : Int) := sq (by omega)
    have hw0 := u0_ok hp h0 (by omega)
    have ez : (((uN p : Nat) : Int) - ((uN p : Nat) : Int)).toNat = 0 := by omega
    have ez5 : ((5 : Int) - 5).toNat = 0 := rfl
    have ep2 : List.drop 0 (List.take 8 p) = rdA p 0 := rfl
    have k0 := rdA_ok hp (i := 0) (by omega)
    have ep : List.take 8 (rdA p 0) = rdA p 0 := List.take_of_length_le (Nat.le_of_eq k0.2)
    simp only [en, f1, Int.toNat_natCast, rw_len, rw_one (uN p) p, ez, ez5, ep, ep2]
    and_intros
    all_goals first | exact True.intro | exact ⟨_, rfl, k0.1, Nat.le_of_eq k0.2.symm⟩ | omega | rfl | decide | skip
    intro k hk
    split
    ·rename_i h
     have h := of_decide_eq_true h
     have hk : k < uN p := by omega
     have g1 : IntKind.i64.wrap (8 * ((k + 1 : Nat) : Int)) = ((8 * (k + 1) : Nat) : Int) := by rw [wi (by omega) (by omega)]; omega
     have g2 : IntKind.i64.wrap (((8 * (k + 1) : Nat) : Int) + 8) = ((8 * (k + 1) + 8 : Nat) : Int) := by rw [wi (by omega) (by omega)]; omega
     have g3 : IntKind.i64.wrap (((k + 1 : Nat) : Int) + 1) = ((k + 1 + 1 : Nat) : Int) := sq (by omega)
     have g4 := rw_set (n := uN p) (k := k + 1) (X := p) (by omega) (by omega)
     simp only [g1, g2, g3, Int.toNat_natCast, sl8', g4, Nat.add_sub_cancel]
     and_intros <;> first | exact True.intro | omega | rfl | decide
    ·rename_i h
     have h := of_decide_eq_false h
     obtain rfl : k = uN p := by omega
     and_intros
     all_goals first | exact True.intro | omega | rfl | decide | skip
     intro j hj
     split
     ·rename_i h
      have h := of_decide_eq_true h
      have hj : j ≤ 5 := by omega
      have hm1 : uN p * j ≤ 8 * 5 := Nat.mul_le_mul hn2.2 hj
      have h5 : ((5 : Int) - ((5 : Int) - (j : Int))).toNat = j := by omega
      simp only [Nat.add_zero, h5]
      and_intros
      all_goals first | exact True.intro | omega | rfl | decide | skip
      rintro ⟨i, c⟩ ⟨hi, hc5, hc⟩
      have hi : i ≤ uN p := hi
      obtain rfl : c = j := by
       have hc : (5 : Int) - (c : Int) = 5 - (j : Int) := hc
       omega
      simp only []
      have hX := uwL_ok hw R (n := uN p) (by omega) hn2.2 hw0 (uN p * c + i)
      split
      ·rename_i h
       have h := of_decide_eq_true h
       have hi : i < uN p := by omega
       have hmc : uN p * (5 - c) + uN p * c = uN p * 5 := by rw [← Nat.mul_add]; congr 1; omega
       have e1 : ((uN p : Nat) : Int) - (i : Int) = ((uN p - i : Nat) : Int) := by omega
       have e2 : (5 : Int) - (c : Int) = ((5 - c : Nat) : Int) := by omega
       have g1 : IntKind.i64.wrap (((uN p : Nat) : Int) * ((5 - c : Nat) : Int)) = ((uN p * (5 - c) : Nat) : Int) := by
        rw [← Int.natCast_mul, wi (by omega) (by omega)]
       have g2 : IntKind.i64.wrap (((uN p * (5 - c) : Nat) : Int) + ((uN p - i : Nat) : Int)) = ((6 * uN p - (uN p * c + i) : Nat) : Int) := by rw [wi (by omega) (by omega)]; omega
       have g3 : IntKind.i64.wrap (((uN p - i : Nat) : Int) - 1) = ((uN p - i - 1 : Nat) : Int) := by rw [wi (by omega) (by omega)]; omega
       have g4 : (((uN p : Nat) : Int) - ((uN p - i - 1 : Nat) : Int)).toNat = i + 1 := by omega
       have g5 : ((uN p : Nat) : Int) - ((i + 1 : Nat) : Int) = ((uN p - i - 1 : Nat) : Int) := by omega
       have g6 : ((5 : Int) - ((5 - c : Nat) : Int)).toNat = c := by omega
       have hwn : uwL w R (uN p) p (uN p * c + (i + 1)) = usT w R (uN p) (uwL w R (uN p) p (uN p * c + i)) (6 * uN p - (uN p * c + i)) := rfl
       have hln : lnB (uN p) (6 * uN p - (uN p * c + i)) = uN p - i := by
        have : 6 * uN p - (uN p * c + i) - 1 = uN p * (5 - c) + (uN p - i - 1) := by omega
        unfold lnB
        rw [this, Nat.mul_add_mod, Nat.mod_eq_of_lt (by omega)]
        omega
       have hT : 6 * uN p - (uN p * c + i) < 256 := by omega
       simp only [e1, e2, g1, g2, g3, g4, g5, g6, Int.toNat_natCast, hwn]
       generalize 6 * uN p - (uN p * c + i) = t at hln hT ⊢
       generalize uwL w R (uN p) p (uN p * c + i) = X at hX ⊢
       obtain ⟨r1, r2⟩ := uref (R := R) hw (show 0 < uN p by omega) hT hX hln
       have hXl := hX.2
       have k1 := rdA_ok hX.1 (i := 0) (by omega)
       have k1c := cnL_ok k1 hT
       have k2 := rdA_ok hX.1 (i := uN p - i) (by omega)
       have k3 := cnL_ok (bWL_ok hX.1 (i := uN p - i) (by omega) (by omega)) hT
       have k4 := deL_ok hw k3 R
       have t1 : List.take (8 - 0) (cnL (rdA X 0) t) = cnL (rdA X 0) t := List.take_of_length_le (by rw [k1c.2]; exact Nat.le_refl _)
       have t2 : List.take 16 (cnL (rdA X 0) t ++ rdA X (uN p - i)) = cnL (bWL X (uN p - i)) t := by
        rw [cn_bW X _ t (by omega)]
        exact List.take_of_length_le (by rw [List.length_append, k1c.2, k2.2]; exact Nat.le_refl _)
       have t3 : List.take 8 (List.take 8 (deL w R (cnL (bWL X (uN p - i)) t))) = List.take 8 (deL w R (cnL (bWL X (uN p - i)) t)) := by rw [List.take_take, Nat.min_self]
       have t4 : List.take (16 - 8) (List.drop 8 (deL w R (cnL (bWL X (uN p - i)) t))) = List.drop 8 (deL w R (cnL (bWL X (uN p - i)) t)) := List.take_of_length_le (by rw [(dr8 k4).2]; exact Nat.le_refl _)
       simp only [rw_get (show 1 ≤ uN p - i by omega) (show uN p - i ≤ uN p by omega), strOf, t1, t2, t3, t4, r1, r2, k1c.2, k2.2, List.drop_zero]
       have k5 : isBytes (cnL (rdA X 0) t) := k1c.1
       have k6 : isBytes (List.take 8 (deL w R (cnL (bWL X (uN p - i)) t))) := (tk8 k4).1
       have k7 : isBytes (List.drop 8 (deL w R (cnL (bWL X (uN p - i)) t))) := (dr8 k4).1
       have k8 : okb (cnL (rdA X 0) t ++ rdA X (uN p - i)) ∧ 16 ≤ (cnL (rdA X 0) t ++ rdA X (uN p - i)).length := ⟨okb_app k1c.1 k2.1, by rw [List.length_append, k1c.2, k2.2]; exact Nat.le_refl _⟩
       and_intros <;> first | exact True.intro | exact k5 | exact k6 | exact k7 | exact ⟨_, rfl, k8⟩ | exact ⟨W, bx, ux, _, rfl, hW, hW4, hW60, hXX, k3⟩ | exact ⟨_, rfl, (tk8 k4).1, Nat.le_of_eq (tk8 k4).2.symm⟩ | exact ⟨_, _, rfl, k1, hT⟩ | omega | rfl | decide
      ·rename_i h
       have h := of_decide_eq_false h
       obtain rfl : i = uN p := by omega
       have g3 : IntKind.i64.wrap ((5 : Int) - (c : Int) - 1) = 5 - ((c + 1 : Nat) : Int) := by rw [wi (by omega) (by omega)]; omega
       have g5 : ((5 : Int) - (5 - ((c + 1 : Nat) : Int))).toNat = c + 1 := by omega
       have g4 : uN p * c + uN p = uN p * (c + 1) := rfl
       simp only [g3, g5, g4]
       and_intros <;> first | exact True.intro | omega | rfl | decide
     ·rename_i h
      have h := of_decide_eq_false h
      obtain rfl : j = 6 := by omega
      have hE : uwL w R (uN p) p (uN p * 6) = uE w R p := by unfold uE; rw [Nat.mul_comm]
      have hX := uwL_ok hw R (n := uN p) (by omega) hn2.2 hw0 (uN p * 6)
      rw [hE] at hX ⊢
      have hXl := hX.2
      have hpf := pf6_iff (E := uE w R p) (by omega)
      generalize hEE : uE w R p = E at *
      and_intros
      all_goals first | exact True.intro | omega | rfl | decide | skip
      intro i hi
      have e1 : uN p + 1 - 1 = uN p := by omega
      simp only [e1]
      split
      ·rename_i h
       have h := of_decide_eq_true h
       have hi : i < uN p := by omega
       have hd8 : (E.drop 8).length = 8 * uN p := by rw [List.length_drop]; omega
       have k2 := rdA_ok (okb_drop hX.1 8) (i := i) (by omega)
       have g3 : IntKind.i64.wrap ((i : Int) + 1) = ((i + 1 : Nat) : Int) := sq (by omega)
       have g4 := rw_get (n := uN p) (i := 1 + i) (X := E) (show 1 ≤ 1 + i by omega) (show 1 + i ≤ uN p by omega)
       rw [rd8] at g4
       have k6 : (List.take (8 * i) (E.drop 8)).length = 8 * i := by rw [List.length_take]; omega
       simp only [g3, Int.toNat_natCast, g4, strOf, tk_rd, k2.2, k6]
       and_intros <;> first | exact True.intro | omega | rfl | decide
      ·rename_i h
       have h := of_decide_eq_false h
       obtain rfl : i = uN p := by omega
       have hd8 : (E.drop 8).length = 8 * uN p := by rw [List.length_drop]; omega
       have k6 : List.take (8 * uN p) (E.drop 8) = E.drop 8 := List.take_of_length_le (by omega)
       cases hb : eqB (rdA E 0) [166, 166, 166, 166, 166, 166, 166, 166] with
       | true =>
        obtain ⟨a1, a2⟩ := un_ok (w := w) (R := R) hok (by rw [hEE]; exact hpf.1 hb)
        rw [a1, a2, hEE, k6]
        and_intros <;> first | exact True.intro | rfl
       | false =>
        obtain ⟨a1, a2⟩ := un_sum (w := w) (R := R) hok (by rw [hEE]; intro hc; rw [hpf.2 hc] at hb; cases hb)
        rw [a1, a2]
        and_intros <;> first | exact True.intro | rfl
end Go.Proofs.Ytnadggcfdakpoaa
namespace Go.Proofs.Ytnadggcfdakpoaa
open Go Go.Vg
noncomputable def c7 : Ctx := ⟨tab, lkS [(19, sp19), (20, sp20), (33, sp33), (34, sp34), (35, sp35), (36, sp36)], [], []⟩
noncomputable def c7b : Ctx := ⟨tab, lkS [(19, sp19), (20, sp20b), (33, sp33), (34, sp34), (35, sp35), (36, sp36)], [], []⟩
--KEEP List.replicate HXor.hXor Go.Vg.eqB Go.Vg.opq boxP Go.Vg.gm Go.Vg.gpw Go.Vg.giv Go.Vg.rl8 Go.Vg.gbx Go.Vg.gux Go.Vg.gcl Go.Vg.gce Go.Vg.gub Go.Vg.gia Go.Vg.boxL Go.Vg.gax Go.Vg.gan Go.Vg.gsb Go.Vg.clm Go.Vg.red pwL okb sbI suI selL s4L adK colL eaL shL usL trL rowL adR mxR flW okW isB z16 enS enL deS deL okX shR usR Go.Vg.chunks z240 prL trn tuL wdL fwS fwL okN kexW kexR kexE boxU
--KEEP Go.Vg.cpL cnL rdA puA bWL lnB wsT usT wpL uwL icL w0L okWr okUn pf6 wN uN wE uE wrL wrE unL unE rwL lenP cnA cnN0
set_option maxRecDepth 100000 in
theorem vc7  (key p s : List Int) (F : D)  :
    (owed c7 (fun _ => none) Try.f7 [.ints .u8 key, .ints .u8 p, .ints .u8 s] F) = (
 True ∧
 True ∧
 (∃ (key_1 : List Int), [D.ints IntKind.u8 key] = [D.ints IntKind.u8 key_1] ∧ okb key_1 ∧ key_1.length ≤ (140737488351232 : Nat)) ∧
 True ∧
 ((0 : Nat) < (2 : Nat) ∧ false = false) ∧
 ((1 : Nat) < (2 : Nat) ∧ false = false) ∧
 (True ∧ (241 : Nat) ≠ (0 : Nat)) ∧
 (Sk.st [Sk.arr (240 : Nat), Sk.one] = Sk.st [Sk.arr (240 : Nat), Sk.one] ∧ (241 : Nat) ≠ (0 : Nat) ∧ (241 : Nat) = (241 : Nat) ∧ false = false) ∧
 True ∧
 True ∧
 isBytes key ∧
 ((∃ (key_1 : List Int), [D.str key] = [D.str key_1] ∧ okb key_1 ∧ okN key_1) ∧ True) ∧
 True ∧
 True ∧
 ((0 : Nat) < (1 : Nat) ∧ false = false) ∧
 True ∧
 True ∧
 True ∧
 True ∧
 ((241 : Nat) ≠ (0 : Nat) ∧ (241 : Nat) = (241 : Nat) ∧ true = true) ∧
 True ∧
 (∃ (w : List Int), ∃ (R : Nat), ∃ (p_1 : List Int), [D.st [D.arr IntKind.u8 (240 : Nat) (kexW key), D.val (Value.int IntKind.i64 (kexR key))], D.ints IntKind.u8 p] = [D.st [D.arr IntKind.u8 (240 : Nat) w, D.val (Value.int IntKind.i64 (↑R : Int))], D.ints IntKind.u8 p_1] ∧ isB (240 : Nat) w ∧ R ≤ (14 : Nat) ∧ okb p_1 ∧ lenP p_1) ∧
 True ∧
 ((0 : Nat) < (2 : Nat) ∧ false = false) ∧
 ((1 : Nat) < (2 : Nat) ∧ false = false) ∧
 True ∧
 True ∧
 True ∧
 True ∧
 isBytes p ∧
 (∃ (W : List D),
 ∃ (bx : List Int),
 ∃ (ux : List Int),
 ∃ (p_1 : List Int),
 [(D.st [D.slc (4 : Nat) (chunks IntKind.u8 (4 : Nat) ((4 : Nat) * (key.length / (4 : Nat) + (7 : Nat))) (fwL (key.length / (4 : Nat)) key)), D.arr IntKind.u8 (256 : Nat) boxP, D.arr IntKind.u8 (256 : Nat) boxU]).ref, D.str p] =
 [(D.st [D.slc (4 : Nat) W, D.arr IntKind.u8 (256 : Nat) bx, D.arr IntKind.u8 (256 : Nat) ux]).ref, D.str p_1] ∧
 okW W ∧ (4 : Nat) ≤ W.length ∧ W.length ≤ (60 : Nat) ∧ okX bx ux ∧ okb p_1 ∧ lenP p_1) ∧
 True ∧
 ((0 : Nat) < (2 : Nat) ∧ false = false) ∧
 ((1 : Nat) < (2 : Nat) ∧ false = false) ∧
 True ∧
 True ∧
 ((241 : Nat) ≠ (0 : Nat) ∧ (241 : Nat) = (241 : Nat) ∧ true = true) ∧
 True ∧
 (∃ (w : List Int),
 ∃ (R : Nat), ∃ (p : List Int), [D.st [D.arr IntKind.u8 (240 : Nat) (kexW key), D.val (Value.int IntKind.i64 (kexR key))], D.ints IntKind.u8 s] = [D.st [D.arr IntKind.u8 (240 : Nat) w, D.val (Value.int IntKind.i64 (↑R : Int))], D.ints IntKind.u8 p] ∧ isB (240 : Nat) w ∧ R ≤ (14 : Nat) ∧ okb p ∧ lenP p) ∧
 True ∧
 ((0 : Nat) < (2 : Nat) ∧ false = false) ∧
 ((1 : Nat) < (2 : Nat) ∧ false = false) ∧
 True ∧
 True ∧
 True ∧
 True ∧
 isBytes s ∧
 (∃ (W : List D),
 ∃ (bx : List Int),
 ∃ (ux : List Int),
 ∃ (p : List Int),
 [(D.st [D.slc (4 : Nat) (chunks IntKind.u8 (4 : Nat) ((4 : Nat) * (key.length / (4 : Nat) + (7 : Nat))) (fwL (key.length / (4 : Nat)) key)), D.arr IntKind.u8 (256 : Nat) boxP, D.arr IntKind.u8 (256 : Nat) boxU]).ref, D.str s] =
 [(D.st [D.slc (4 : Nat) W, D.arr IntKind.u8 (256 : Nat) bx, D.arr IntKind.u8 (256 : Nat) ux]).ref, D.str p] ∧
 okW W ∧ (4 : Nat) ≤ W.length ∧ W.length ≤ (60 : Nat) ∧ okX bx ux ∧ okb p ∧ lenP p) ∧
 True ∧
 ((0 : Nat) < (2 : Nat) ∧ false = false) ∧
 ((1 : Nat) < (2 : Nat) ∧ false = false) ∧
 True ∧
 True ∧
 True ∧
 isBytes (wrL (kexW key) (kexR key).toNat p) ∧
 True ∧
 True ∧
 True ∧
 match
 eqB (wrL (kexW key) (kexR key).toNat p)
 (wrL (flW (chunks IntKind.u8 (4 : Nat) ((4 : Nat) * (key.length / (4 : Nat) + (7 : Nat))) (fwL (key.length / (4 : Nat)) key))) ((chunks IntKind.u8 (4 : Nat) ((4 : Nat) * (key.length / (4 : Nat) + (7 : Nat))) (fwL (key.length / (4 : Nat)) key)).length / (4 : Nat) - (1 : Nat))
 p) with
 | true =>
  True ∧
  True ∧
  True ∧
  True ∧
  True ∧
  match wrE p == wrE p with
  | true =>
   True ∧
   isBytes (unL (kexW key) (kexR key).toNat s) ∧
   True ∧
   True ∧
   True ∧
   True ∧
   match
   eqB (unL (kexW key) (kexR key).toNat s)
   (unL (flW (chunks IntKind.u8 (4 : Nat) ((4 : Nat) * (key.length / (4 : Nat) + (7 : Nat))) (fwL (key.length / (4 : Nat)) key)))
   ((chunks IntKind.u8 (4 : Nat) ((4 : Nat) * (key.length / (4 : Nat) + (7 : Nat))) (fwL (key.length / (4 : Nat)) key)).length / (4 : Nat) - (1 : Nat)) s) with
   | true =>
    True ∧
    True ∧
    True ∧
    True ∧
    True ∧
    (false = false ∧ True) ∧
    D.val
    (Value.bool
    (unE (kexW key) (kexR key).toNat s ==
    unE (flW (chunks IntKind.u8 (4 : Nat) ((4 : Nat) * (key.length / (4 : Nat) + (7 : Nat))) (fwL (key.length / (4 : Nat)) key)))
    ((chunks IntKind.u8 (4 : Nat) ((4 : Nat) * (key.length / (4 : Nat) + (7 : Nat))) (fwL (key.length / (4 : Nat)) key)).length / (4 : Nat) - (1 : Nat)) s)) =
    F
   | false => True ∧ True ∧ (false = false ∧ True) ∧ D.val (Value.bool false) = F
  | false => True ∧ True ∧ True ∧ True ∧ (false = false ∧ True) ∧ D.val (Value.bool false) = F
 | false => True ∧ True ∧ True ∧ True ∧ True ∧ True ∧ (false = false ∧ True) ∧ D.val (Value.bool false) = F) := by kernel_rfl
set_option maxRecDepth 100000 in
theorem vc7b  (key p s : List Int) (F : D)  :
    (owed c7b (fun _ => none) Try.f7 [.ints .u8 key, .ints .u8 p, .ints .u8 s] F) = (
 True ∧
 True ∧
 (∃ (key_1 : List Int), [D.ints IntKind.u8 key] = [D.ints IntKind.u8 key_1] ∧ okb key_1 ∧ key_1.length ≤ (140737488351232 : Nat)) ∧
 True ∧
 ((0 : Nat) < (2 : Nat) ∧ false = false) ∧
 ((1 : Nat) < (2 : Nat) ∧ false = false) ∧
 (True ∧ (241 : Nat) ≠ (0 : Nat)) ∧
 (Sk.st [Sk.arr (240 : Nat), Sk.one] = Sk.st [Sk.arr (240 : Nat), Sk.one] ∧ (241 : Nat) ≠ (0 : Nat) ∧ (241 : Nat) = (241 : Nat) ∧ false = false) ∧
 True ∧ True ∧ isBytes key ∧ (∃ (key_1 : List Int), [D.str key] = [D.str key_1] ∧ okb key_1 ∧ ¬okN key_1 ∧ key_1.length ≤ (140737488351232 : Nat)) ∧ True ∧ ((0 : Nat) < (2 : Nat) ∧ false = false) ∧ ((1 : Nat) < (2 : Nat) ∧ false = false) ∧ True ∧ True ∧ True ∧ True ∧ True ∧ True ∧ True ∧ True ∧ (false = false ∧ True) ∧ D.val (Value.bool (kexE key == (1 : Int))) = F) := by kernel_rfl
theorem wsT_congr {w v : List Int} {R : Nat} (h : ∀ m, m < 16 * (R + 1) → w.getD m 0 = v.getD m 0) (n : Nat) (X : List Int) (t : Nat) : wsT w R n X t = wsT v R n X t := by
 unfold wsT
 rw [enL_congr h]
theorem usT_congr {w v : List Int} {R : Nat} (h : ∀ m, m < 16 * (R + 1) → w.getD m 0 = v.getD m 0) (n : Nat) (X : List Int) (t : Nat) : usT w R n X t = usT v R n X t := by
 unfold usT
 rw [deL_congr h]
theorem wpL_congr {w v : List Int} {R : Nat} (h : ∀ m, m < 16 * (R + 1) → w.getD m 0 = v.getD m 0) (n : Nat) (X : List Int) : ∀ k, wpL w R n X k = wpL v R n X k
 | 0 => rfl
 | k + 1 => by rw [wpL, wpL, wpL_congr h n X k, wsT_congr h]
theorem uwL_congr {w v : List Int} {R : Nat} (h : ∀ m, m < 16 * (R + 1) → w.getD m 0 = v.getD m 0) (n : Nat) (X : List Int) : ∀ k, uwL w R n X k = uwL v R n X k
 | 0 => rfl
 | k + 1 => by rw [uwL, uwL, uwL_congr h n X k, usT_congr h]
theorem wr_congr {w v : List Int} {R : Nat} (h : ∀ m, m < 16 * (R + 1) → w.getD m 0 = v.getD m 0) (p : List Int) : wrL w R p = wrL v R p := by
 have e : wE w R p = wE v R p := wpL_congr h _ _ _
 unfold wrL; rw [e]
theorem un_congr {w v : List Int} {R : Nat} (h : ∀ m, m < 16 * (R + 1) → w.getD m 0 = v.getD m 0) (p : List Int) : unL w R p = unL v R p ∧ unE w R p = unE v R p := by
 have e : uE w R p = uE v R p := uwL_congr h _ _ _
 constructor
 ·unfold unL; rw [e]
 ·unfold unE; rw [e]
theorem wrL_ok {w p : List Int} (hw : isB 240 w) (hp : okb p) (R : Nat) : okb (wrL w R p) := by
 unfold wrL
 split
 ·rename_i h
  have h8 := h.2.2
  have h6 := h.2.1
  refine (wpL_ok hw.1 R (n := wN p) ?_ (w0_ok hp h.1) _ ?_).1
  ·unfold wN; omega
  ·unfold wN; omega
 ·exact fun x hx => by cases hx
theorem unL_ok {w p : List Int} (hw : isB 240 w) (hp : okb p) (R : Nat) : okb (unL w R p) := by
 unfold unL
 split
 ·rename_i h
  have h8 := h.1.2.2
  have h6 := h.1.2.1
  refine okb_drop (uwL_ok hw.1 R (n := uN p) ?_ ?_ (u0_ok hp h.1.1 (by omega)) _).1 _
  ·unfold uN; omega
  ·unfold uN; omega
 ·exact fun x hx => by cases hx
theorem args7 {ds : List D} (h : (lawSpec tab Try.f7.params.toList).pre ds) : ∃ key p s, ds = [.ints .u8 key, .ints .u8 p, .ints .u8 s] ∧ (okb key ∧ key.length ≤ 140737488351232) ∧ okb p ∧ lenP p ∧ okb s ∧ lenP s := by
 have h : OkAll tab 8 [25, 25, 25] ds := h
 match ds, h with
 | [x, z, w], h =>
  have h1 := h.1
  have h3 := h.2.1
  have h4 := h.2.2.1
  rw [ok25] at h1 h3 h4
  obtain ⟨key, rfl, a1, _, a3⟩ := h1
  obtain ⟨p, rfl, c1, _, c3⟩ := h3
  obtain ⟨s, rfl, d1, _, d3⟩ := h4
  have e : IntKind.u8.max = 255 := rfl
  exact ⟨key, p, s, rfl, ⟨fun x hx => by have := a1 x hx; omega, by omega⟩, fun x hx => by have := c1 x hx; omega, by unfold lenP; omega, fun x hx => by have := d1 x hx; omega, by unfold lenP; omega⟩
 | _ :: _ :: _ :: _ :: _, h => cases h.2.2.2
 | [_, _], h => cases h.2.2
 | [_], h => cases h.2
def pre7 : List D → Prop := fun ds => ∃ key p s, ds = [.ints .u8 key, .ints .u8 p, .ints .u8 s] ∧ (okb key ∧ key.length ≤ 140737488351232) ∧ (okb p ∧ lenP p ∧ okb s ∧ lenP s) ∧ okN key
def pre7b : List D → Prop := fun ds => ∃ key p s, ds = [.ints .u8 key, .ints .u8 p, .ints .u8 s] ∧ (okb key ∧ key.length ≤ 140737488351232) ∧ (okb p ∧ lenP p ∧ okb s ∧ lenP s) ∧ ¬ okN key
set_option maxRecDepth 100000 in
theorem m7b : Meets Try.prog 7 ⟨pre7b, (lawSpec tab Try.f7.params.toList).f, (lawSpec tab Try.f7.params.toList).flat, (lawSpec tab Try.f7.params.toList).ps⟩ := by
 refine meets_of_owed (C := c7b) ⟨tab_ok, lkS_ok ⟨m19, m20b, m33, m34, m35, m36, trivial⟩⟩ (by kernel_rfl) (by kernel_rfl : Try.prog.funcs[7]? = some Try.f7) (by kernel_rfl) (by kernel_rfl) (by kernel_rfl) _ ?_
 rintro _ ⟨key, p, s, rfl, ⟨hk, hl⟩, hh, hN⟩
 refine ⟨fun _ => rfl, fun _ => none, ?_⟩
 show owed c7b (fun _ => none) Try.f7 [.ints .u8 key, .ints .u8 p, .ints .u8 s] (.val (.bool true))
 rw [vc7b]
 have e : kexE key = 1 := by unfold kexE; rw [if_neg hN]
 rw [e]
 and_intros <;> first | exact True.intro | exact ⟨_, rfl, hk, hl⟩ | exact ⟨_, rfl, hk, hN, hl⟩ | exact hk | rfl | decide
set_option maxRecDepth 100000 in
theorem m7a : Meets Try.prog 7 ⟨pre7, (lawSpec tab Try.f7.params.toList).f, (lawSpec tab Try.f7.params.toList).flat, (lawSpec tab Try.f7.params.toList).ps⟩ := by
 refine meets_of_owed (C := c7) ⟨tab_ok, lkS_ok ⟨m19, m20, m33, m34, m35, m36, trivial⟩⟩ (by kernel_rfl) (by kernel_rfl : Try.prog.funcs[7]? = some Try.f7) (by kernel_rfl) (by kernel_rfl) (by kernel_rfl) _ ?_
 rintro _ ⟨key, p, s, rfl, ⟨hk, hl⟩, ⟨hp, hlp, hs, hls⟩, hN⟩
 refine ⟨fun _ => rfl, fun _ => none, ?_⟩
 show owed c7 (fun _ => none) Try.f7 [.ints .u8 key, .ints .u8 p, .ints .u8 s] (.val (.bool true))
 rw [vc7]
 have hn48 : key.length / 4 = 4 ∨ key.length / 4 = 6 ∨ key.length / 4 = 8 := by unfold okN at hN; omega
 have eR : kexR key = ((key.length / 4 + 6 : Nat) : Int) := by unfold kexR; rw [if_pos hN]
 have eW : kexW key = fwL (key.length / 4) key := by unfold kexW; rw [if_pos hN]
 rw [eR, eW]
 generalize key.length / 4 = n at hn48 ⊢
 have hfw := fw_ok hk n
 generalize fwL n key = fw at hfw ⊢
 have hW := okW_ch hfw (c := 4 * (n + 7)) (by omega)
 have hx := okX_box
 have hc : ∀ m, m < 16 * (n + 6 + 1) → (flW (chunks .u8 4 (4 * (n + 7)) fw)).getD m 0 = fw.getD m 0 := fun m hm => flW_ch hfw (by omega) (by omega)
 have e1 := wr_congr hc p
 obtain ⟨e2, e3⟩ := un_congr hc s
 have er : 4 * (n + 7) / 4 - 1 = n + 6 := by omega
 have hs1 : isBytes (wrL fw (n + 6) p) := wrL_ok hfw hp _
 have hs2 : isBytes (unL fw (n + 6) s) := unL_ok hfw hs _
 simp only [Int.toNat_natCast, ch_len, er, e1, e2, e3, eqB_refl, beq_self_eq_true]
 have hWl : (chunks .u8 4 (4 * (n + 7)) fw).length = 4 * (n + 7) := ch_len _ _ _ _
 and_intros <;> first | exact True.intro | exact ⟨_, rfl, hk, hl⟩ | exact ⟨_, rfl, hk, hN⟩ | exact hk | exact hp | exact hs | exact hs1 | exact hs2 | exact ⟨fw, n + 6, p, rfl, hfw, by omega, hp, hlp⟩ | exact ⟨fw, n + 6, s, rfl, hfw, by omega, hs, hls⟩ | exact ⟨_, _, _, p, rfl, hW, by omega, by omega, hx, hp, hlp⟩ | exact ⟨_, _, _, s, rfl, hW, by omega, by omega, hx, hs, hls⟩ | rfl | decide
theorem m7 : Meets Try.prog 7 (lawSpec tab Try.f7.params.toList) := by
 refine meets_or pre7 pre7b m7a m7b ?_
 intro ds hds
 obtain ⟨key, p, s, rfl, h1, h2⟩ := args7 hds
 by_cases hN : okN key
 ·exact .inl ⟨key, p, s, rfl, h1, h2, hN⟩
 ·exact .inr ⟨key, p, s, rfl, h1, h2, hN⟩
end Go.Proofs.Ytnadggcfdakpoaa
