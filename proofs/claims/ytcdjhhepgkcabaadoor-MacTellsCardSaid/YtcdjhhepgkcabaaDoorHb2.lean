import Derived.Test.YtcdjhhepgkcabaaDoorHb
/- package hash: press: the proof. -/
namespace Go.Proofs.YtcdjhhepgkcabaaDoor
open Go Go.Vg

theorem wsR_len (l : List Int) : ∀ t, (wsR l t).length = t
  | 0 => rfl
  | t + 1 => by rw [wsR, List.length_cons, wsR_len l t]
theorem wsR_get (l : List Int) : ∀ t i, i < t → (wsR l t).getD i 0 = wn l (t - 1 - i)
  | 0, _, h => by omega
  | t + 1, 0, _ => rfl
  | t + 1, i + 1, h => by
    rw [wsR, List.getD_cons_succ, wsR_get l t i (by omega)]
    congr 1
    omega
theorem wn_lo (l : List Int) {t : Nat} (h : t < 16) : wn l t = wat l (4 * t) := by
  unfold wn
  rw [wsR, List.getD_cons_zero, if_pos h]
theorem wn_hi (l : List Int) {t : Nat} (h : 16 ≤ t) : wn l t = ((wn l (t - 16) + sA (wn l (t - 15))) + wn l (t - 7)) + sB (wn l (t - 2)) := by
  have e : wn l t = (wsR l (t + 1)).getD 0 0 := rfl
  rw [e, wsR, List.getD_cons_zero, if_neg (by omega), wsR_get l t 15 (by omega), wsR_get l t 14 (by omega), wsR_get l t 6 (by omega), wsR_get l t 1 (by omega)]
  rw [show t - 1 - 15 = t - 16 by omega, show t - 1 - 14 = t - 15 by omega, show t - 1 - 6 = t - 7 by omega, show t - 1 - 1 = t - 2 by omega]
theorem wl_len (l : List Int) (n : Nat) : (wl l n).length = n := by unfold wl; simp
theorem wl_get (l : List Int) {n j : Nat} (h : j < n) (r : List Int) : (wl l n ++ r).getD j 0 = ((wn l j).toNat : Int) := by
  rw [List.getD_eq_getElem?_getD, List.getElem?_append_left (by rw [wl_len]; exact h)]
  unfold wl
  simp [h]
theorem wl_succ (l : List Int) (n : Nat) : wl l (n + 1) = wl l n ++ [((wn l n).toNat : Int)] := by
  unfold wl
  rw [List.range_succ, List.map_append]
  rfl
theorem wl_set (l : List Int) {n : Nat} (h : n < 64) : (wl l n ++ List.replicate (64 - n) 0).set n ((wn l n).toNat : Int) = wl l (n + 1) ++ List.replicate (64 - (n + 1)) 0 := by
  have e : 64 - n = (64 - (n + 1)) + 1 := by omega
  rw [wl_succ, e, List.replicate_succ, List.set_append_right _ _ (by rw [wl_len]; omega), wl_len, Nat.sub_self, List.set_cons_zero, List.append_assoc]
  rfl
theorem gl_ok : (gl0.all fun n => decide (0 ≤ n) && decide (n < 4294967296)) = true ∧ gl0.length = 64 ∧ gl1 = gl0 := ⟨by decide +kernel, rfl, rfl⟩
theorem kW_eq {t : Nat} (h : t < 64) : gl0.getD t 0 = ((kW t).toNat : Int) := by
  have hl := gl_ok.2.1
  have hm : gl0.getD t 0 ∈ gl0 := by
    rw [List.getD_eq_getElem?_getD, List.getElem?_eq_getElem (by omega)]
    exact List.getElem_mem _
  have := List.all_eq_true.1 gl_ok.1 _ hm
  simp only [Bool.and_eq_true, decide_eq_true_eq] at this
  unfold kW
  generalize gl0.getD t 0 = z at *
  obtain ⟨n, rfl⟩ := Int.eq_ofNat_of_zero_le this.1
  rw [BitVec.ofInt_natCast, ofW _ (by omega)]
theorem shr3 (x : W) : ishr .u32 (x.toNat : Int) 3 = ((x >>> 3).toNat : Int) := shrW x (n := 3) (by decide)
theorem shr10 (x : W) : ishr .u32 (x.toNat : Int) 10 = ((x >>> 10).toNat : Int) := shrW x (n := 10) (by decide)
theorem notW' (x : W) : ixor .u32 IntKind.u32.max (x.toNat : Int) = ((~~~x).toNat : Int) := notW x
theorem mix_len (x : R8) (l : List Int) (i : Nat) : (mixL x l 0) = x.l := rfl
theorem mix_gen (x v : R8) {i : Nat} (h : i < 8) : ((add8 x v).l.take i ++ x.l.drop i).set i (IntKind.u32.wrap (((add8 x v).l.take i ++ x.l.drop i).getD i 0 + v.l.getD i 0)) = (add8 x v).l.take (i + 1) ++ x.l.drop (i + 1) := by
  rcases (by omega : i = 0 ∨ i = 1 ∨ i = 2 ∨ i = 3 ∨ i = 4 ∨ i = 5 ∨ i = 6 ∨ i = 7) with rfl | rfl | rfl | rfl | rfl | rfl | rfl | rfl <;>
    simp [R8.l, add8, addW]
theorem mix_step (x : R8) (l : List Int) {i : Nat} (h : i < 8) : (mixL x l i).set i (IntKind.u32.wrap ((mixL x l i).getD i 0 + (rd x l 64).l.getD i 0)) = mixL x l (i + 1) := by
  unfold mixL pr
  exact mix_gen _ _ h
theorem ofR_l (x : R8) : ofR x.l = x := by
  have h : ∀ y : W, BitVec.ofInt 32 (y.toNat : Int) = y := toW_wd
  show R8.mk (BitVec.ofInt 32 (x.a.toNat : Int)) (BitVec.ofInt 32 (x.b.toNat : Int)) (BitVec.ofInt 32 (x.c.toNat : Int)) (BitVec.ofInt 32 (x.d.toNat : Int)) (BitVec.ofInt 32 (x.e.toNat : Int)) (BitVec.ofInt 32 (x.f.toNat : Int)) (BitVec.ofInt 32 (x.g.toNat : Int)) (BitVec.ofInt 32 (x.h.toNat : Int)) = x
  simp only [h]

theorem fA (x : W) : (rr x 7 ^^^ rr x 18) ^^^ x >>> 3 = sA x := rfl
theorem fB (x : W) : (rr x 17 ^^^ rr x 19) ^^^ x >>> 10 = sB x := rfl
theorem fC (x : W) : (rr x 6 ^^^ rr x 11) ^^^ rr x 25 = sC x := rfl
theorem fD (x : W) : (rr x 2 ^^^ rr x 13) ^^^ rr x 22 = sD x := rfl
theorem fch (x y z : W) : (x &&& y) ^^^ (~~~x &&& z) = chW x y z := rfl
theorem fmj (x y z : W) : ((x &&& y) ^^^ (x &&& z)) ^^^ (y &&& z) = mjW x y z := rfl
theorem rd_succ (x : R8) (l : List Int) (t : Nat) : rd x l (t + 1) = rdS (rd x l t) (kW t) (wn l t) := rfl

set_option maxRecDepth 100000 in
theorem m26 : Meets Tryd.prog 26 sp26 := by
  refine meets_of_owed (C := c26) ⟨tab_ok, lkS_ok ⟨m28, m34, trivial⟩⟩ (by kernel_rfl) (by kernel_rfl : Tryd.prog.funcs[26]? = some Tryd.f26) (by kernel_rfl) (by kernel_rfl) (by kernel_rfl) _ ?_
  rintro _ ⟨x, l, rfl, hb, hl⟩
  refine ⟨fun _ => rfl, inv26 x l, ?_⟩
  show owed c26 (inv26 x l) Tryd.f26 [a8 x.l, .arr .u8 64 l] (a8 (prL x.l l))
  unfold prL
  rw [vc26, ofR_l]
  have hw0 : wl l 0 = [] := rfl
  have hm0 : mixL x l 0 = x.l := rfl
  have hr0 : rd x l 0 = x := rfl
  have hxl : [((x.a.toNat : Nat) : Int), ((x.b.toNat : Nat) : Int), ((x.c.toNat : Nat) : Int), ((x.d.toNat : Nat) : Int), ((x.e.toNat : Nat) : Int), ((x.f.toNat : Nat) : Int), ((x.g.toNat : Nat) : Int), ((x.h.toNat : Nat) : Int)] = x.l := rfl
  simp (decide := true) only [eq_self, true_and, and_true, ne_eq, not_false_eq_true, Int.toNat_natCast, hw0, List.nil_append, Int.toNat_zero, hm0, hr0, hxl]
  refine ⟨rfl, fun t ht => ?_⟩
  split
  · rename_i h
    have h : t < 64 := by have := of_decide_eq_true h; omega
    have ew : IntKind.i64.wrap ((t : Int) + 1) = ((t + 1 : Nat) : Int) := by rw [wi (by omega) (by omega)]; omega
    split
    · rename_i h2
      have h2 : t < 16 := by have := of_decide_eq_true h2; omega
      have e4 : IntKind.i64.wrap (4 * (t : Int)) = ((4 * t : Nat) : Int) := by rw [wi (by omega) (by omega)]; omega
      rw [e4, ew, Int.toNat_natCast, Int.toNat_natCast]
      simp only [List.drop_zero, Nat.sub_zero, List.take_of_length_le (Nat.le_of_eq hl), ← wn_lo l h2, wl_set l h]
      refine ⟨⟨l, 4 * t, rfl, hb, by omega, by omega⟩, ?_⟩
      and_intros <;> first | exact trivial | rfl | omega
    · rename_i h2
      have h2 : 16 ≤ t := by have := of_decide_eq_false h2; omega
      have e15 : IntKind.i64.wrap ((t : Int) - 15) = ((t - 15 : Nat) : Int) := by rw [wi (by omega) (by omega)]; omega
      have e16 : IntKind.i64.wrap ((t : Int) - 16) = ((t - 16 : Nat) : Int) := by rw [wi (by omega) (by omega)]; omega
      have e7 : IntKind.i64.wrap ((t : Int) - 7) = ((t - 7 : Nat) : Int) := by rw [wi (by omega) (by omega)]; omega
      have e2 : IntKind.i64.wrap ((t : Int) - 2) = ((t - 2 : Nat) : Int) := by rw [wi (by omega) (by omega)]; omega
      have g15 := wl_get l (n := t) (j := t - 15) (by omega) (List.replicate (64 - t) 0)
      have g16 := wl_get l (n := t) (j := t - 16) (by omega) (List.replicate (64 - t) 0)
      have g7 := wl_get l (n := t) (j := t - 7) (by omega) (List.replicate (64 - t) 0)
      have g2 := wl_get l (n := t) (j := t - 2) (by omega) (List.replicate (64 - t) 0)
      simp only [e15, e16, e7, e2, ew, Int.toNat_natCast, g15, g16, g7, g2, toW_wd, xorW, shr3, shr10, addW, fA, fB, ← wn_hi l h2, wl_set l h]
      and_intros <;> first | exact trivial | rfl | omega | exact ⟨_, 7, rfl, by decide, by decide⟩ | exact ⟨_, 18, rfl, by decide, by decide⟩ | exact ⟨_, 17, rfl, by decide, by decide⟩ | exact ⟨_, 19, rfl, by decide, by decide⟩
  · rename_i h
    obtain rfl : t = 64 := by have := of_decide_eq_false h; omega
    refine ⟨rfl, fun t ht => ?_⟩
    split
    · rename_i h
      have h : t < 64 := by have := of_decide_eq_true h; omega
      have ew : IntKind.i64.wrap ((t : Int) + 1) = ((t + 1 : Nat) : Int) := by rw [wi (by omega) (by omega)]; omega
      have gt := wl_get l (n := 64) (j := t) h (List.replicate (64 - 64) 0)
      simp only [ew, Int.toNat_natCast, gt, kW_eq h, toW_wd, xorW, andW, notW', addW, fC, fD, fch, fmj, rd_succ]
      and_intros <;> first | exact trivial | rfl | omega | exact ⟨_, 6, rfl, by decide, by decide⟩ | exact ⟨_, 11, rfl, by decide, by decide⟩ | exact ⟨_, 25, rfl, by decide, by decide⟩ | exact ⟨_, 2, rfl, by decide, by decide⟩ | exact ⟨_, 13, rfl, by decide, by decide⟩ | exact ⟨_, 22, rfl, by decide, by decide⟩
    · rename_i h
      obtain rfl : t = 64 := by have := of_decide_eq_false h; omega
      refine ⟨rfl, fun t ht => ?_⟩
      split
      · rename_i h
        have h : t < 8 := by have := of_decide_eq_true h; omega
        have ew : IntKind.i64.wrap ((t : Int) + 1) = ((t + 1 : Nat) : Int) := by rw [wi (by omega) (by omega)]; omega
        have hs := mix_step x l h
        simp only [R8.l] at hs
        simp only [ew, Int.toNat_natCast, hs]
        and_intros <;> first | exact trivial | rfl | omega
      · rename_i h
        obtain rfl : t = 8 := by have := of_decide_eq_false h; omega
        rfl

end Go.Proofs.YtcdjhhepgkcabaaDoor
