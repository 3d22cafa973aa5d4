import Derived.Test.YtcdjhhepgkcabaaDoorHe2
/- package hash: Resume, Sum of a text, and the reference's: the proofs. -/
namespace Go.Proofs.YtcdjhhepgkcabaaDoor
open Go Go.Vg

theorem w4_sum {a b c d : Nat} (ha : a < 256) (hb : b < 256) (hc : c < 256) (hd : d < 256) :
    IntKind.u32.wrap (IntKind.u32.wrap (IntKind.u32.wrap (IntKind.u32.wrap (IntKind.u32.wrap (a : Int) * 16777216) + IntKind.u32.wrap (IntKind.u32.wrap (b : Int) * 65536)) + IntKind.u32.wrap (IntKind.u32.wrap (c : Int) * 256)) + IntKind.u32.wrap (d : Int)) = ((w4 a b c d).toNat : Int) := by
  unfold w4
  simp only [Int.toNat_natCast]
  rw [ofW _ (by omega)]
  simp only [w32]
  omega
theorem wl8 (l : List Int) : (woL l).l = wl l 8 := rfl

set_option maxRecDepth 100000 in
theorem m16 : Meets Tryd.prog 16 sp16 := by
  refine meets_of_owed (C := c16) ⟨tab_ok, fun f s h => by cases h⟩ (by kernel_rfl) (by kernel_rfl : Tryd.prog.funcs[16]? = some Tryd.f16) (by kernel_rfl) (by kernel_rfl) (by kernel_rfl) _ ?_
  rintro _ ⟨l, rfl, hb, hl⟩
  refine ⟨(fun h => by cases h), inv16 l, ?_⟩
  show owed c16 (inv16 l) Tryd.f16 [d32 l] (.ints .u32 (woL l).l)
  rw [vc16]
  have hw0 : wl l (0 / 4) = [] := rfl
  simp (decide := true) only [eq_self, true_and, and_true, ne_eq, not_false_eq_true, hw0]
  refine ⟨by and_intros <;> first | rfl | trivial | omega, fun i hi => ?_⟩
  split
  · rename_i h
    have h : i < 8 := by have := of_decide_eq_true h; omega
    obtain ⟨a, ea, ha⟩ := byte_at hb (i := 4 * i) (by omega)
    obtain ⟨b, eb, hbb⟩ := byte_at hb (i := 4 * i + 1) (by omega)
    obtain ⟨c, ec, hc⟩ := byte_at hb (i := 4 * i + 2) (by omega)
    obtain ⟨d, ed, hd⟩ := byte_at hb (i := 4 * i + 3) (by omega)
    have e1 : IntKind.i64.wrap (((4 * i : Nat) : Int) + 1) = ((4 * i + 1 : Nat) : Int) := by rw [wi (by omega) (by omega)]; omega
    have e2 : IntKind.i64.wrap (((4 * i : Nat) : Int) + 2) = ((4 * i + 2 : Nat) : Int) := by rw [wi (by omega) (by omega)]; omega
    have e3 : IntKind.i64.wrap (((4 * i : Nat) : Int) + 3) = ((4 * i + 3 : Nat) : Int) := by rw [wi (by omega) (by omega)]; omega
    have e4 : IntKind.i64.wrap (((4 * i : Nat) : Int) + 4) = ((4 * i + 4 : Nat) : Int) := by rw [wi (by omega) (by omega)]; omega
    have ew : w4 (a : Int) b c d = wn l i := by
      rw [wn_lo l (by omega)]
      unfold wat
      rw [ea, eb, ec, ed]
    simp only [e1, e2, e3, e4, Int.toNat_natCast, ea, eb, ec, ed, w4_sum ha hbb hc hd, ew, ← wl_succ, wl_len, show (4 * i + 4) / 4 = i + 1 by omega]
    and_intros <;> first | rfl | trivial | omega
  · rename_i h
    obtain rfl : i = 8 := by have := of_decide_eq_false h; omega
    rfl

theorem wo_gen (a b : R8) {i : Nat} (h : i < 8) : (a.l.take i ++ b.l.drop i).set i (a.l.getD i 0) = a.l.take (i + 1) ++ b.l.drop (i + 1) := by
  rcases (by omega : i = 0 ∨ i = 1 ∨ i = 2 ∨ i = 3 ∨ i = 4 ∨ i = 5 ∨ i = 6 ∨ i = 7) with rfl | rfl | rfl | rfl | rfl | rfl | rfl | rfl <;> rfl
theorem wo_get (l : List Int) {i : Nat} (h : i < 8) : (woL l).l.getD i 0 = ((wat l (4 * i)).toNat : Int) := by
  rw [← wn_lo l (by omega)]
  rcases (by omega : i = 0 ∨ i = 1 ∨ i = 2 ∨ i = 3 ∨ i = 4 ∨ i = 5 ∨ i = 6 ∨ i = 7) with rfl | rfl | rfl | rfl | rfl | rfl | rfl | rfl <;> rfl

set_option maxRecDepth 100000 in
theorem m14 : Meets Tryd.prog 14 sp14 := by
  refine meets_of_owed (C := c14) ⟨tab_ok, lkS_ok ⟨m7, m28, trivial⟩⟩ (by kernel_rfl) (by kernel_rfl : Tryd.prog.funcs[14]? = some Tryd.f14) (by kernel_rfl) (by kernel_rfl) (by kernel_rfl) _ ?_
  rintro _ ⟨l, n, rfl, ⟨hb, hl⟩, hn⟩
  refine ⟨fun _ => rfl, inv14 l n, ?_⟩
  show owed c14 (inv14 l n) Tryd.f14 [d32 l, u64 (n : Int)] (.tup [stD (rsS l ((n : Int)).toNat), .val (.int .i64 (rsE ((n : Int)).toNat))])
  rw [vc14, Int.toNat_natCast]
  have em : ((n : Nat) : Int).tmod 64 = ((n % 64 : Nat) : Int) := tmodN _ 64
  rw [em]
  unfold rsS rsE
  simp (decide := true) only [eq_self, true_and, and_true, ne_eq, not_false_eq_true, Int.toNat_natCast]
  split
  · rename_i h
    have h : n % 64 ≠ 0 := by
      intro h3
      rw [h3] at h
      cases h
    rw [if_neg h, if_neg h]
  · rename_i h
    have h : n % 64 = 0 := by
      have h3 := bne_eq_false_iff_eq.1 h
      omega
    rw [if_pos h, if_pos h]
    refine ⟨by and_intros <;> first | rfl | trivial | omega, fun i hi => ?_⟩
    split
    · rename_i h
      have h : i < 8 := by have := of_decide_eq_true h; omega
      have ew : IntKind.i64.wrap ((i : Int) + 1) = ((i + 1 : Nat) : Int) := by rw [wi (by omega) (by omega)]; omega
      have e4 : IntKind.i64.wrap (4 * (i : Int)) = ((4 * i : Nat) : Int) := by rw [wi (by omega) (by omega)]; omega
      have g := wo_gen (woL l) iv h
      rw [wo_get l h] at g
      change (woI l i).set i _ = woI l (i + 1) at g
      simp only [ew, e4, Int.toNat_natCast, List.drop_zero, Nat.sub_zero, show Int.toNat 32 = 32 from rfl, show Int.toNat 0 = 0 from rfl, List.take_of_length_le (Nat.le_of_eq hl), g]
      refine ⟨⟨l, _, rfl, hb, by omega, by omega⟩, ?_⟩
      and_intros <;> first | rfl | omega | trivial
    · rename_i h
      obtain rfl : i = 8 := by have := of_decide_eq_false h; omega
      rfl

set_option maxRecDepth 100000 in
theorem m9 : Meets Tryd.prog 9 sp9 := by
  refine meets_of_owed (C := c9) ⟨tab_ok, lkS_ok ⟨m7, m8, m13, trivial⟩⟩ (by kernel_rfl) (by kernel_rfl : Tryd.prog.funcs[9]? = some Tryd.f9) (by kernel_rfl) (by kernel_rfl) (by kernel_rfl) _ ?_
  rintro _ ⟨p, rfl, hb, hl⟩
  refine ⟨fun _ => rfl, fun _ => none, ?_⟩
  show owed c9 (fun _ => none) Tryd.f9 [.ints .u8 p] (d32 (digL p))
  have e : ∀ s : HS, ofS (D.st [D.arr .u32 8 s.h.l, D.val (.int .u64 (s.n : Int)), D.arr .u8 64 s.l]) = s := ofS_eq
  rw [vc9]
  simp (decide := true) only [e, eq_self, true_and, and_true, ne_eq, not_false_eq_true, Int.toNat_natCast, sum_st0]
  exact ⟨⟨st0, p, rfl, st0_ok, hb, hl⟩, ⟨_, rfl, wr_ok p st0_ok hb⟩⟩

set_option maxRecDepth 100000 in
theorem m10 : Meets Tryd.prog 10 sp10 := by
  refine meets_of_owed (C := c10) ⟨tab_ok, lkS_ok ⟨m27, m15, trivial⟩⟩ (by kernel_rfl) (by kernel_rfl : Tryd.prog.funcs[10]? = some Tryd.f10) (by kernel_rfl) (by kernel_rfl) (by kernel_rfl) _ ?_
  rintro _ ⟨p, rfl, hb, hl⟩
  refine ⟨fun _ => rfl, fun _ => none, ?_⟩
  show owed c10 (fun _ => none) Tryd.f10 [.str p] (d32 (digL p))
  rw [vc10, ofR_l]
  simp (decide := true) only [eq_self, true_and, and_true, ne_eq, not_false_eq_true, Int.toNat_natCast]
  exact ⟨⟨iv, 0, p, rfl, hb, hl, rfl, by decide⟩, rfl⟩

end Go.Proofs.YtcdjhhepgkcabaaDoor
