import Derived.Test.YtcdjhhepgkcabaaDoorHc
/- the reference's block: the proof. -/
namespace Go.Proofs.YtcdjhhepgkcabaaDoor
open Go Go.Vg

theorem mulW (x : W) : IntKind.u32.wrap ((x.toNat : Int) * 256) = ((x * 256).toNat : Int) := by
  rw [w32, BitVec.toNat_mul]
  have : (256 : W).toNat = 256 := rfl
  rw [this]
  omega
theorem bytW {l : List Int} (h : isBytes l) {i : Nat} (hi : i < l.length) : IntKind.u32.wrap (l.getD i 0) = ((BitVec.ofNat 32 (l.getD i 0).toNat).toNat : Int) := by
  obtain ⟨b, e, hb⟩ := byte_at h hi
  rw [e, Int.toNat_natCast, wN32, BitVec.toNat_ofNat]
theorem pw_wat {l : List Int} (h : isBytes l) {i : Nat} (hi : i + 3 < l.length) : pw l i 4 = wat l i := by
  obtain ⟨a, ea, ha⟩ := byte_at h (i := i) (by omega)
  obtain ⟨b, eb, hb⟩ := byte_at h (i := i + 1) (by omega)
  obtain ⟨c, ec, hc⟩ := byte_at h (i := i + 2) (by omega)
  obtain ⟨d, ed, hd⟩ := byte_at h (i := i + 3) (by omega)
  unfold wat
  simp only [pw, Nat.add_zero]
  rw [ea, eb, ec, ed]
  unfold w4
  simp only [Int.toNat_natCast]
  apply BitVec.eq_of_toNat_eq
  have h256 : (256 : W).toNat = 256 := rfl
  simp only [BitVec.toNat_add, BitVec.toNat_mul, BitVec.toNat_ofNat, h256]
  simp only [show (2 : Nat) ^ 32 = 4294967296 from rfl]
  omega
theorem quoW (x : W) (k : Nat) (hk : k ≤ 32) : IntKind.u32.wrap (((x.toNat : Nat) : Int).tdiv ((2 ^ k : Nat) : Int)) = ((x >>> k).toNat : Int) := by
  have hx := x.isLt
  have : x.toNat / 2 ^ k < 4294967296 := Nat.lt_of_le_of_lt (Nat.div_le_self _ _) hx
  rw [tdivN, wrapN .u32 (show _ < 4294967296 from this), BitVec.toNat_ushiftRight, Nat.shiftRight_eq_div_pow]
theorem quo8 (x : W) : IntKind.u32.wrap (((x.toNat : Nat) : Int).tdiv 8) = ((x >>> 3).toNat : Int) := quoW x 3 (by decide)
theorem quo1024 (x : W) : IntKind.u32.wrap (((x.toNat : Nat) : Int).tdiv 1024) = ((x >>> 10).toNat : Int) := quoW x 10 (by decide)
theorem sched (a b c d : W) : ((a + b) + c) + d = ((a + c) + b) + d := by
  rw [BitVec.add_assoc a b c, BitVec.add_comm b c, ← BitVec.add_assoc]
theorem wl_get' (l : List Int) {n j : Nat} (h : j < n) : (wl l n).getD j 0 = ((wn l j).toNat : Int) := by
  have := wl_get l h []
  rwa [List.append_nil] at this

set_option maxRecDepth 100000 in
theorem m29 : Meets Tryd.prog 29 sp29 := by
  refine meets_of_owed (C := c29) ⟨tab_ok, lkS_ok ⟨m35, m36, m37, trivial⟩⟩ (by kernel_rfl) (by kernel_rfl : Tryd.prog.funcs[29]? = some Tryd.f29) (by kernel_rfl) (by kernel_rfl) (by kernel_rfl) _ ?_
  rintro _ ⟨x, l, rfl, hb, hl⟩
  refine ⟨(fun h => by cases h), inv29 x l, ?_⟩
  show owed c29 (inv29 x l) Tryd.f29 [.ints .u32 x.l, .str l] (.ints .u32 (prL x.l l))
  unfold prL
  rw [vc29, ofR_l]
  have hw0 : wl l (0 / 4) = [] := rfl
  have hp0 : ∀ i, pw l i 0 = 0 := fun _ => rfl
  have hz : ((BitVec.toNat (0 : W) : Nat) : Int) = 0 := rfl
  have hr0 : rd x l 0 = x := rfl
  simp (decide := true) only [eq_self, true_and, and_true, ne_eq, not_false_eq_true, Int.toNat_natCast, hw0, hp0, hz, Int.toNat_zero, hr0]
  refine ⟨by and_intros <;> first | rfl | omega | decide | trivial, fun i hi => ?_⟩
  split
  · rename_i h
    have h : i < 16 := by have := of_decide_eq_true h; omega
    refine ⟨by and_intros <;> first | rfl | omega | decide | trivial, ?_⟩
    rintro ⟨k, at_⟩ ⟨hk, hat⟩
    simp only at hk hat ⊢
    obtain rfl : at_ = 4 * i := by omega
    split
    · rename_i h2
      have h2 : k < 4 := by have := of_decide_eq_true h2; omega
      have e1 : IntKind.i64.wrap (((4 * i : Nat) : Int) + (k : Int)) = ((4 * i + k : Nat) : Int) := by rw [wi (by omega) (by omega)]; omega
      have e2 : IntKind.i64.wrap ((k : Int) + 1) = ((k + 1 : Nat) : Int) := by rw [wi (by omega) (by omega)]; omega
      simp only [e1, e2, Int.toNat_natCast, mulW, bytW hb (i := 4 * i + k) (by omega), addW]
      and_intros <;> first | rfl | omega | trivial
    · rename_i h2
      obtain rfl : k = 4 := by have := of_decide_eq_false h2; omega
      have e4 : IntKind.i64.wrap (((4 * i : Nat) : Int) + 4) = ((4 * i + 4 : Nat) : Int) := by rw [wi (by omega) (by omega)]; omega
      rw [e4, Int.toNat_natCast, show (4 * i + 4) / 4 = i + 1 by omega, pw_wat hb (by omega), ← wn_lo l h, ← wl_succ, wl_len]
      and_intros <;> first | rfl | omega | trivial
  · rename_i h
    obtain rfl : i = 16 := by have := of_decide_eq_false h; omega
    simp only [wl_len]
    refine ⟨by and_intros <;> first | rfl | omega | decide | trivial, ?_⟩
    rintro n ⟨hn, hn2⟩
    split
    · rename_i h
      have h : n < 64 := by have := of_decide_eq_true h; omega
      have e15 : IntKind.i64.wrap ((n : Int) - 15) = ((n - 15 : Nat) : Int) := by rw [wi (by omega) (by omega)]; omega
      have e16 : IntKind.i64.wrap ((n : Int) - 16) = ((n - 16 : Nat) : Int) := by rw [wi (by omega) (by omega)]; omega
      have e7 : IntKind.i64.wrap ((n : Int) - 7) = ((n - 7 : Nat) : Int) := by rw [wi (by omega) (by omega)]; omega
      have e2 : IntKind.i64.wrap ((n : Int) - 2) = ((n - 2 : Nat) : Int) := by rw [wi (by omega) (by omega)]; omega
      have g15 := wl_get' l (n := n) (j := n - 15) (by omega)
      have g16 := wl_get' l (n := n) (j := n - 16) (by omega)
      have g7 := wl_get' l (n := n) (j := n - 7) (by omega)
      have g2 := wl_get' l (n := n) (j := n - 2) (by omega)
      have hs : wn l (n - 16) + wn l (n - 7) + sA (wn l (n - 15)) + sB (wn l (n - 2)) = wn l n := by rw [sched, ← wn_hi l hn]
      simp only [e15, e16, e7, e2, Int.toNat_natCast, g15, g16, g7, g2, toW_wd, xorW, quo8, quo1024, addW, fA, fB, hs, ← wl_succ, wl_len]
      and_intros <;> first | exact trivial | rfl | omega | exact ⟨_, 7, rfl, by decide, by decide⟩ | exact ⟨_, 18, rfl, by decide, by decide⟩ | exact ⟨_, 17, rfl, by decide, by decide⟩ | exact ⟨_, 19, rfl, by decide, by decide⟩
    · rename_i h
      obtain rfl : n = 64 := by have := of_decide_eq_false h; omega
      refine ⟨by and_intros <;> first | rfl | omega | decide | trivial, fun t ht => ?_⟩
      split
      · rename_i h
        have h : t < 64 := by have := of_decide_eq_true h; omega
        have ew : IntKind.i64.wrap ((t : Int) + 1) = ((t + 1 : Nat) : Int) := by rw [wi (by omega) (by omega)]; omega
        have gt := wl_get' l (n := 64) (j := t) h
        simp only [ew, Int.toNat_natCast, gt, gl_ok.2.2, kW_eq h, toW_wd, xorW, addW, fC, fD, rd_succ]
        and_intros <;> first | exact trivial | rfl | omega | exact ⟨_, 6, rfl, by decide, by decide⟩ | exact ⟨_, 11, rfl, by decide, by decide⟩ | exact ⟨_, 25, rfl, by decide, by decide⟩ | exact ⟨_, 2, rfl, by decide, by decide⟩ | exact ⟨_, 13, rfl, by decide, by decide⟩ | exact ⟨_, 22, rfl, by decide, by decide⟩ | exact ⟨_, _, _, rfl⟩
      · rename_i h
        obtain rfl : t = 64 := by have := of_decide_eq_false h; omega
        simp only [addW]
        and_intros <;> first | exact trivial | rfl | omega

end Go.Proofs.YtcdjhhepgkcabaaDoor
