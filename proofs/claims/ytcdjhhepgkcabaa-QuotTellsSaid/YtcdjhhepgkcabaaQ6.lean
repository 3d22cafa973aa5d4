import Derived.Test.YtcdjhhepgkcabaaQ5
/- QuotTells, part 6: Gcd meets. -/
namespace Go.Proofs.Ytcdjhhepgkcabaa
open Go Go.Vg

theorem vn {x : Nat} (h : x < W4) : vB 18446744073709551616 (nB 18446744073709551616 4 x) = x := by
  rw [wv_nB]
  exact Nat.mod_eq_of_lt h
theorem shm (x : Nat) : shf x (-1) = x / 2 := rfl
theorem par (x : Nat) : (iand .u64 ((nB 18446744073709551616 4 x).getD 0 0) 1 == 0) = decide (x % 2 = 0) := by
  have hlt : x / 18446744073709551616 ^ 0 % 18446744073709551616 < kb .u64 := Nat.mod_lt _ (by decide)
  rw [nB_get _ _ _ _ (by decide), show (1 : Int) = ((1 : Nat) : Int) from rfl, iandN .u64 hlt (by decide), Nat.and_one_is_mod, Nat.pow_zero, Nat.div_one, Nat.mod_mod_of_dvd _ (by decide), Bool.eq_iff_iff, beq_iff_eq, decide_eq_true_iff]
  omega
theorem wvz {x : Nat} (h : x < W4) : eqB (nB 18446744073709551616 4 x) [0, 0, 0, 0] = decide (x = 0) := by
  rw [wv_zero (nB_okw 4 x) (nB_length _ _ _)]
  exact congrArg (fun z => decide (z = 0)) (vn h)
theorem cop2 {y : Nat} (h : y % 2 = 1) : Nat.Coprime 2 y := by
  show Nat.gcd 2 y = 1
  rw [Nat.gcd_rec, h]
  exact Nat.gcd_one_left 2
theorem g_half {p y : Nat} (hp : p % 2 = 0) (hy : y % 2 = 1) : Nat.gcd (p / 2) y = Nat.gcd p y := by
  have := Nat.Coprime.gcd_mul_left_cancel (p / 2) (cop2 hy)
  rw [← this]
  congr 1
  omega
theorem g_both {p y : Nat} (hp : p % 2 = 0) (hy : y % 2 = 0) : Nat.gcd (p / 2) (y / 2) * 2 = Nat.gcd p y := by
  have := Nat.gcd_mul_left 2 (p / 2) (y / 2)
  rw [Nat.mul_comm, ← this]
  congr 1 <;> omega
theorem dif_le {x y : Nat} (h : y ≤ x) (hx : x < W4) : dif x y = x - y := by
  unfold dif
  exact mod_one _ _ _ (.inr (by show x + W4 - y = x - y + W4; omega)) (by show x - y < W4; omega)
theorem cmp_dec (x y : Nat) : decide (cmpN x y < 0) = decide (x < y) := by
  congr 1
  unfold cmpN
  split
  · rename_i h
    simp [h]
  · rename_i h
    split <;> simp [h]
theorem pre71 {x : Nat} {n : Int} (hn : i64ok n) : ∃ (l : List Int) (m : Int), [num4 (nB 18446744073709551616 4 x), i64 n] = [num4 l, i64 m] ∧ (okw l ∧ l.length = 4) ∧ i64ok m := ⟨_, n, rfl, ⟨nB_okw _ _, nB_length _ _ _⟩, hn⟩
theorem pre72 {x y : Nat} : ∃ (l m : List Int), [num4 (nB 18446744073709551616 4 x), num4 (nB 18446744073709551616 4 y)] = [num4 l, num4 m] ∧ (okw l ∧ l.length = 4) ∧ okw m ∧ m.length = 4 := ⟨_, _, rfl, ⟨nB_okw _ _, nB_length _ _ _⟩, nB_okw _ _, nB_length _ _ _⟩
theorem m1ok : i64ok (-1) := by unfold i64ok; omega
theorem num4_nB {l : List Int} (hl : okw l) (hl4 : l.length = 4) : nB 18446744073709551616 4 (vB 18446744073709551616 l) = l := by
  have := nB_vB (b := 18446744073709551616) hl
  rwa [hl4] at this

set_option maxRecDepth 100000 in
theorem m54 : Meets Try.prog 54 sp54 := by
  refine meets_of_owed (C := c54) ⟨tab_ok, lkS_ok ⟨m71, m72, m73, trivial⟩⟩ (by kernel_rfl) (by kernel_rfl : Try.prog.funcs[54]? = some Try.f54) (by kernel_rfl) (by kernel_rfl) (by kernel_rfl) _ ?_
  rintro _ ⟨l, m, rfl, ⟨hl, hl4⟩, hm, hm4⟩
  refine ⟨fun _ => rfl, inv54 l m, ?_⟩
  show owed c54 (inv54 l m) Try.f54 [num4 l, num4 m] (num4 (nB 18446744073709551616 4 (Nat.gcd (wv l) (wv m))))
  rw [vc54]
  have hlv := wv_lt hl hl4
  have hmv := wv_lt hm hm4
  have hl4v : wv l < W4 := hlv
  have hm4v : wv m < W4 := hmv
  rw [wv_zero hl hl4, wv_zero hm hm4]
  simp (decide := true) only [eq_self, true_and, and_true, ne_eq, not_false_eq_true, Int.toNat_natCast]
  split
  · rename_i h
    have h := of_decide_eq_true h
    rw [h, Nat.gcd_zero_left, num4_nB hm hm4]
  rename_i h
  have h := of_decide_eq_false h
  split
  · rename_i h1
    have h1 := of_decide_eq_true h1
    rw [h1, Nat.gcd_zero_right, num4_nB hl hl4]
  rename_i h1
  have h1 := of_decide_eq_false h1
  refine ⟨by
    rw [num4_nB hl hl4, num4_nB hm hm4]
    and_intros <;> first | assumption | exact Nat.mul_one _ | exact (Nat.mul_one _).symm | rfl | trivial, ?_⟩
  rintro ⟨n, x, y⟩ ⟨⟨hx, hy⟩, ⟨hx0, hy0⟩, hxl, hg⟩
  simp only at hx hy hx0 hy0 hxl hg ⊢
  have hxl : x * 2 ^ n = wv l := hxl
  have hg : Nat.gcd (wv l) (wv m) = Nat.gcd x y * 2 ^ n := hg
  have hx2 : x / 2 < W4 := Nat.lt_of_le_of_lt (Nat.div_le_self _ _) hx
  have hy2 : y / 2 < W4 := Nat.lt_of_le_of_lt (Nat.div_le_self _ _) hy
  simp only [par]
  split
  · rename_i h2
    have h2 := of_decide_eq_true h2
    split
    · rename_i h3
      have h3 := of_decide_eq_true h3
      have hn : n < 256 := by
        rcases Nat.lt_or_ge n 256 with h | h
        · exact h
        · have h1 : 2 ^ 256 ≤ 2 ^ n := Nat.pow_le_pow_right (by decide) h
          have h2 : 1 * 2 ^ n ≤ x * 2 ^ n := Nat.mul_le_mul_right _ (by omega)
          omega
      simp only [vn hx, vn hy, shm, vn hx2, vn hy2]
      rw [show ((n : Int) + 1) = ((n + 1 : Nat) : Int) by omega, wi (n := ((n + 1 : Nat) : Int)) (by omega) (by omega)]
      simp only [Int.toNat_natCast]
      have hp1 := pre71 (x := x) m1ok
      have hp2 := pre71 (x := y) m1ok
      have e1 : x / 2 * 2 ^ (n + 1) = wv l := by
        rw [Nat.pow_succ, Nat.mul_comm (2 ^ n), ← Nat.mul_assoc, show x / 2 * 2 = x by omega, hxl]
      have e2 : Nat.gcd (wv l) (wv m) = Nat.gcd (x / 2) (y / 2) * 2 ^ (n + 1) := by
        rw [hg, ← g_both h2 h3, Nat.pow_succ, Nat.mul_comm (2 ^ n), Nat.mul_assoc]
      and_intros <;> first | exact hp1 | exact hp2 | exact e1 | exact e2 | rfl | trivial | omega
    · rename_i h3
      have h3 := of_decide_eq_false h3
      have hodd : x % 2 = 1 ∨ y % 2 = 1 := .inr (by omega)
      have hu64 : n < 256 := by
        rcases Nat.lt_or_ge n 256 with h | h
        · exact h
        · have h1 : 2 ^ 256 ≤ 2 ^ n := Nat.pow_le_pow_right (by decide) h
          have h2 : 1 * 2 ^ n ≤ x * 2 ^ n := Nat.mul_le_mul_right _ (by omega)
          have h3 := wv_lt hl hl4
          omega
      simp only [vn hx, vn hy]
      refine ⟨by and_intros <;> first | assumption | rfl | trivial, ?_⟩
      rintro ⟨u, v⟩ ⟨⟨hu, hv⟩, hv0, hod, hgu⟩
      simp only at hu hv hv0 hod hgu ⊢
      simp only [vn hu, vn hv, wvz hu]
      split
      · rename_i k1
        have k1 : ¬ u = 0 := by simpa using k1
        refine ⟨by and_intros <;> first | assumption | rfl | trivial | omega, ?_⟩
        rintro p ⟨hp0, hpu, hpo, hpg⟩
        have hp : p < W4 := Nat.lt_of_le_of_lt hpu hu
        have hp2 : p / 2 < W4 := Nat.lt_of_le_of_lt (Nat.div_le_self _ _) hp
        simp only [vn hp, par, shm, vn hp2]
        split
        · rename_i k2
          have k2 := of_decide_eq_true k2
          have hvo : v % 2 = 1 := by omega
          have e := g_half k2 hvo
          rw [hpg] at e
          have hpre := pre71 (x := p) m1ok
          have hor : p / 2 % 2 = 1 ∨ v % 2 = 1 := .inr hvo
          and_intros <;> first | exact hpre | exact e | exact hor | rfl | trivial | omega
        · rename_i k2
          have k2 := of_decide_eq_false k2
          have k2 : p % 2 = 1 := by omega
          refine ⟨by and_intros <;> first | assumption | rfl | trivial | omega, ?_⟩
          rintro q ⟨hq0, hqv, hqg⟩
          have hq : q < W4 := Nat.lt_of_le_of_lt hqv hv
          have hq2 : q / 2 < W4 := Nat.lt_of_le_of_lt (Nat.div_le_self _ _) hq
          simp only [vn hq, vn hq2, cmp_dec]
          split
          · rename_i k3
            have k3 := of_decide_eq_true k3
            have e := g_half k3 k2
            rw [Nat.gcd_comm, Nat.gcd_comm q, hqg] at e
            have hpre := pre71 (x := q) m1ok
            and_intros <;> first | exact hpre | exact e | rfl | trivial | omega
          · rename_i k3
            have k3 := of_decide_eq_false k3
            have k3 : q % 2 = 1 := by omega
            have hpq := pre72 (x := p) (y := q)
            have hqp := pre72 (x := q) (y := p)
            refine ⟨hpq, ?_⟩
            split
            · rename_i k4
              have k4 := of_decide_eq_true k4
              have e1 := dif_le (x := q) (y := p) (by omega) hq
              have e2 : q - p < W4 := Nat.lt_of_le_of_lt (Nat.sub_le _ _) hq
              have e3 : Nat.gcd (q - p) p = Nat.gcd u v := by rw [Nat.gcd_sub_self_left (by omega), Nat.gcd_comm, hqg, hpg]
              rw [e1, vn e2]
              have e4 : Nat.gcd (wv l) (wv m) = Nat.gcd (q - p) p * 2 ^ n := by rw [e3, hgu]
              have hor : (q - p) % 2 = 1 ∨ p % 2 = 1 := .inr k2
              and_intros <;> first | exact hqp | exact e4 | exact hor | rfl | trivial | omega
            · rename_i k4
              have k4 := of_decide_eq_false k4
              have e1 := dif_le (x := p) (y := q) (by omega) hp
              have e2 : p - q < W4 := Nat.lt_of_le_of_lt (Nat.sub_le _ _) hp
              have e3 : Nat.gcd (p - q) q = Nat.gcd u v := by rw [Nat.gcd_sub_self_left (by omega), hqg, hpg]
              rw [e1, vn e2]
              have e4 : Nat.gcd (wv l) (wv m) = Nat.gcd (p - q) q * 2 ^ n := by rw [e3, hgu]
              have hor : (p - q) % 2 = 1 ∨ q % 2 = 1 := .inr k3
              and_intros <;> first | exact hpq | exact e4 | exact hor | rfl | trivial | omega
      · rename_i k1
        have k1 : u = 0 := by simpa using k1
        subst k1
        have e : shf v (n : Int) = Nat.gcd (wv l) (wv m) := by
          rw [hgu, Nat.gcd_zero_left]
          unfold shf
          rw [if_pos (by omega), Int.toNat_natCast]
        refine ⟨pre71 (by unfold i64ok; omega), ?_⟩
        rw [e]
  · rename_i h2
    have h2 := of_decide_eq_false h2
    have hodd : x % 2 = 1 ∨ y % 2 = 1 := .inl (by omega)
    have hu64 : n < 256 := by
      rcases Nat.lt_or_ge n 256 with h | h
      · exact h
      · have h1 : 2 ^ 256 ≤ 2 ^ n := Nat.pow_le_pow_right (by decide) h
        have h2 : 1 * 2 ^ n ≤ x * 2 ^ n := Nat.mul_le_mul_right _ (by omega)
        have h3 := wv_lt hl hl4
        omega
    simp only [vn hx, vn hy]
    refine ⟨by and_intros <;> first | assumption | rfl | trivial, ?_⟩
    rintro ⟨u, v⟩ ⟨⟨hu, hv⟩, hv0, hod, hgu⟩
    simp only at hu hv hv0 hod hgu ⊢
    simp only [vn hu, vn hv, wvz hu]
    split
    · rename_i k1
      have k1 : ¬ u = 0 := by simpa using k1
      refine ⟨by and_intros <;> first | assumption | rfl | trivial | omega, ?_⟩
      rintro p ⟨hp0, hpu, hpo, hpg⟩
      have hp : p < W4 := Nat.lt_of_le_of_lt hpu hu
      have hp2 : p / 2 < W4 := Nat.lt_of_le_of_lt (Nat.div_le_self _ _) hp
      simp only [vn hp, par, shm, vn hp2]
      split
      · rename_i k2
        have k2 := of_decide_eq_true k2
        have hvo : v % 2 = 1 := by omega
        have e := g_half k2 hvo
        rw [hpg] at e
        have hpre := pre71 (x := p) m1ok
        have hor : p / 2 % 2 = 1 ∨ v % 2 = 1 := .inr hvo
        and_intros <;> first | exact hpre | exact e | exact hor | rfl | trivial | omega
      · rename_i k2
        have k2 := of_decide_eq_false k2
        have k2 : p % 2 = 1 := by omega
        refine ⟨by and_intros <;> first | assumption | rfl | trivial | omega, ?_⟩
        rintro q ⟨hq0, hqv, hqg⟩
        have hq : q < W4 := Nat.lt_of_le_of_lt hqv hv
        have hq2 : q / 2 < W4 := Nat.lt_of_le_of_lt (Nat.div_le_self _ _) hq
        simp only [vn hq, vn hq2, cmp_dec]
        split
        · rename_i k3
          have k3 := of_decide_eq_true k3
          have e := g_half k3 k2
          rw [Nat.gcd_comm, Nat.gcd_comm q, hqg] at e
          have hpre := pre71 (x := q) m1ok
          and_intros <;> first | exact hpre | exact e | rfl | trivial | omega
        · rename_i k3
          have k3 := of_decide_eq_false k3
          have k3 : q % 2 = 1 := by omega
          have hpq := pre72 (x := p) (y := q)
          have hqp := pre72 (x := q) (y := p)
          refine ⟨hpq, ?_⟩
          split
          · rename_i k4
            have k4 := of_decide_eq_true k4
            have e1 := dif_le (x := q) (y := p) (by omega) hq
            have e2 : q - p < W4 := Nat.lt_of_le_of_lt (Nat.sub_le _ _) hq
            have e3 : Nat.gcd (q - p) p = Nat.gcd u v := by rw [Nat.gcd_sub_self_left (by omega), Nat.gcd_comm, hqg, hpg]
            rw [e1, vn e2]
            have e4 : Nat.gcd (wv l) (wv m) = Nat.gcd (q - p) p * 2 ^ n := by rw [e3, hgu]
            have hor : (q - p) % 2 = 1 ∨ p % 2 = 1 := .inr k2
            and_intros <;> first | exact hqp | exact e4 | exact hor | rfl | trivial | omega
          · rename_i k4
            have k4 := of_decide_eq_false k4
            have e1 := dif_le (x := p) (y := q) (by omega) hp
            have e2 : p - q < W4 := Nat.lt_of_le_of_lt (Nat.sub_le _ _) hp
            have e3 : Nat.gcd (p - q) q = Nat.gcd u v := by rw [Nat.gcd_sub_self_left (by omega), hqg, hpg]
            rw [e1, vn e2]
            have e4 : Nat.gcd (wv l) (wv m) = Nat.gcd (p - q) q * 2 ^ n := by rw [e3, hgu]
            have hor : (p - q) % 2 = 1 ∨ q % 2 = 1 := .inr k3
            and_intros <;> first | exact hpq | exact e4 | exact hor | rfl | trivial | omega
    · rename_i k1
      have k1 : u = 0 := by simpa using k1
      subst k1
      have e : shf v (n : Int) = Nat.gcd (wv l) (wv m) := by
        rw [hgu, Nat.gcd_zero_left]
        unfold shf
        rw [if_pos (by omega), Int.toNat_natCast]
      refine ⟨pre71 (by unfold i64ok; omega), ?_⟩
      rw [e]

end Go.Proofs.Ytcdjhhepgkcabaa
