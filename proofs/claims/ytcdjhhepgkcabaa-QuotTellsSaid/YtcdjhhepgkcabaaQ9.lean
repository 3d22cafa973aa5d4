import Derived.Test.YtcdjhhepgkcabaaQ8
/- QuotTells, part 9: Parts, Rest and Common meet. -/
namespace Go.Proofs.Ytcdjhhepgkcabaa
open Go Go.Vg

theorem cmp_le (x y : Nat) : decide (cmpN x y ≤ 0) = decide (x ≤ y) := by
  rw [Bool.eq_iff_iff, decide_eq_true_iff, decide_eq_true_iff]
  unfold cmpN
  split
  · omega
  · split <;> omega

theorem trim_dg {a R : Nat} (ha : a < 65536) : trimL (((a : Nat) : Int) :: dg R) = dg (a + 65536 * R) := by
  have hok : okd (((a : Nat) : Int) :: dg R) := by
    intro x hx
    rcases List.mem_cons.mp hx with rfl | hx
    · omega
    · exact dg_ok R x hx
  rw [trim_eq hok, vB, Int.toNat_natCast, vl_dg]

theorem q_step (n i lo Q : Nat) (hi : i < n) (hlo : lo < 65536) :
    (List.replicate (i + 1) (0 : Int) ++ nB 65536 (n - (i + 1)) Q).set (0 + i) ((lo : Nat) : Int) = List.replicate i 0 ++ nB 65536 (n - i) (65536 * Q + lo) := by
  have e : nB 65536 (n - i) (65536 * Q + lo) = ((lo : Nat) : Int) :: nB 65536 (n - (i + 1)) Q := by
    rw [show n - i = n - (i + 1) + 1 by omega, nB, Nat.mul_add_mod, Nat.mod_eq_of_lt hlo, Nat.mul_add_div (by decide), Nat.div_eq_of_lt hlo]
    rfl
  rw [e, Nat.zero_add, List.replicate_succ', List.append_assoc, List.set_append_right _ _ (by rw [List.length_replicate]; exact Nat.le_refl _), List.length_replicate, Nat.sub_self]
  rfl

theorem pow_up {M k n : Nat} (h : M < 65536 ^ k) (hk : k + 1 ≤ n) : M * 65536 < 65536 ^ n := by
  have h2 : 65536 ^ (k + 1) ≤ 65536 ^ n := Nat.pow_le_pow_right (by decide) hk
  have h3 : M * 65536 < 65536 ^ (k + 1) := by
    rw [Nat.pow_succ]
    exact Nat.mul_lt_mul_of_pos_right h (by decide)
  exact Nat.lt_of_lt_of_le h3 h2
theorem len_dg {n : Nat} (h : n < 65536 ^ 1001) : lenS (dg n) ∧ lenOk (dg n) := len_ok h (by decide)


set_option maxRecDepth 100000 in
theorem m55 : Meets Try.prog 55 sp55 := by
  refine meets_of_owed (C := c55) ⟨tab_ok, lkS_ok ⟨m21, m62, m74, m75, trivial⟩⟩ (by kernel_rfl) (by kernel_rfl : Try.prog.funcs[55]? = some Try.f55) (by kernel_rfl) (by kernel_rfl) (by kernel_rfl) _ ?_
  rintro _ ⟨l, m, rfl, ⟨hl, hll⟩, ⟨hm, hml⟩, hM0⟩
  refine ⟨fun h => (by cases h), inv55 l m, ?_⟩
  show owed c55 (inv55 l m) Try.f55 [dgs l, dgs m] (.tup [dgs (dg (vD l / vD m)), dgs (dg (vD l % vD m))])
  rw [vc55]
  have hll : l.length ≤ 1000 := hll
  have hml : m.length ≤ 1000 := hml
  have hms : lenS m := by unfold lenS; omega
  have hM0 : vB 65536 m ≠ 0 := hM0
  have hMb : vB 65536 m * 65536 < 65536 ^ 1001 := by
    have h1 := vB_lt (b := 65536) hm
    refine pow_up (n := 1001) h1 ?_
    omega
  simp (decide := true) only [eq_self, true_and, and_true, ne_eq, not_false_eq_true, Int.toNat_natCast, vl_dg]
  rw [wi (n := (l.length : Int) - 1) (by omega) (by omega), show (l.length : Int) - 1 + 1 = (l.length : Int) by omega]
  simp only [Int.toNat_natCast]
  refine ⟨by omega, ?_, ?_⟩
  · rw [List.drop_of_length_le (Nat.le_refl _), Nat.sub_self]
    have e : vB 65536 [] = 0 := rfl
    rw [e, Nat.zero_mod, dg_zero]
    simp [nB]
  intro z hz
  split
  · rename_i h
    have h := of_decide_eq_true h
    obtain ⟨i, rfl⟩ : ∃ i, z = i + 1 := ⟨z - 1, by omega⟩
    obtain ⟨a, ea, ha⟩ := okd_get hl (i := i) (by omega)
    have hA := vB_dropS 65536 (l := l) i (by omega)
    rw [ea, Int.toNat_natCast] at hA
    rw [show ((i + 1 : Nat) : Int) - 1 = (i : Int) by omega, wi (n := (i : Int) - 1) (by omega) (by omega), show (i : Int) - 1 + 1 = (i : Int) by omega]
    simp only [Int.toNat_natCast, ea, trim_dg ha, vl_dg]
    have hQ := Nat.div_add_mod (vB 65536 (l.drop (i + 1))) (vB 65536 m)
    have hR := Nat.mod_lt (vB 65536 (l.drop (i + 1))) (y := vB 65536 m) (by omega)
    have hqs := q_step l.length i
    have hRl : (dg (vB 65536 (l.drop (i + 1)) % vB 65536 m)).length ≤ 1001 := dg_len _ _ (by omega)
    generalize vB 65536 (l.drop (i + 1)) / vB 65536 m = Q at *
    generalize vB 65536 (l.drop (i + 1)) % vB 65536 m = R at *
    have hAX : vB 65536 (l.drop i) = vB 65536 m * (65536 * Q) + (a + 65536 * R) := by
      rw [hA, ← hQ, Nat.mul_add, Nat.mul_left_comm]
      omega
    have hdiv : ∀ lo, vB 65536 m * lo ≤ a + 65536 * R → a + 65536 * R < vB 65536 m * (lo + 1) → vB 65536 (l.drop i) / vB 65536 m = 65536 * Q + lo ∧ vB 65536 (l.drop i) % vB 65536 m = a + 65536 * R - vB 65536 m * lo := by
      intro lo h1 h2
      have e : vB 65536 (l.drop i) = vB 65536 m * (65536 * Q + lo) + (a + 65536 * R - vB 65536 m * lo) := by
        rw [hAX, Nat.mul_add (vB 65536 m)]
        omega
      rw [Nat.mul_add, Nat.mul_one] at h2
      have h3 : a + 65536 * R - vB 65536 m * lo < vB 65536 m := by omega
      rw [e]
      exact ⟨by rw [Nat.mul_add_div (by omega), Nat.div_eq_of_lt h3, Nat.add_zero], by rw [Nat.mul_add_mod, Nat.mod_eq_of_lt h3]⟩
    have hXM : a + 65536 * R < vB 65536 m * 65536 := by omega
    have hXb : a + 65536 * R < 65536 ^ 1001 := Nat.lt_trans hXM hMb
    generalize a + 65536 * R = X at *
    have hXl := len_dg hXb
    refine ⟨by omega, by rw [List.length_cons]; omega, ⟨_, rfl, by unfold lenOk; rw [List.length_cons]; omega⟩, ?_, ?_⟩
    · and_intros <;> first | rfl | omega | trivial
    rintro ⟨lo, hi⟩ ⟨⟨hlh, hh⟩, hlo, hhi⟩
    simp only at hlh hh hlo hhi ⊢
    rw [wi (n := (hi : Int) - (lo : Int)) (by omega) (by omega), ← Int.natCast_add, wi (n := ((lo + hi : Nat) : Int)) (by omega) (by omega), show ((lo + hi : Nat) : Int).tdiv 2 = (((lo + hi) / 2 : Nat) : Int) from tdivN (lo + hi) 2, wi (n := (((lo + hi) / 2 : Nat) : Int)) (by omega) (by omega)]
    have one : ∀ d : Nat, vB 65536 [((d : Nat) : Int)] = d := fun d => by simp [vB]
    have okd1 : ∀ d : Nat, d < 65536 → okd [((d : Nat) : Int)] := fun d hd x hx => by rw [List.mem_singleton.mp hx]; omega
    have l1 : ∀ d : Nat, lenS [((d : Nat) : Int)] := fun d => by simp [lenS]
    simp only [Int.toNat_natCast, one, cmp_le]
    split
    · rename_i h2
      have h2 := of_decide_eq_true h2
      have hmid1 : lo < (lo + hi) / 2 := by omega
      have hmid2 : (lo + hi) / 2 < hi := by omega
      generalize (lo + hi) / 2 = mid at *
      have hpre1 : ∃ (l_1 m_1 : List Int), [dgs m, dgs [((mid : Nat) : Int)]] = [dgs l_1, dgs m_1] ∧ (okd l_1 ∧ lenS l_1) ∧ okd m_1 ∧ lenS m_1 := ⟨_, _, rfl, ⟨hm, hms⟩, okd1 mid (by omega), l1 mid⟩
      have hmb : vB 65536 m * mid < 65536 ^ 1001 := by
        have : vB 65536 m * mid ≤ vB 65536 m * 65536 := Nat.mul_le_mul_left _ (by omega)
        exact Nat.lt_of_le_of_lt this hMb
      have hpre2 : ∃ (l_1 m_1 : List Int), [dgs (dg (vB 65536 m * mid)), dgs (dg X)] = [dgs l_1, dgs m_1] ∧ (okd l_1 ∧ lenS l_1) ∧ okd m_1 ∧ lenS m_1 := ⟨_, _, rfl, ⟨dg_ok _, (len_dg hmb).1⟩, dg_ok _, hXl.1⟩
      refine ⟨hpre1, hpre2, ?_⟩
      split
      · rename_i h3
        have h3 := of_decide_eq_true h3
        and_intros <;> first | exact h3 | exact hhi | rfl | omega | trivial
      · rename_i h3
        have h3 := of_decide_eq_false h3
        have h3 : X < vB 65536 m * mid := by omega
        and_intros <;> first | exact h3 | exact hlo | rfl | omega | trivial
    · rename_i h2
      have h2 := of_decide_eq_false h2
      obtain rfl : hi = lo + 1 := by omega
      obtain ⟨d1, d2⟩ := hdiv lo hlo hhi
      have hq := hqs lo Q (by omega) (by omega)
      split
      · rename_i h3
        have h3 := of_decide_eq_true h3
        have hpre1 : ∃ (l_1 m_1 : List Int), [dgs m, dgs [((lo : Nat) : Int)]] = [dgs l_1, dgs m_1] ∧ (okd l_1 ∧ lenS l_1) ∧ okd m_1 ∧ lenS m_1 := ⟨_, _, rfl, ⟨hm, hms⟩, okd1 lo (by omega), l1 lo⟩
        have hpre2 : ∃ (l_1 m_1 : List Int), [dgs (dg X), dgs (dg (vB 65536 m * lo))] = [dgs l_1, dgs m_1] ∧ (okd l_1 ∧ lenS l_1) ∧ (okd m_1 ∧ lenS m_1) ∧ vB 65536 m_1 ≤ vB 65536 l_1 := ⟨_, _, rfl, ⟨dg_ok _, hXl.1⟩, ⟨dg_ok _, (len_dg (Nat.lt_of_le_of_lt hlo hXb)).1⟩, by rw [vl_dg, vl_dg]; exact hlo⟩
        rw [hq, d1, d2]
        and_intros <;> first | exact hpre1 | exact hpre2 | rfl | omega | trivial
      · rename_i h3
        have h3 := of_decide_eq_false h3
        obtain rfl : lo = 0 := by omega
        rw [hq, d1, d2, Nat.mul_zero, Nat.sub_zero]
        and_intros <;> first | rfl | omega | trivial
  · rename_i h
    have h := of_decide_eq_false h
    obtain rfl : z = 0 := by omega
    have hA := vB_lt (b := 65536) hl
    have hlt : vB 65536 l / vB 65536 m < 65536 ^ l.length := Nat.lt_of_le_of_lt (Nat.div_le_self _ _) hA
    have e : List.take l.length (List.drop 0 (List.replicate 0 0 ++ nB 65536 (l.length - 0) (vB 65536 (List.drop 0 l) / vB 65536 m))) = nB 65536 l.length (vB 65536 l / vB 65536 m) := by
      rw [List.replicate_zero, List.nil_append, List.drop_zero, List.drop_zero, Nat.sub_zero, List.take_of_length_le (by rw [nB_length]; exact Nat.le_refl _)]
    rw [e, trim_eq (nB_okd _ _), vB_nB, Nat.mod_eq_of_lt hlt, List.drop_zero]
    exact ⟨⟨_, rfl, by unfold lenOk; rw [nB_length]; omega⟩, rfl⟩

set_option maxRecDepth 100000 in
theorem m76 : Meets Try.prog 76 sp76 := by
  refine meets_of_owed (C := c76) ⟨tab_ok, lkS_ok ⟨m55, trivial⟩⟩ (by kernel_rfl) (by kernel_rfl : Try.prog.funcs[76]? = some Try.f76) (by kernel_rfl) (by kernel_rfl) (by kernel_rfl) _ ?_
  rintro _ ⟨l, m, rfl, hl, hm, h0⟩
  refine ⟨fun h => (by cases h), fun _ => none, ?_⟩
  show owed c76 (fun _ => none) Try.f76 [dgs l, dgs m] (dgs (dg (vD l % vD m)))
  rw [vc76]
  simp (decide := true) only [eq_self, true_and, and_true, ne_eq, not_false_eq_true]
  exact ⟨l, m, rfl, hl, hm, h0⟩

set_option maxRecDepth 100000 in
theorem m57 : Meets Try.prog 57 sp57 := by
  refine meets_of_owed (C := c57) ⟨tab_ok, lkS_ok ⟨m76, trivial⟩⟩ (by kernel_rfl) (by kernel_rfl : Try.prog.funcs[57]? = some Try.f57) (by kernel_rfl) (by kernel_rfl) (by kernel_rfl) _ ?_
  rintro _ ⟨X, Y, rfl, hX, hY⟩
  refine ⟨fun h => (by cases h), inv57 X Y, ?_⟩
  show owed c57 (inv57 X Y) Try.f57 [dgs (dg X), dgs (dg Y)] (dgs (dg (Nat.gcd (vD (dg X)) (vD (dg Y)))))
  rw [vc57]
  have eX : vD (dg X) = X := vl_dg X
  have eY : vD (dg Y) = Y := vl_dg Y
  rw [eX, eY]
  simp (decide := true) only [eq_self, true_and, and_true, ne_eq, not_false_eq_true, vl_dg]
  refine ⟨⟨hX, hY⟩, ?_⟩
  rintro ⟨x, y⟩ ⟨⟨hx, hy⟩, hg⟩
  simp only at hx hy hg ⊢
  split
  · rename_i h
    have h := of_decide_eq_true h
    have h0 : y ≠ 0 := by
      rintro rfl
      rw [dg_zero] at h
      simp at h
    have hlt := Nat.mod_lt x (y := y) (by omega)
    have hm : len1 (dg (x % y)) := by
      have := dg_mono (Nat.le_of_lt hlt)
      unfold len1 at *
      omega
    have e : Nat.gcd y (x % y) = Nat.gcd X Y := by rw [← hg, Nat.gcd_comm x y, Nat.gcd_rec y x, Nat.gcd_comm]
    exact ⟨⟨_, _, rfl, ⟨dg_ok _, hx⟩, ⟨dg_ok _, hy⟩, by rw [vl_dg]; exact h0⟩, ⟨⟨hy, hm⟩, e⟩, hlt⟩
  · rename_i h
    have h := of_decide_eq_false h
    have h0 : dg y = [] := List.eq_nil_of_length_eq_zero (by omega)
    have h1 := dg_nil h0
    subst h1
    rw [Nat.gcd_zero_right] at hg
    rw [hg]

end Go.Proofs.Ytcdjhhepgkcabaa
