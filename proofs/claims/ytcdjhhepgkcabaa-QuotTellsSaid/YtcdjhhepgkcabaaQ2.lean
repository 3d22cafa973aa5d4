import Derived.Test.YtcdjhhepgkcabaaQ1
/- QuotTells, part 2: Sub, Cmp and Shift of package limb meet. -/
namespace Go.Proofs.Ytcdjhhepgkcabaa
open Go Go.Vg

theorem sbd_spec (x y b : Nat) (hx : x < B64) (hy : y < B64) (hb : b ≤ 1) : (sbd x y b < B64) ∧ ((y + b ≤ x ∧ sbd x y b + y + b = x ∧ sbb x y b = 0) ∨ (x < y + b ∧ sbd x y b + y + b = x + B64 ∧ sbb x y b = 1)) := by
  unfold sbd sbb
  refine ⟨Nat.mod_lt _ (by decide), ?_⟩
  rcases Nat.lt_or_ge x (y + b) with h | h
  · right
    refine ⟨h, ?_, if_pos h⟩
    rw [Nat.mod_eq_of_lt (by omega)]
    omega
  · left
    refine ⟨h, ?_, if_neg (by omega)⟩
    rw [show x + B64 - y - b = (x - y - b) + B64 by omega, Nat.add_mod_right, Nat.mod_eq_of_lt (by omega)]
    omega

theorem mod_one (X Y M : Nat) (h : X = Y ∨ X = Y + M) (hy : Y < M) : X % M = Y := by
  rcases h with rfl | rfl
  · exact Nat.mod_eq_of_lt hy
  · rw [Nat.add_mod_right, Nat.mod_eq_of_lt hy]

theorem sub_num (P A C x y : Nat) (hA : A < P) (hC : C < P) (hx : x < B64) (hy : y < B64) :
    (A + P * x + P * B64 - (C + P * y)) % (P * B64) = (A + P - C) % P + P * sbd x y (bor A C) ∧ bor (A + P * x) (C + P * y) = sbb x y (bor A C) := by
  have hb : bor A C ≤ 1 := by unfold bor; split <;> omega
  have hAC : (A < C ∧ bor A C = 1 ∧ (A + P - C) % P = A + P - C) ∨ (C ≤ A ∧ bor A C = 0 ∧ (A + P - C) % P = A - C) := by
    rcases Nat.lt_or_ge A C with h | h
    · exact .inl ⟨h, if_pos h, Nat.mod_eq_of_lt (by omega)⟩
    · exact .inr ⟨h, if_neg (by omega), mod_one _ _ _ (.inr (by omega)) (by omega)⟩
  obtain ⟨hd, hcase⟩ := sbd_spec x y (bor A C) hx hy hb
  generalize bor A C = b at hb hAC hd hcase ⊢
  generalize sbd x y b = d at hd hcase ⊢
  generalize sbb x y b = e at hcase ⊢
  have m1 : P * (d + 1) ≤ P * B64 := Nat.mul_le_mul_left P hd
  rw [Nat.mul_add, Nat.mul_one] at m1
  have hr : (A + P - C) % P < P := Nat.mod_lt _ (by omega)
  have lin : ∀ u v : Nat, u = v → P * u = P * v := fun u v h => by rw [h]
  have fin : ∀ s t : Nat, (s < t ↔ e = 1) → (e = 0 ∨ e = 1) → bor s t = e := by
    intro s t h1 h2
    unfold bor
    split
    · rename_i h; exact (h1.1 h).symm
    · rename_i h; rcases h2 with h2 | h2
      · exact h2.symm
      · exact absurd (h1.2 h2) h
  rcases hAC with ⟨h1, h2, h3⟩ | ⟨h1, h2, h3⟩ <;> rcases hcase with ⟨c1, c2, c3⟩ | ⟨c1, c2, c3⟩
  all_goals
    have q := lin _ _ c2
    subst h2
    simp only [Nat.mul_add, Nat.mul_one, Nat.mul_zero, Nat.add_zero] at q
    rw [h3] at hr ⊢
    have hB : P ≤ P * B64 := Nat.le_mul_of_pos_right P (by decide)
    generalize P * B64 = PB at *
    generalize P * x = Px at *
    generalize P * y = Py at *
    generalize P * d = Pd at *
    refine ⟨mod_one _ _ _ (by omega) (by omega), fin _ _ (by omega) (by omega)⟩

theorem okw_get {l : List Int} (h : okw l) {i : Nat} (hi : i < l.length) : ∃ n : Nat, l.getD i 0 = (n : Int) ∧ n < B64 := by
  have := h _ (getD_mem hi)
  exact ⟨(l.getD i 0).toNat, by omega, by show _ < 18446744073709551616; omega⟩

theorem subL_get (l m : List Int) {i : Nat} (hi : i < l.length) : (subL l m i).getD i 0 = l.getD i 0 := by
  unfold subL
  rw [List.getD_eq_getElem?_getD, List.getElem?_append_right (by rw [nB_length]; exact Nat.le_refl _), nB_length, Nat.sub_self, List.getElem?_drop, Nat.add_zero, ← List.getD_eq_getElem?_getD]

theorem nB_low (b n lo d : Nat) (h : lo < b ^ n) : nB b n (lo + b ^ n * d) = nB b n lo := by
  rw [← nB_mod b n (lo + b ^ n * d), Nat.add_mul_mod_self_left, nB_mod]

theorem subL_set {l m : List Int} (hl : okw l) (hl4 : l.length = 4) (hm : okw m) (hm4 : m.length = 4) {i : Nat} (hi : i < 4) {x y : Nat} (ex : l.getD i 0 = (x : Int)) (ey : m.getD i 0 = (y : Int)) (hx : x < B64) (hy : y < B64) :
    (subL l m i).set i ((sbd x y (bor (vB 18446744073709551616 (l.take i)) (vB 18446744073709551616 (m.take i))) : Nat) : Int) = subL l m (i + 1) ∧
      sbb x y (bor (vB 18446744073709551616 (l.take i)) (vB 18446744073709551616 (m.take i))) = bor (vB 18446744073709551616 (l.take (i + 1))) (vB 18446744073709551616 (m.take (i + 1))) := by
  have e1 := vB_take1 (b := 18446744073709551616) (l := l) i (by omega)
  have e2 := vB_take1 (b := 18446744073709551616) (l := m) i (by omega)
  rw [ex, Int.toNat_natCast] at e1
  rw [ey, Int.toNat_natCast] at e2
  have hA := vB_lt (b := 18446744073709551616) (l := l.take i) fun z hz => hl z (List.mem_of_mem_take hz)
  have hC := vB_lt (b := 18446744073709551616) (l := m.take i) fun z hz => hm z (List.mem_of_mem_take hz)
  rw [List.length_take, show min i l.length = i by omega] at hA
  rw [List.length_take, show min i m.length = i by omega] at hC
  obtain ⟨n1, n2⟩ := sub_num (18446744073709551616 ^ i) _ _ x y hA hC hx hy
  rw [← e1, ← e2] at n2
  refine ⟨?_, n2.symm⟩
  have hd : l.drop i = l.getD i 0 :: l.drop (i + 1) := by
    rw [List.drop_eq_getElem_cons (by omega)]
    simp [show i < l.length by omega]
  unfold subL
  have hlo : (vB 18446744073709551616 (l.take i) + 18446744073709551616 ^ i - vB 18446744073709551616 (m.take i)) % 18446744073709551616 ^ i < 18446744073709551616 ^ i := Nat.mod_lt _ (Nat.pow_pos (by decide))
  have hsd := (sbd_spec x y (bor (vB 18446744073709551616 (l.take i)) (vB 18446744073709551616 (m.take i))) hx hy (by unfold bor; split <;> omega)).1
  rw [e1, e2, Nat.pow_succ, n1, nB_push, nB_low _ _ _ _ hlo, hd, List.set_append_right _ _ (by rw [nB_length]; exact Nat.le_refl _), nB_length, Nat.sub_self, List.set_cons_zero, Nat.add_mul_div_left _ _ (Nat.pow_pos (by decide)), Nat.div_eq_of_lt hlo, Nat.zero_add, Nat.mod_eq_of_lt hsd, List.append_assoc]
  rfl

set_option maxRecDepth 100000 in
theorem m72 : Meets Try.prog 72 sp72 := by
  refine meets_of_owed (C := c72) ⟨tab_ok, lkS_ok ⟨m79, trivial⟩⟩ (by kernel_rfl) (by kernel_rfl : Try.prog.funcs[72]? = some Try.f72) (by kernel_rfl) (by kernel_rfl) (by kernel_rfl) _ ?_
  rintro _ ⟨l, m, rfl, ⟨hl, hl4⟩, hm, hm4⟩
  refine ⟨fun _ => rfl, inv72 l m, ?_⟩
  show owed c72 (inv72 l m) Try.f72 [num4 l, num4 m] (.tup [num4 (nB 18446744073709551616 4 (dif (wv l) (wv m))), u64n (bor (wv l) (wv m))])
  rw [vc72]
  simp (decide := true) only [eq_self, true_and, and_true, ne_eq, not_false_eq_true, Int.toNat_natCast]
  refine ⟨?_, ?_⟩
  · have e : subL l m 0 = l := by simp [subL, nB]
    rw [show (Int.toNat 0) = 0 from rfl, e]
    and_intros <;> first | rfl | trivial
  intro i hi
  split
  · rename_i h
    have h := of_decide_eq_true h
    obtain ⟨x, ex, hx⟩ := okw_get hl (i := i) (by omega)
    obtain ⟨y, ey, hy⟩ := okw_get hm (i := i) (by omega)
    obtain ⟨s1, s2⟩ := subL_set hl hl4 hm hm4 (i := i) (by omega) ex ey hx hy
    have hb : bor (vB 18446744073709551616 (l.take i)) (vB 18446744073709551616 (m.take i)) ≤ 1 := by unfold bor; split <;> omega
    rw [subL_get l m (by omega), ex, ey, show ((i : Int) + 1) = ((i + 1 : Nat) : Int) by omega, wi (n := ((i + 1 : Nat) : Int)) (by omega) (by omega)]
    simp only [Int.toNat_natCast]
    rw [s1, s2]
    have hp : ∃ x_1 y_1 b : Nat, [u64n x, u64n y, u64n (bor (vB 18446744073709551616 (l.take i)) (vB 18446744073709551616 (m.take i)))] = [u64n x_1, u64n y_1, u64n b] ∧ x_1 < 18446744073709551616 ∧ y_1 < 18446744073709551616 ∧ b ≤ 1 := ⟨x, y, _, rfl, hx, hy, hb⟩
    and_intros <;> first | exact hp | omega | rfl | trivial
  · rename_i h
    have h := of_decide_eq_false h
    obtain rfl : i = 4 := by omega
    have t1 : l.take 4 = l := List.take_of_length_le (by omega)
    have t2 : m.take 4 = m := List.take_of_length_le (by omega)
    have e : subL l m 4 = nB 18446744073709551616 4 (dif (wv l) (wv m)) := by
      unfold subL dif
      rw [t1, t2, List.drop_of_length_le (by omega), List.append_nil]
    rw [e, t1, t2]

theorem vB_cut {l : List Int} (hl : okw l) {i : Nat} (hi : i < l.length) {x : Nat} (ex : l.getD i 0 = (x : Int)) : ∃ A, A < 18446744073709551616 ^ i ∧ wv l = A + 18446744073709551616 ^ i * (x + 18446744073709551616 * vB 18446744073709551616 (l.drop (i + 1))) := by
  have hA := vB_lt (b := 18446744073709551616) (l := l.take i) fun z hz => hl z (List.mem_of_mem_take hz)
  rw [List.length_take, show min i l.length = i by omega] at hA
  refine ⟨_, hA, ?_⟩
  have := vB_append 18446744073709551616 (l.take i) (l.drop i)
  rw [List.take_append_drop, List.length_take, show min i l.length = i by omega, vB_dropS 18446744073709551616 i hi, ex, Int.toNat_natCast] at this
  exact this

theorem cmp_lt {P A C x y R : Nat} (hA : A < P) (h : x < y) : A + P * (x + R) < C + P * (y + R) := by
  have := Nat.mul_le_mul_left P (show x + R + 1 ≤ y + R by omega)
  rw [Nat.mul_add P (x + R) 1, Nat.mul_one] at this
  omega

set_option maxRecDepth 100000 in
theorem m73 : Meets Try.prog 73 sp73 := by
  refine meets_of_owed (C := c60) ⟨tab_ok, fun f s h => by cases h⟩ (by kernel_rfl) (by kernel_rfl : Try.prog.funcs[73]? = some Try.f73) (by kernel_rfl) (by kernel_rfl) (by kernel_rfl) _ ?_
  rintro _ ⟨l, m, rfl, ⟨hl, hl4⟩, hm, hm4⟩
  refine ⟨fun _ => rfl, inv73 l m, ?_⟩
  show owed c60 (inv73 l m) Try.f73 [num4 l, num4 m] (i64 (cmpN (wv l) (wv m)))
  rw [vc73]
  simp (decide := true) only [eq_self, true_and, and_true, ne_eq, not_false_eq_true, Int.toNat_natCast]
  refine ⟨?_, ?_⟩
  · rw [List.drop_of_length_le (by rw [hl4]; decide), List.drop_of_length_le (by rw [hm4]; decide)]
  rintro i ⟨hi, he⟩
  obtain ⟨z, rfl⟩ : ∃ z : Nat, i = (z : Int) - 1 := ⟨(i + 1).toNat, by omega⟩
  rw [show ((z : Int) - 1 + 1) = (z : Int) by omega] at he ⊢
  simp only [Int.toNat_natCast] at he ⊢
  split
  · rename_i h
    have h := of_decide_eq_true h
    obtain ⟨u, rfl⟩ : ∃ u, z = u + 1 := ⟨z - 1, by omega⟩
    obtain ⟨x, ex, hx⟩ := okw_get hl (i := u) (by omega)
    obtain ⟨y, ey, hy⟩ := okw_get hm (i := u) (by omega)
    obtain ⟨A, hA, eA⟩ := vB_cut hl (by omega) ex
    obtain ⟨C, hC, eC⟩ := vB_cut hm (by omega) ey
    rw [he] at eA
    rw [show ((u + 1 : Nat) : Int) - 1 = (u : Int) by omega, wi (n := (u : Int) - 1) (by omega) (by omega), show ((u : Int) - 1 + 1) = (u : Int) by omega]
    simp only [Int.toNat_natCast, ex, ey]
    refine ⟨by omega, by omega, ?_⟩
    split
    · rename_i h2
      have h2 := of_decide_eq_true h2
      have := cmp_lt (C := C) (R := 18446744073709551616 * vB 18446744073709551616 (m.drop (u + 1))) hA (show x < y by omega)
      rw [← eA, ← eC] at this
      unfold cmpN
      rw [if_pos this]
    · rename_i h2
      have h2 := of_decide_eq_false h2
      refine ⟨by omega, by omega, ?_⟩
      split
      · rename_i h3
        have h3 := of_decide_eq_true h3
        have := cmp_lt (C := A) (R := 18446744073709551616 * vB 18446744073709551616 (m.drop (u + 1))) hC (show y < x by omega)
        rw [← eA, ← eC] at this
        unfold cmpN
        rw [if_neg (by omega), if_pos this]
      · rename_i h3
        have h3 := of_decide_eq_false h3
        have hd1 := List.drop_eq_getElem_cons (l := l) (i := u) (by omega)
        have hd2 := List.drop_eq_getElem_cons (l := m) (i := u) (by omega)
        have g1 : l[u]'(by omega) = l.getD u 0 := by simp [show u < l.length by omega]
        have g2 : m[u]'(by omega) = m.getD u 0 := by simp [show u < m.length by omega]
        have hdd : l.drop u = m.drop u := by rw [hd1, hd2, he, g1, g2, ex, ey, show x = y by omega]
        and_intros <;> first | exact hdd | omega | rfl | trivial
  · rename_i h
    have h := of_decide_eq_false h
    obtain rfl : z = 0 := by omega
    rw [List.drop_zero, List.drop_zero] at he
    subst he
    unfold cmpN
    rw [if_neg (by omega), if_neg (by omega)]

end Go.Proofs.Ytcdjhhepgkcabaa
