import Derived.Test.YtcdjhhepgkcabaaQ7
/- QuotTells, part 8: OfWide, Order, Minus, Rest and Common meet. -/
namespace Go.Proofs.Ytcdjhhepgkcabaa
open Go Go.Vg

theorem dg_mono {a b : Nat} (h : a ≤ b) : (dg a).length ≤ (dg b).length := by
  have h1 := vB_lt (b := 65536) (dg_ok b)
  rw [vl_dg] at h1
  exact dg_len _ _ (by omega)

set_option maxRecDepth 100000 in
theorem m56 : Meets Try.prog 56 sp56 := by
  refine meets_of_owed (C := c56) ⟨tab_ok, lkS_ok ⟨m61, trivial⟩⟩ (by kernel_rfl) (by kernel_rfl : Try.prog.funcs[56]? = some Try.f56) (by kernel_rfl) (by kernel_rfl) (by kernel_rfl) _ ?_
  rintro _ ⟨a, rfl, hw, hl⟩
  refine ⟨fun h => (by cases h), fun _ => none, ?_⟩
  show owed c56 (fun _ => none) Try.f56 [num8 a] (dgs (dg (wv a)))
  obtain ⟨x0, x1, x2, x3, x4, x5, x6, x7, rfl⟩ := eight hl
  rw [vc56]
  simp (decide := true) only [eq_self, true_and, and_true, ne_eq, not_false_eq_true]
  exact ⟨_, rfl, hw, by simp⟩

theorem vd_split (a i : Nat) : a / 65536 ^ i = 65536 * (a / 65536 ^ (i + 1)) + a / 65536 ^ i % 65536 := by
  rw [Nat.pow_succ, ← Nat.div_div_eq_div_mul, Nat.div_add_mod]

set_option maxRecDepth 100000 in
theorem m74 : Meets Try.prog 74 sp74 := by
  refine meets_of_owed (C := c74) ⟨tab_ok, lkS_ok ⟨m60, trivial⟩⟩ (by kernel_rfl) (by kernel_rfl : Try.prog.funcs[74]? = some Try.f74) (by kernel_rfl) (by kernel_rfl) (by kernel_rfl) _ ?_
  rintro _ ⟨l, m, rfl, ⟨hl, hls⟩, hm, hms⟩
  refine ⟨fun _ => rfl, inv74 l m, ?_⟩
  show owed c74 (inv74 l m) Try.f74 [dgs l, dgs m] (i64 (cmpN (vD l) (vD m)))
  rw [vc74]
  have hls : l.length ≤ 65536 := hls
  have hms : m.length ≤ 65536 := hms
  have hlo : lenOk l := by unfold lenOk; omega
  have hmo : lenOk m := by unfold lenOk; omega
  simp (decide := true) only [eq_self, true_and, and_true, ne_eq, not_false_eq_true, Int.toNat_natCast]
  obtain ⟨k, hk, hk1, hk2⟩ : ∃ k : Nat, (bif decide ((l.length : Int) < (m.length : Int)) then (m.length : Int) else (l.length : Int)) = (k : Int) ∧ l.length ≤ k ∧ m.length ≤ k ∧ k ≤ 65536 := by
    by_cases h : l.length < m.length
    · exact ⟨m.length, by rw [decide_eq_true (by omega), cond_true], by omega, by omega, by omega⟩
    · exact ⟨l.length, by rw [decide_eq_false (by omega), cond_false], by omega, by omega, by omega⟩
  obtain ⟨hk2, hk3⟩ := hk2
  rw [hk, wi (n := (k : Int) - 1) (by omega) (by omega), show (k : Int) - 1 + 1 = (k : Int) by omega]
  simp only [Int.toNat_natCast]
  refine ⟨⟨by omega, by rw [List.drop_of_length_le hk1, List.drop_of_length_le hk2]⟩, ?_⟩
  rintro i ⟨hi, he⟩
  obtain ⟨z, rfl⟩ : ∃ z : Nat, i = (z : Int) - 1 := ⟨(i + 1).toNat, by omega⟩
  rw [show ((z : Int) - 1 + 1) = (z : Int) by omega] at he ⊢
  simp only [Int.toNat_natCast] at he ⊢
  rw [vB_drop hl, vB_drop hm] at he
  split
  · rename_i h
    have h := of_decide_eq_true h
    obtain ⟨u, rfl⟩ : ∃ u, z = u + 1 := ⟨z - 1, by omega⟩
    rw [show ((u + 1 : Nat) : Int) - 1 = (u : Int) by omega, wi (n := (u : Int) - 1) (by omega) (by omega), show ((u : Int) - 1 + 1) = (u : Int) by omega, dig_nat hl, dig_nat hm]
    simp only [Int.toNat_natCast]
    have s1 := vd_split (vB 65536 l) u
    have s2 := vd_split (vB 65536 m) u
    rw [he] at s1
    clear he
    have hdd0 : vB 65536 l / 65536 ^ u = vB 65536 m / 65536 ^ u → vB 65536 (l.drop u) = vB 65536 (m.drop u) := fun h => by rw [vB_drop hl, vB_drop hm, h]
    have lt1 : vB 65536 l / 65536 ^ u < vB 65536 m / 65536 ^ u → vD l < vD m := fun h => Nat.lt_of_div_lt_div (c := 65536 ^ u) h
    have lt2 : vB 65536 m / 65536 ^ u < vB 65536 l / 65536 ^ u → vD m < vD l := fun h => Nat.lt_of_div_lt_div (c := 65536 ^ u) h
    generalize vB 65536 m / 65536 ^ (u + 1) = Q at s1 s2
    generalize vB 65536 l / 65536 ^ u = p at *
    generalize vB 65536 m / 65536 ^ u = q at *
    refine ⟨⟨l, _, rfl, hlo⟩, ⟨m, _, rfl, hmo⟩, ?_⟩
    split
    · rename_i h2
      have h2 := of_decide_eq_true h2
      have := lt1 (by omega)
      unfold cmpN
      rw [if_pos this]
    · rename_i h2
      have h2 := of_decide_eq_false h2
      split
      · rename_i h3
        have h3 := of_decide_eq_true h3
        have := lt2 (by omega)
        unfold cmpN
        rw [if_neg (by omega), if_pos this]
      · rename_i h3
        have h3 := of_decide_eq_false h3
        have hdd := hdd0 (by omega)
        and_intros <;> first | exact hdd | omega | rfl | trivial
  · rename_i h
    have h := of_decide_eq_false h
    obtain rfl : z = 0 := by omega
    rw [Nat.pow_zero, Nat.div_one, Nat.div_one] at he
    have he : vD l = vD m := he
    unfold cmpN
    rw [if_neg (by omega), if_neg (by omega)]

theorem sub_numD (P A C x y d e D : Nat) (hA : A < P) (hC : C < P) (hD : d < D) (hP : 0 < D)
    (hc : (y + bor A C ≤ x ∧ d + y + bor A C = x ∧ e = 0) ∨ (x < y + bor A C ∧ d + y + bor A C = x + D ∧ e = 1)) :
    (A + P * x + P * D - (C + P * y)) % (P * D) = (A + P - C) % P + P * d ∧ bor (A + P * x) (C + P * y) = e := by
  have hb : bor A C ≤ 1 := by unfold bor; split <;> omega
  have hAC : (A < C ∧ bor A C = 1 ∧ (A + P - C) % P = A + P - C) ∨ (C ≤ A ∧ bor A C = 0 ∧ (A + P - C) % P = A - C) := by
    rcases Nat.lt_or_ge A C with h | h
    · exact .inl ⟨h, if_pos h, Nat.mod_eq_of_lt (by omega)⟩
    · exact .inr ⟨h, if_neg (by omega), mod_one _ _ _ (.inr (by omega)) (by omega)⟩
  generalize bor A C = b at hb hAC hc
  have m1 : P * (d + 1) ≤ P * D := Nat.mul_le_mul_left P hD
  rw [Nat.mul_add, Nat.mul_one] at m1
  have hr : (A + P - C) % P < P := Nat.mod_lt _ (by omega)
  have lin : ∀ u v : Nat, u = v → P * u = P * v := fun u v h => by rw [h]
  have fin : ∀ s t : Nat, (s < t ↔ e = 1) → (e = 0 ∨ e = 1) → bor s t = e := by
    intro s t h1 h2
    unfold bor
    split
    · rename_i h; exact (h1.1 h).symm
    · rename_i h; rcases h2 with h2 | h2
      · exact h2.symm
      · exact absurd (h1.2 h2) h
  rcases hAC with ⟨h1, h2, h3⟩ | ⟨h1, h2, h3⟩ <;> rcases hc with ⟨c1, c2, c3⟩ | ⟨c1, c2, c3⟩
  all_goals
    have q := lin _ _ c2
    subst h2
    simp only [Nat.mul_add, Nat.mul_one, Nat.mul_zero, Nat.add_zero] at q
    rw [h3] at hr ⊢
    have hB : P ≤ P * D := Nat.le_mul_of_pos_right P hP
    generalize P * D = PB at *
    generalize P * x = Px at *
    generalize P * y = Py at *
    generalize P * d = Pd at *
    refine ⟨mod_one _ _ _ (by omega) (by omega), fin _ _ (by omega) (by omega)⟩

theorem okd_get {l : List Int} (h : okd l) {i : Nat} (hi : i < l.length) : ∃ n : Nat, l.getD i 0 = (n : Int) ∧ n < 65536 := by
  have := h _ (getD_mem hi)
  exact ⟨(l.getD i 0).toNat, by omega, by omega⟩

theorem take_dig {m : List Int} (hm : okd m) (i : Nat) : vB 65536 (m.take (i + 1)) = vB 65536 (m.take i) + 65536 ^ i * (vB 65536 m / 65536 ^ i % 65536) := by
  rw [vB_take hm, vB_take hm, Nat.pow_succ, Nat.mod_mul]

theorem sbD_step {l m : List Int} (hl : okd l) (hm : okd m) {i x : Nat} (hi : i < l.length) (ex : l.getD i 0 = (x : Int)) (hx : x < 65536) :
    (((x : Int) - ((vB 65536 m / 65536 ^ i % 65536 : Nat) : Int) - ((bor (vB 65536 (l.take i)) (vB 65536 (m.take i)) : Nat) : Int) < 0 →
      nB 65536 i (sbD l m i) ++ [(x : Int) - ((vB 65536 m / 65536 ^ i % 65536 : Nat) : Int) - ((bor (vB 65536 (l.take i)) (vB 65536 (m.take i)) : Nat) : Int) + 65536] = nB 65536 (i + 1) (sbD l m (i + 1)) ∧ bor (vB 65536 (l.take (i + 1))) (vB 65536 (m.take (i + 1))) = 1)) ∧
    ((0 ≤ (x : Int) - ((vB 65536 m / 65536 ^ i % 65536 : Nat) : Int) - ((bor (vB 65536 (l.take i)) (vB 65536 (m.take i)) : Nat) : Int) →
      nB 65536 i (sbD l m i) ++ [(x : Int) - ((vB 65536 m / 65536 ^ i % 65536 : Nat) : Int) - ((bor (vB 65536 (l.take i)) (vB 65536 (m.take i)) : Nat) : Int)] = nB 65536 (i + 1) (sbD l m (i + 1)) ∧ bor (vB 65536 (l.take (i + 1))) (vB 65536 (m.take (i + 1))) = 0)) := by
  have e1 := vB_take1 (b := 65536) (l := l) i hi
  rw [ex, Int.toNat_natCast] at e1
  have e2 := take_dig hm i
  have hA := vB_lt (b := 65536) (l := l.take i) fun z hz => hl z (List.mem_of_mem_take hz)
  rw [List.length_take, show min i l.length = i by omega] at hA
  have hC : vB 65536 (m.take i) < 65536 ^ i := by rw [vB_take hm]; exact Nat.mod_lt _ (Nat.pow_pos (by decide))
  have hy : vB 65536 m / 65536 ^ i % 65536 < 65536 := Nat.mod_lt _ (by decide)
  generalize vB 65536 m / 65536 ^ i % 65536 = y at e2 hy ⊢
  have hb : bor (vB 65536 (l.take i)) (vB 65536 (m.take i)) ≤ 1 := by unfold bor; split <;> omega
  have low : ∀ lo d : Nat, lo < 65536 ^ i → d < 65536 → nB 65536 (i + 1) (lo + 65536 ^ i * d) = nB 65536 i lo ++ [((d : Nat) : Int)] := by
    intro lo d h1 h2
    rw [nB_push, nB_low _ _ _ _ h1, Nat.add_mul_div_left _ _ (Nat.pow_pos (by decide)), Nat.div_eq_of_lt h1, Nat.zero_add, Nat.mod_eq_of_lt h2]
  have hlo : sbD l m i < 65536 ^ i := Nat.mod_lt _ (Nat.pow_pos (by decide))
  constructor
  · intro hneg
    obtain ⟨d, hd⟩ : ∃ d : Nat, (x : Int) - (y : Int) - ((bor (vB 65536 (l.take i)) (vB 65536 (m.take i)) : Nat) : Int) + 65536 = (d : Int) := ⟨((x : Int) - (y : Int) - ((bor (vB 65536 (l.take i)) (vB 65536 (m.take i)) : Nat) : Int) + 65536).toNat, by omega⟩
    obtain ⟨n1, n2⟩ := sub_numD (65536 ^ i) _ _ x y d 1 65536 hA hC (by omega) (by decide) (.inr ⟨by omega, by omega, rfl⟩)
    rw [← e1, ← e2] at n1 n2
    refine ⟨?_, n2⟩
    have : sbD l m (i + 1) = sbD l m i + 65536 ^ i * d := by
      unfold sbD
      rw [Nat.pow_succ]
      exact n1
    rw [hd, this, low _ _ hlo (by omega)]
  · intro hpos
    obtain ⟨d, hd⟩ : ∃ d : Nat, (x : Int) - (y : Int) - ((bor (vB 65536 (l.take i)) (vB 65536 (m.take i)) : Nat) : Int) = (d : Int) := ⟨((x : Int) - (y : Int) - ((bor (vB 65536 (l.take i)) (vB 65536 (m.take i)) : Nat) : Int)).toNat, by omega⟩
    obtain ⟨n1, n2⟩ := sub_numD (65536 ^ i) _ _ x y d 0 65536 hA hC (by omega) (by decide) (.inl ⟨by omega, by omega, rfl⟩)
    rw [← e1, ← e2] at n1 n2
    refine ⟨?_, n2⟩
    have : sbD l m (i + 1) = sbD l m i + 65536 ^ i * d := by
      unfold sbD
      rw [Nat.pow_succ]
      exact n1
    rw [hd, this, low _ _ hlo (by omega)]

theorem nB_okd (n v : Nat) : okd (nB 65536 n v) := by
  intro x hx
  induction n generalizing v with
  | zero => cases hx
  | succ n ih =>
    rw [nB, List.mem_cons] at hx
    rcases hx with rfl | hx
    · have := Nat.mod_lt v (y := 65536) (by decide)
      omega
    · exact ih _ hx

set_option maxRecDepth 100000 in
theorem m75 : Meets Try.prog 75 sp75 := by
  refine meets_of_owed (C := c75) ⟨tab_ok, lkS_ok ⟨m60, m62, trivial⟩⟩ (by kernel_rfl) (by kernel_rfl : Try.prog.funcs[75]? = some Try.f75) (by kernel_rfl) (by kernel_rfl) (by kernel_rfl) _ ?_
  rintro _ ⟨l, m, rfl, ⟨hl, hls⟩, ⟨hm, hms⟩, hle⟩
  refine ⟨fun h => (by cases h), inv75 l m, ?_⟩
  show owed c75 (inv75 l m) Try.f75 [dgs l, dgs m] (dgs (dg (vD l - vD m)))
  rw [vc75]
  have hls : l.length ≤ 65536 := hls
  have hms : m.length ≤ 65536 := hms
  have hmo : lenOk m := by unfold lenOk; omega
  simp (decide := true) only [eq_self, true_and, and_true, ne_eq, not_false_eq_true, Int.toNat_natCast, List.length_append, List.length_singleton, nB_length]
  refine ⟨by and_intros <;> first | rfl | omega | trivial, ?_⟩
  intro i hi
  split
  · rename_i h
    have h := of_decide_eq_true h
    obtain ⟨x, ex, hx⟩ := okd_get hl (i := i) (by omega)
    obtain ⟨s1, s2⟩ := sbD_step hl hm (i := i) (by omega) ex hx
    have hy : vB 65536 m / 65536 ^ i % 65536 < 65536 := Nat.mod_lt _ (by decide)
    have hb : bor (vB 65536 (l.take i)) (vB 65536 (m.take i)) ≤ 1 := by unfold bor; split <;> omega
    simp only [Int.toNat_natCast, ex]
    rw [dig_nat hm, show ((i : Int) + 1) = ((i + 1 : Nat) : Int) by omega, wi (n := ((i + 1 : Nat) : Int)) (by omega) (by omega)]
    simp only [Int.toNat_natCast]
    generalize vB 65536 m / 65536 ^ i % 65536 = y at *
    generalize bor (vB 65536 (l.take i)) (vB 65536 (m.take i)) = b at *
    rw [wi (n := (x : Int) - (y : Int)) (by omega) (by omega), wi (n := (x : Int) - (y : Int) - (b : Int)) (by omega) (by omega), wi (n := (x : Int) - (y : Int) - (b : Int) + 65536) (by omega) (by omega)]
    refine ⟨by omega, ⟨m, _, rfl, hmo⟩, ?_⟩
    split
    · rename_i h2
      have h2 := of_decide_eq_true h2
      obtain ⟨t1, t2⟩ := s1 h2
      rw [t1, t2]
      and_intros <;> first | omega | rfl | trivial
    · rename_i h2
      have h2 := of_decide_eq_false h2
      obtain ⟨t1, t2⟩ := s2 (by omega)
      rw [t1, t2]
      and_intros <;> first | omega | rfl | trivial
  · rename_i h
    have h := of_decide_eq_false h
    obtain rfl : i = l.length := by omega
    have hA := vB_lt (b := 65536) hl
    have hle' : vB 65536 m ≤ vB 65536 l := hle
    have e1 : l.take l.length = l := List.take_length
    have e2 : vB 65536 (m.take l.length) = vB 65536 m := by rw [vB_take hm, Nat.mod_eq_of_lt (Nat.lt_of_le_of_lt hle' hA)]
    have e : sbD l m l.length = vD l - vD m := by
      unfold sbD
      rw [e1]
      show (vB 65536 l + 65536 ^ l.length - vB 65536 (m.take l.length)) % 65536 ^ l.length = vB 65536 l - vB 65536 m
      rw [e2]
      generalize 65536 ^ l.length = P at *
      exact mod_one _ _ _ (.inr (by omega)) (by omega)
    rw [e, trim_eq (nB_okd _ _), vB_nB, Nat.mod_eq_of_lt (Nat.lt_of_le_of_lt (Nat.sub_le _ _) hA)]
    refine ⟨⟨_, rfl, by unfold lenOk; rw [nB_length]; omega⟩, rfl⟩

end Go.Proofs.Ytcdjhhepgkcabaa
