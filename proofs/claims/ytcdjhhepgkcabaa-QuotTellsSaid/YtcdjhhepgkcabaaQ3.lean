import Derived.Test.YtcdjhhepgkcabaaQ2
/- QuotTells, part 3: Shift of package limb meets. -/
namespace Go.Proofs.Ytcdjhhepgkcabaa
open Go Go.Vg

theorem B_pow (i : Nat) : 18446744073709551616 ^ i = 2 ^ (64 * i) := by
  rw [show (18446744073709551616 : Nat) = 2 ^ 64 by decide, ← Nat.pow_mul]
theorem wbit (V i t : Nat) : (V / 18446744073709551616 ^ i % 18446744073709551616).testBit t = (decide (t < 64) && V.testBit (64 * i + t)) := by
  rw [show V / 18446744073709551616 ^ i % 18446744073709551616 = V / 2 ^ (64 * i) % 2 ^ 64 by rw [B_pow], Nat.testBit_mod_two_pow, Nat.testBit_div_two_pow, Nat.add_comm]
theorem shl_bit (a k t : Nat) : (a * 2 ^ k % 18446744073709551616).testBit t = (decide (t < 64) && (decide (t ≥ k) && a.testBit (t - k))) := by
  rw [show a * 2 ^ k % 18446744073709551616 = a * 2 ^ k % 2 ^ 64 by rfl, Nat.testBit_mod_two_pow, Nat.mul_comm, Nat.testBit_two_pow_mul]

theorem left_word (V w j k : Nat) (hk : k < 64) :
    V * 2 ^ (64 * w + k) / 18446744073709551616 ^ (w + (j + 1)) % 18446744073709551616 = ((V / 18446744073709551616 ^ (j + 1) % 18446744073709551616) * 2 ^ k % 18446744073709551616) ||| ((V / 18446744073709551616 ^ j % 18446744073709551616) / 2 ^ (64 - k)) := by
  apply Nat.eq_of_testBit_eq
  intro t
  rw [wbit, Nat.testBit_or, shl_bit, Nat.testBit_div_two_pow, wbit, wbit, Nat.mul_comm V, Nat.testBit_two_pow_mul]
  by_cases h1 : t < 64
  · by_cases h2 : t < k
    · rw [show 64 * (w + (j + 1)) + t - (64 * w + k) = 64 * j + (t + (64 - k)) by omega]
      simp [h1, show ¬ k ≤ t by omega, show t + (64 - k) < 64 by omega, show 64 * w + k ≤ 64 * (w + (j + 1)) + t by omega]
    · rw [show 64 * (w + (j + 1)) + t - (64 * w + k) = 64 * (j + 1) + (t - k) by omega]
      simp [h1, show k ≤ t by omega, show ¬ t + (64 - k) < 64 by omega, show t - k < 64 by omega, show 64 * w + k ≤ 64 * (w + (j + 1)) + t by omega]
  · simp [h1, show ¬ t + (64 - k) < 64 by omega]
theorem left_word0 (V w k : Nat) (hk : k < 64) :
    V * 2 ^ (64 * w + k) / 18446744073709551616 ^ w % 18446744073709551616 = (V / 18446744073709551616 ^ 0 % 18446744073709551616) * 2 ^ k % 18446744073709551616 := by
  apply Nat.eq_of_testBit_eq
  intro t
  rw [wbit, shl_bit, wbit, Nat.mul_comm V, Nat.testBit_two_pow_mul]
  by_cases h1 : t < 64
  · by_cases h2 : t < k
    · simp [h1, show ¬ k ≤ t by omega]
    · rw [show 64 * w + t - (64 * w + k) = 64 * 0 + (t - k) by omega]
      simp [h1, show k ≤ t by omega, show t - k < 64 by omega]
  · simp [h1]
theorem right_word (V w p k : Nat) (hk : k < 64) :
    V / 2 ^ (64 * w + k) / 18446744073709551616 ^ p % 18446744073709551616 = ((V / 18446744073709551616 ^ (w + p) % 18446744073709551616) / 2 ^ k) ||| ((V / 18446744073709551616 ^ (w + p + 1) % 18446744073709551616) * 2 ^ (64 - k) % 18446744073709551616) := by
  apply Nat.eq_of_testBit_eq
  intro t
  rw [wbit, Nat.testBit_or, shl_bit, Nat.testBit_div_two_pow, Nat.testBit_div_two_pow, wbit, wbit]
  by_cases h1 : t < 64
  · by_cases h2 : t + k < 64
    · rw [show 64 * p + t + (64 * w + k) = 64 * (w + p) + (t + k) by omega]
      simp [h1, h2, show ¬ 64 - k ≤ t by omega]
    · rw [show 64 * p + t + (64 * w + k) = 64 * (w + p + 1) + (t - (64 - k)) by omega]
      simp [h1, h2, show 64 - k ≤ t by omega, show t - (64 - k) < 64 by omega]
  · simp [h1, show ¬ t + k < 64 by omega]
theorem right_word3 (V w p k : Nat) (hk : k < 64) (h : w + p = 3) (hV : V < 2 ^ 256) :
    V / 2 ^ (64 * w + k) / 18446744073709551616 ^ p % 18446744073709551616 = (V / 18446744073709551616 ^ (w + p) % 18446744073709551616) / 2 ^ k := by
  rw [right_word V w p k hk, h]
  have : V / 18446744073709551616 ^ (3 + 1) = 0 := Nat.div_eq_of_lt hV
  rw [this]
  simp

theorem words_step (v i : Nat) (C : Int) (hi : i < 4) (h : C = ((v / 18446744073709551616 ^ i % 18446744073709551616 : Nat) : Int)) :
    (nB 18446744073709551616 i v ++ List.replicate (4 - i) 0).set i C = nB 18446744073709551616 (i + 1) v ++ List.replicate (4 - (i + 1)) 0 := by
  have e := set_rep (nB 18446744073709551616 i v) (4 - (i + 1)) C
  rw [nB_length] at e
  rw [show 4 - i = 4 - (i + 1) + 1 by omega, e, h, nB_push]
theorem get_set (L : List Int) (i : Nat) (A : Int) (h : i < L.length) : (L.set i A).getD i 0 = A := by
  simp [List.getD_eq_getElem?_getD, h]
theorem nB_zeros (b n v : Nat) (h : v % b ^ n = 0) : nB b n v = List.replicate n 0 := by
  rw [← nB_mod, h]
  clear h
  induction n with
  | zero => rfl
  | succ n ih => rw [nB, List.replicate_succ, Nat.zero_div, ih]; simp

theorem ext_rep (v n m : Nat) (h : v < 18446744073709551616 ^ n) : nB 18446744073709551616 (n + m) v = nB 18446744073709551616 n v ++ List.replicate m 0 := by
  induction m with
  | zero => simp
  | succ m ih =>
    have : v / 18446744073709551616 ^ (n + m) = 0 := Nat.div_eq_of_lt (Nat.lt_of_lt_of_le h (Nat.pow_le_pow_right (by decide) (by omega)))
    rw [← Nat.add_assoc, nB_push, ih, this, List.append_assoc, List.replicate_succ']
    rfl

theorem word_or (k : IntKind) (a b : Nat) (h : k = .u64) (ha : a < 18446744073709551616) (hb : b < 18446744073709551616) : ior k (a : Int) (b : Int) = ((a ||| b : Nat) : Int) := by
  subst h
  exact iorN .u64 ha hb

set_option maxRecDepth 100000 in
theorem m71 : Meets Try.prog 71 sp71 := by
  refine meets_of_owed (C := c60) ⟨tab_ok, fun f s h => by cases h⟩ (by kernel_rfl) (by kernel_rfl : Try.prog.funcs[71]? = some Try.f71) (by kernel_rfl) (by kernel_rfl) (by kernel_rfl) _ ?_
  rintro _ ⟨l, n, rfl, ⟨hl, hl4⟩, hn1, hn2⟩
  refine ⟨fun _ => rfl, inv71 l n, ?_⟩
  show owed c60 (inv71 l n) Try.f71 [num4 l, i64 n] (num4 (nB 18446744073709551616 4 (shf (wv l) n)))
  rw [vc71]
  have hV := wv_lt hl hl4
  have hget : ∀ i, i < 4 → l.getD i 0 = ((wv l / 18446744073709551616 ^ i % 18446744073709551616 : Nat) : Int) := fun i hi => vB_get hl (by omega)
  have hw : ∀ i, wv l / 18446744073709551616 ^ i % 18446744073709551616 < 18446744073709551616 := fun i => Nat.mod_lt _ (by decide)
  simp (decide := true) only [eq_self, true_and, and_true, ne_eq, not_false_eq_true, Int.toNat_natCast]
  have zer : ∀ v : Nat, v % 18446744073709551616 ^ 4 = 0 → num4 [0, 0, 0, 0] = num4 (nB 18446744073709551616 4 v) := fun v h => by rw [nB_zeros _ _ _ h]; rfl
  split
  · rename_i h
    have h := of_decide_eq_true h
    refine zer _ ?_
    unfold shf
    rw [if_pos (by omega), B_pow, show n.toNat = 64 * 4 + (n.toNat - 256) by omega, Nat.pow_add, ← Nat.mul_assoc, Nat.mul_right_comm, Nat.mul_mod_left]
  rename_i h
  have h := of_decide_eq_false h
  split
  · rename_i h1
    have h1 := of_decide_eq_true h1
    refine zer _ ?_
    unfold shf
    rw [if_neg (by omega), Nat.div_eq_of_lt (Nat.lt_of_lt_of_le hV (Nat.pow_le_pow_right (by decide) (by omega)))]
  rename_i h1
  have h1 := of_decide_eq_false h1
  split
  · rename_i h2
    have h2 := of_decide_eq_true h2
    obtain ⟨N, rfl⟩ : ∃ N : Nat, n = (N : Int) := ⟨n.toNat, by omega⟩
    have e1 : (N : Int).tdiv 64 = ((N / 64 : Nat) : Int) := tdivN N 64
    have e2 : (N : Int).tmod 64 = ((N % 64 : Nat) : Int) := tmodN N 64
    have es : shf (wv l) (N : Int) = wv l * 2 ^ (64 * (N / 64) + N % 64) := by
      unfold shf
      rw [if_pos (by omega), Int.toNat_natCast, Nat.div_add_mod]
    have hk : N % 64 < 64 := Nat.mod_lt _ (by decide)
    have hw3 : N / 64 < 4 := by omega
    have e0 : (N : Int).toNat = N := Int.toNat_natCast N
    rw [e1, e2, es, e0]
    generalize N / 64 = w at *
    generalize N % 64 = k at *
    rw [wi (n := ((w : Nat) : Int)) (by omega) (by omega), wu (n := ((k : Nat) : Int)) (by omega) (by omega), show (64 : Int) - ((k : Nat) : Int) = ((64 - k : Nat) : Int) by omega, wu (n := ((64 - k : Nat) : Int)) (by omega) (by omega)]
    simp only [Int.toNat_natCast]
    refine ⟨?_, ?_⟩
    · have z0 : wv l * 2 ^ (64 * w + k) % 18446744073709551616 ^ w = 0 := by
        rw [B_pow, Nat.pow_add, Nat.mul_left_comm, Nat.mul_mod_right]
      rw [nB_zeros _ _ _ z0, List.replicate_append_replicate, show w + (4 - w) = 4 by omega]
      and_intros <;> first | rfl | omega | trivial
    rintro i ⟨hi, hi4⟩
    split
    · rename_i h3
      have h3 := of_decide_eq_true h3
      obtain ⟨j, rfl⟩ : ∃ j, i = w + j := ⟨i - w, by omega⟩
      have hlen : w + j < (nB 18446744073709551616 (w + j) (wv l * 2 ^ (64 * w + k)) ++ List.replicate (4 - (w + j)) 0).length := by rw [List.length_append, nB_length, List.length_replicate]; omega
      rw [show ((w + j : Nat) : Int) - ((w : Nat) : Int) = ((j : Nat) : Int) by omega, wi (n := ((j : Nat) : Int)) (by omega) (by omega), show ((w + j : Nat) : Int) + 1 = ((w + j + 1 : Nat) : Int) by omega, wi (n := ((w + j + 1 : Nat) : Int)) (by omega) (by omega)]
      have wj : IntKind.i64.wrap (((j : Nat) : Int) - 1) = ((j : Nat) : Int) - 1 := wi (by omega) (by omega)
      rw [wj]
      simp only [Int.toNat_natCast]
      rw [hget j (by omega), ishlN .u64 (by simp only [IntKind.bits]; omega), wN64, get_set _ _ _ hlen]
      split
      · rename_i h4
        have h4 := of_decide_eq_true h4
        obtain ⟨q, rfl⟩ : ∃ q, j = q + 1 := ⟨j - 1, by omega⟩
        rw [show ((q + 1 : Nat) : Int) - 1 = ((q : Nat) : Int) by omega]
        simp only [Int.toNat_natCast]
        rw [hget q (by omega), ishrN .u64 (by simp only [IntKind.bits]; omega), word_or _ _ _ rfl (Nat.mod_lt _ (by decide)) (Nat.lt_of_le_of_lt (Nat.div_le_self _ _) (hw q)), List.set_set,
          words_step (wv l * 2 ^ (64 * w + k)) (w + (q + 1)) _ (by omega) (by rw [left_word _ _ _ _ hk])]
        and_intros <;> first | omega | rfl | trivial
      · rename_i h4
        have h4 := of_decide_eq_false h4
        obtain rfl : j = 0 := by omega
        rw [words_step (wv l * 2 ^ (64 * w + k)) (w + 0) _ (by omega) (by rw [Nat.add_zero, left_word0 _ _ _ hk])]
        and_intros <;> first | omega | rfl | trivial
    · rename_i h3
      have h3 := of_decide_eq_false h3
      obtain rfl : i = 4 := by omega
      rw [Nat.sub_self, List.replicate_zero, List.append_nil]
  · rename_i h2
    have h2 := of_decide_eq_false h2
    obtain ⟨N, hN⟩ : ∃ N : Nat, n = -(N : Int) := ⟨(-n).toNat, by omega⟩
    have e1 : (N : Int).tdiv 64 = ((N / 64 : Nat) : Int) := tdivN N 64
    have e2 : (N : Int).tmod 64 = ((N % 64 : Nat) : Int) := tmodN N 64
    have es : shf (wv l) n = wv l / 2 ^ (64 * (N / 64) + N % 64) := by
      unfold shf
      rw [if_neg (by omega), Nat.div_add_mod, show (-n).toNat = N by omega]
    have hk : N % 64 < 64 := Nat.mod_lt _ (by decide)
    have hw3 : N / 64 < 4 := by omega
    have e0 : (-n).toNat = N := by omega
    have en : IntKind.i64.wrap (0 - n) = (N : Int) := by rw [wi (by omega) (by omega)]; omega
    rw [en, e1, e2, es, e0]
    clear en e0 es
    generalize N / 64 = w at *
    generalize N % 64 = k at *
    rw [wi (n := ((w : Nat) : Int)) (by omega) (by omega), wu (n := ((k : Nat) : Int)) (by omega) (by omega), show (64 : Int) - ((k : Nat) : Int) = ((64 - k : Nat) : Int) by omega, wu (n := ((64 - k : Nat) : Int)) (by omega) (by omega)]
    simp only [Int.toNat_natCast, Nat.sub_self]
    refine ⟨?_, ?_⟩
    · and_intros <;> first | rfl | omega | trivial
    rintro i ⟨hi, hi4⟩
    split
    · rename_i h3
      have h3 := of_decide_eq_true h3
      obtain ⟨p, rfl⟩ : ∃ p, i = w + p := ⟨i - w, by omega⟩
      have hlen : p < (nB 18446744073709551616 p (wv l / 2 ^ (64 * w + k)) ++ List.replicate (4 - p) 0).length := by rw [List.length_append, nB_length, List.length_replicate]; omega
      rw [show ((w + p : Nat) : Int) - ((w : Nat) : Int) = ((p : Nat) : Int) by omega, wi (n := ((p : Nat) : Int)) (by omega) (by omega), show ((w + p : Nat) : Int) + 1 = ((w + p + 1 : Nat) : Int) by omega, wi (n := ((w + p + 1 : Nat) : Int)) (by omega) (by omega)]
      simp only [Int.toNat_natCast]
      rw [show w + p - w = p by omega, show w + p + 1 - w = p + 1 by omega, hget (w + p) (by omega), ishrN .u64 (by simp only [IntKind.bits]; omega), get_set _ _ _ hlen]
      split
      · rename_i h4
        have h4 := of_decide_eq_true h4
        rw [hget (w + p + 1) (by omega), ishlN .u64 (by simp only [IntKind.bits]; omega), wN64, word_or _ _ _ rfl (Nat.lt_of_le_of_lt (Nat.div_le_self _ _) (hw _)) (Nat.mod_lt _ (by decide)), List.set_set,
          words_step (wv l / 2 ^ (64 * w + k)) p _ (by omega) (by rw [right_word _ _ _ _ hk])]
        and_intros <;> first | omega | rfl | trivial
      · rename_i h4
        have h4 := of_decide_eq_false h4
        rw [words_step (wv l / 2 ^ (64 * w + k)) p _ (by omega) (by rw [right_word3 _ _ _ _ hk (by omega) hV])]
        and_intros <;> first | omega | rfl | trivial
    · rename_i h3
      have h3 := of_decide_eq_false h3
      obtain rfl : i = 4 := by omega
      have hlt : wv l / 2 ^ (64 * w + k) < 18446744073709551616 ^ (4 - w) := by
        rw [B_pow]
        refine Nat.div_lt_of_lt_mul (Nat.lt_of_lt_of_le hV ?_)
        rw [← Nat.pow_add]
        exact Nat.pow_le_pow_right (by decide) (by omega)
      have := ext_rep (wv l / 2 ^ (64 * w + k)) (4 - w) w hlt
      rw [show 4 - (4 - w) = w by omega, ← this, show 4 - w + w = 4 by omega]

end Go.Proofs.Ytcdjhhepgkcabaa
