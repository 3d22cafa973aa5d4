import Derived.Test.YtcdjhhepgkcabaaQ4
/- QuotTells, part 5: DivMod and Mod meet. -/
namespace Go.Proofs.Ytcdjhhepgkcabaa
open Go Go.Vg

theorem or_words (n v i : Nat) (h : i < 64 * n) :
    (nB 18446744073709551616 n v).set (i / 64) ((v / 18446744073709551616 ^ (i / 64) % 18446744073709551616 ||| 2 ^ (i % 64) : Nat) : Int) = nB 18446744073709551616 n (v ||| 2 ^ i) := by
  have hlen : ((nB 18446744073709551616 n v).set (i / 64) ((v / 18446744073709551616 ^ (i / 64) % 18446744073709551616 ||| 2 ^ (i % 64) : Nat) : Int)).length = n := by rw [List.length_set, nB_length]
  apply List.ext_getElem
  · rw [hlen, nB_length]
  · intro p h1 h2
    have hp : p < n := by rw [nB_length] at h2; exact h2
    have e2 : (nB 18446744073709551616 n (v ||| 2 ^ i))[p] = (((v ||| 2 ^ i) / 18446744073709551616 ^ p % 18446744073709551616 : Nat) : Int) := by
      have := nB_get 18446744073709551616 n (v ||| 2 ^ i) p hp
      rw [List.getD_eq_getElem?_getD, List.getElem?_eq_getElem h2] at this
      exact this
    have e3 : (nB 18446744073709551616 n v)[p]'(by rw [nB_length]; exact hp) = ((v / 18446744073709551616 ^ p % 18446744073709551616 : Nat) : Int) := by
      have := nB_get 18446744073709551616 n v p hp
      rw [List.getD_eq_getElem?_getD, List.getElem?_eq_getElem (by rw [nB_length]; exact hp)] at this
      exact this
    rw [e2, List.getElem_set]
    by_cases hpi : i / 64 = p
    · subst hpi
      rw [if_pos rfl]
      congr 1
      apply Nat.eq_of_testBit_eq
      intro t
      rw [Nat.testBit_or, wbit, wbit, Nat.testBit_or, Nat.testBit_two_pow, Nat.testBit_two_pow]
      by_cases h3 : t < 64
      · by_cases h4 : i % 64 = t
        · have h5 : i = 64 * (i / 64) + t := by omega
          rw [decide_eq_true h4, decide_eq_true h5]
          simp [h3]
        · have h5 : ¬ i = 64 * (i / 64) + t := by omega
          rw [decide_eq_false h4, decide_eq_false h5]
          simp
      · have h4 : ¬ i % 64 = t := by omega
        rw [decide_eq_false h4, decide_eq_false h3]
        simp
    · rw [if_neg hpi, e3]
      congr 1
      apply Nat.eq_of_testBit_eq
      intro t
      rw [wbit, wbit, Nat.testBit_or, Nat.testBit_two_pow]
      by_cases h3 : t < 64
      · have h5 : ¬ i = 64 * p + t := by omega
        rw [decide_eq_false h5]
        simp
      · rw [decide_eq_false h3]
        simp

theorem set_get (L : List Int) (i : Nat) (h : i < L.length) : L.set i (L.getD i 0) = L := by
  apply List.ext_getElem
  · rw [List.length_set]
  · intro p h1 h2
    rw [List.getElem_set]
    split
    · rename_i e
      subst e
      simp [List.getD_eq_getElem?_getD, h]
    · rfl

theorem bit_of {a : List Int} (ha : okw a) (ha8 : a.length = 8) (i : Nat) (hi : i < 512) :
    iand .u64 (ishr .u64 (a.getD (i / 64) 0) ((i % 64 : Nat) : Int)) 1 = ((wv a / 2 ^ i % 2 : Nat) : Int) := by
  have hg := vB_get (b := 18446744073709551616) ha (i := i / 64) (by omega)
  have hs := sub_at 2 64 (wv a) i (by decide)
  rw [show (2 ^ 64 : Nat) = 18446744073709551616 by decide] at hs
  have hlt : vB 18446744073709551616 a / 18446744073709551616 ^ (i / 64) % 18446744073709551616 / 2 ^ (i % 64) < kb .u64 := Nat.lt_of_le_of_lt (Nat.div_le_self _ _) (Nat.mod_lt _ (by decide))
  rw [hg, ishrN .u64 (by simp only [IntKind.bits]; omega), show (1 : Int) = ((1 : Nat) : Int) from rfl, iandN .u64 hlt (by decide), Nat.and_one_is_mod]
  exact congrArg _ hs

theorem low_or (R b : Nat) (hb : b < 2) :
    (nB 18446744073709551616 4 (R * 2 ^ 1)).set 0 (ior .u64 ((nB 18446744073709551616 4 (R * 2 ^ 1)).getD 0 0) ((b : Nat) : Int)) = nB 18446744073709551616 4 (2 * R + b) := by
  have hg := nB_get 18446744073709551616 4 (R * 2 ^ 1) 0 (by decide)
  have e1 : R * 2 ^ 1 = 2 * R := by rw [Nat.pow_one, Nat.mul_comm]
  rw [e1] at hg ⊢
  obtain rfl | rfl : b = 0 ∨ b = 1 := by omega
  · rw [hg, word_or _ _ _ rfl (Nat.mod_lt _ (by decide)) (by decide), Nat.or_zero, ← hg, set_get _ _ (by rw [nB_length]; decide)]
    rfl
  · have := or_words 4 (2 * R) 0 (by decide)
    have e : 2 * R ||| 1 = 2 * R + 1 := (Nat.two_pow_add_eq_or_of_lt (i := 1) (b := 1) (by decide) R).symm
    rw [hg, word_or _ _ _ rfl (Nat.mod_lt _ (by decide)) (by decide), ← e]
    exact this

theorem q_or (Q i : Nat) (hi : i < 512) :
    (nB 18446744073709551616 8 (Q * 2 ^ (i + 1))).set (i / 64) (ior .u64 ((nB 18446744073709551616 8 (Q * 2 ^ (i + 1))).getD (i / 64) 0) (ishl .u64 1 ((i % 64 : Nat) : Int))) = nB 18446744073709551616 8 ((2 * Q + 1) * 2 ^ i) := by
  have hg := nB_get 18446744073709551616 8 (Q * 2 ^ (i + 1)) (i / 64) (by omega)
  have hk : 2 ^ (i % 64) < 18446744073709551616 := by
    have : 2 ^ (i % 64) ≤ 2 ^ 63 := Nat.pow_le_pow_right (by decide) (by omega)
    omega
  have e1 : ishl .u64 1 ((i % 64 : Nat) : Int) = ((2 ^ (i % 64) : Nat) : Int) := by
    rw [show (1 : Int) = ((1 : Nat) : Int) from rfl, ishlN .u64 (by simp only [IntKind.bits]; omega), Nat.one_mul, wN64, Nat.mod_eq_of_lt hk]
  have e2 : (2 * Q + 1) * 2 ^ i = Q * 2 ^ (i + 1) ||| 2 ^ i := by
    have := Nat.two_pow_add_eq_or_of_lt (i := i + 1) (b := 2 ^ i) (Nat.pow_lt_pow_right (by decide) (by omega)) Q
    rw [Nat.mul_comm Q, ← this, Nat.add_mul, Nat.one_mul, Nat.pow_succ, Nat.mul_right_comm, Nat.mul_comm 2 (2 ^ i)]
  rw [hg, e1, word_or _ _ _ rfl (Nat.mod_lt _ (by decide)) hk, or_words 8 _ i (by omega), ← e2]

theorem div_step (A M i : Nat) (hM : 0 < M) :
    (2 * (A / 2 ^ (i + 1) % M) + A / 2 ^ i % 2 < M ∧ A / 2 ^ i % M = 2 * (A / 2 ^ (i + 1) % M) + A / 2 ^ i % 2 ∧ A / 2 ^ i / M = 2 * (A / 2 ^ (i + 1) / M)) ∨
    (M ≤ 2 * (A / 2 ^ (i + 1) % M) + A / 2 ^ i % 2 ∧ A / 2 ^ i % M = 2 * (A / 2 ^ (i + 1) % M) + A / 2 ^ i % 2 - M ∧ A / 2 ^ i / M = 2 * (A / 2 ^ (i + 1) / M) + 1) := by
  have e : A / 2 ^ (i + 1) = A / 2 ^ i / 2 := by rw [Nat.pow_succ, Nat.div_div_eq_div_mul]
  rw [e]
  generalize A / 2 ^ i = a
  have h1 := Nat.div_add_mod (a / 2) M
  have h2 := Nat.div_add_mod a 2
  have hr := Nat.mod_lt (a / 2) hM
  generalize a / 2 / M = Q at h1 ⊢
  generalize a / 2 % M = R at h1 hr ⊢
  have h3 : a = M * (2 * Q) + (2 * R + a % 2) := by
    rw [Nat.mul_left_comm]
    omega
  have hb : a % 2 < 2 := Nat.mod_lt _ (by decide)
  generalize a % 2 = b at h3 hb ⊢
  rcases Nat.lt_or_ge (2 * R + b) M with h | h
  · left
    refine ⟨h, ?_, ?_⟩
    · rw [h3, Nat.mul_add_mod, Nat.mod_eq_of_lt h]
    · rw [h3, Nat.mul_add_div hM, Nat.div_eq_of_lt h, Nat.add_zero]
  · right
    have h4 : a = M * (2 * Q + 1) + (2 * R + b - M) := by
      rw [Nat.mul_add, Nat.mul_one]
      omega
    have h5 : 2 * R + b - M < M := by omega
    refine ⟨h, ?_, ?_⟩
    · rw [h4, Nat.mul_add_mod, Nat.mod_eq_of_lt h5]
    · rw [h4, Nat.mul_add_div hM, Nat.div_eq_of_lt h5, Nat.add_zero]

theorem wv_zero {m : List Int} (hm : okw m) (hm4 : m.length = 4) : eqB m [0, 0, 0, 0] = decide (wv m = 0) := by
  rw [eqB_eq, Bool.eq_iff_iff, decide_eq_true_iff, decide_eq_true_iff]
  constructor
  · rintro rfl
    rfl
  · intro h
    have := nB_vB (b := 18446744073709551616) hm
    rw [hm4] at this
    have h' : vB 18446744073709551616 m = 0 := h
    rw [← this, h']
    rfl

theorem wv_nB (v : Nat) : vB 18446744073709551616 (nB 18446744073709551616 4 v) = v % 2 ^ 256 := vB_nB _ _ _
theorem nB_okw (n v : Nat) : okw (nB 18446744073709551616 n v) := by
  intro x hx
  induction n generalizing v with
  | zero => cases hx
  | succ n ih =>
    rw [nB, List.mem_cons] at hx
    rcases hx with rfl | hx
    · have := Nat.mod_lt v (y := 18446744073709551616) (by decide)
      omega
    · exact ih _ hx

theorem dif_ge {X M : Nat} (h1 : M ≤ X) (h2 : X < 2 * M) (h3 : M < 2 ^ 256) : dif (X % 2 ^ 256) M = X - M := by
  unfold dif
  generalize (2 : Nat) ^ 256 = P at *
  rcases Nat.lt_or_ge X P with h | h
  · rw [Nat.mod_eq_of_lt h]
    exact mod_one _ _ _ (.inr (by omega)) (by omega)
  · have e : X % P = X - P := mod_one _ _ _ (.inr (by omega)) (by omega)
    rw [e]
    exact mod_one _ _ _ (.inl (by omega)) (by omega)

set_option maxRecDepth 100000 in
theorem m52 : Meets Try.prog 52 sp52 := by
  refine meets_of_owed (C := c52) ⟨tab_ok, lkS_ok ⟨m71, m72, trivial⟩⟩ (by kernel_rfl) (by kernel_rfl : Try.prog.funcs[52]? = some Try.f52) (by kernel_rfl) (by kernel_rfl) (by kernel_rfl) _ ?_
  rintro _ ⟨a, m, rfl, ⟨ha, ha8⟩, hm, hm4⟩
  refine ⟨fun _ => rfl, inv52 a m, ?_⟩
  show owed c52 (inv52 a m) Try.f52 [num8 a, num4 m] (.tup [num8 (nB 18446744073709551616 8 (dvq (wv a) (wv m))), num4 (nB 18446744073709551616 4 (dvr (wv a) (wv m))), i64n (dve (wv m))])
  rw [vc52]
  have hA : wv a < 2 ^ 512 := by
    have := vB_lt (b := 18446744073709551616) ha
    rw [ha8, B_pow, show 64 * 8 = 512 from rfl] at this
    exact this
  have hMlt := wv_lt hm hm4
  rw [wv_zero hm hm4]
  simp (decide := true) only [eq_self, true_and, and_true, ne_eq, not_false_eq_true, Int.toNat_natCast]
  split
  · rename_i h
    have h := of_decide_eq_true h
    simp only [dvq, dvr, dve, h, Nat.div_zero, if_true]
    rfl
  rename_i h
  have h := of_decide_eq_false h
  have hM : 0 < wv m := by omega
  refine ⟨?_, ?_⟩
  · have e : ∀ n, n = 512 → wv a / 2 ^ n = 0 := fun n hn => by rw [hn]; exact Nat.div_eq_of_lt hA
    have e2 := e (511 + 1 : Int).toNat rfl
    rw [e2, Nat.zero_div, Nat.zero_mul, Nat.zero_mod]
    and_intros <;> first | rfl | omega | trivial
  intro j hj
  split
  · rename_i h1
    have h1 := of_decide_eq_true h1
    obtain ⟨i, rfl⟩ : ∃ i, j = i + 1 := ⟨j - 1, by omega⟩
    have e1 : (i : Int).tdiv 64 = ((i / 64 : Nat) : Int) := tdivN i 64
    have e2 : (i : Int).tmod 64 = ((i % 64 : Nat) : Int) := tmodN i 64
    rw [show ((i + 1 : Nat) : Int) - 1 = (i : Int) by omega, e1, e2, wi (n := ((i / 64 : Nat) : Int)) (by omega) (by omega), wu (n := ((i % 64 : Nat) : Int)) (by omega) (by omega), wi (n := (i : Int) - 1) (by omega) (by omega), show (i : Int) - 1 + 1 = (i : Int) by omega]
    simp only [Int.toNat_natCast]
    rw [bit_of ha ha8 i (by omega)]
    have hst := div_step (wv a) (wv m) i hM
    have hRm := Nat.mod_lt (wv a / 2 ^ (i + 1)) hM
    have hbl : wv a / 2 ^ i % 2 < 2 := Nat.mod_lt _ (by decide)
    have hq := q_or (wv a / 2 ^ (i + 1) / wv m) i (by omega)
    have hq2 : wv a / 2 ^ (i + 1) / wv m * 2 ^ (i + 1) = 2 * (wv a / 2 ^ (i + 1) / wv m) * 2 ^ i := by
      rw [Nat.pow_succ, Nat.mul_comm (2 ^ i) 2, ← Nat.mul_assoc, Nat.mul_comm _ 2]
    generalize wv a / 2 ^ (i + 1) % wv m = R at *
    generalize wv a / 2 ^ (i + 1) / wv m = Q at *
    generalize wv a / 2 ^ i % 2 = b at *
    have hR : vB 18446744073709551616 (nB 18446744073709551616 4 R) = R := by rw [wv_nB, Nat.mod_eq_of_lt (by omega)]
    have hs : shf R 1 = R * 2 ^ 1 := rfl
    rw [hR, hs, low_or R b hbl, wv_nB, hq]
    have htop : ishr .u64 ((nB 18446744073709551616 4 R).getD 3 0) 63 = ((R / 2 ^ 255 : Nat) : Int) := by
      rw [nB_get _ _ _ _ (by decide), show (63 : Int) = ((63 : Nat) : Int) from rfl, ishrN .u64 (by decide)]
      congr 1
      have : R / 18446744073709551616 ^ 3 % 18446744073709551616 = R / 18446744073709551616 ^ 3 := Nat.mod_eq_of_lt (Nat.div_lt_of_lt_mul (by omega))
      rw [this, Nat.div_div_eq_div_mul]
    rw [htop]
    have hok1 : ∃ (l : List Int) (n : Int), [num4 (nB 18446744073709551616 4 R), D.val (Value.int IntKind.i64 1)] = [num4 l, D.val (Value.int IntKind.i64 n)] ∧ (okw l ∧ l.length = 4) ∧ i64ok n := ⟨_, 1, rfl, ⟨nB_okw _ _, nB_length _ _ _⟩, by unfold i64ok; omega⟩
    have hok2 : ∃ (l m_1 : List Int), [num4 (nB 18446744073709551616 4 (2 * R + b)), num4 m] = [num4 l, num4 m_1] ∧ (okw l ∧ l.length = 4) ∧ okw m_1 ∧ m_1.length = 4 := ⟨_, _, rfl, ⟨nB_okw _ _, nB_length _ _ _⟩, hm, hm4⟩
    refine ⟨hok1, by omega, by omega, hok2, ?_⟩
    split
    · rename_i h2
      have h2 : ((R / 2 ^ 255 : Nat) : Int) = 1 := by simpa using h2
      have h3 : 2 ^ 255 ≤ R := by omega
      have hge : wv m ≤ 2 * R + b := by omega
      rcases hst with ⟨c1, c2, c3⟩ | ⟨c1, c2, c3⟩
      · omega
      · rw [dif_ge hge (by omega) hMlt, c2, c3]
        and_intros <;> first | omega | rfl | trivial
    · rename_i h2
      have h2 : ¬ ((R / 2 ^ 255 : Nat) : Int) = 1 := by simpa using h2
      have h3 : R < 2 ^ 255 := by omega
      have hX : (2 * R + b) % 2 ^ 256 = 2 * R + b := Nat.mod_eq_of_lt (by omega)
      rcases hst with ⟨c1, c2, c3⟩ | ⟨c1, c2, c3⟩
      · have hbor : bor ((2 * R + b) % 2 ^ 256) (wv m) = 1 := by rw [hX]; exact if_pos c1
        rw [hbor, c2, c3, hq2]
        split
        · rename_i h4
          exact absurd h4 (by decide)
        · and_intros <;> first | omega | rfl | trivial
      · have hbor : bor ((2 * R + b) % 2 ^ 256) (wv m) = 0 := by rw [hX]; exact if_neg (by omega)
        rw [hbor, dif_ge c1 (by omega) hMlt, c2, c3]
        split
        · and_intros <;> first | omega | rfl | trivial
        · rename_i h4
          exact absurd h4 (by decide)
  · rename_i h1
    have h1 := of_decide_eq_false h1
    obtain rfl : j = 0 := by omega
    simp only [Nat.pow_zero, Nat.div_one, Nat.mul_one, dvq, dvr, dve, h, if_false]
    rfl

set_option maxRecDepth 100000 in
theorem m53 : Meets Try.prog 53 sp53 := by
  refine meets_of_owed (C := c53) ⟨tab_ok, lkS_ok ⟨m52, trivial⟩⟩ (by kernel_rfl) (by kernel_rfl : Try.prog.funcs[53]? = some Try.f53) (by kernel_rfl) (by kernel_rfl) (by kernel_rfl) _ ?_
  rintro _ ⟨a, m, rfl, ha, hm⟩
  refine ⟨fun _ => rfl, fun _ => none, ?_⟩
  show owed c53 (fun _ => none) Try.f53 [num8 a, num4 m] (.tup [num4 (nB 18446744073709551616 4 (dvr (wv a) (wv m))), i64n (dve (wv m))])
  rw [vc53]
  simp (decide := true) only [eq_self, true_and, and_true, ne_eq, not_false_eq_true, Int.toNat_natCast]
  exact ⟨a, m, rfl, ha, hm⟩

end Go.Proofs.Ytcdjhhepgkcabaa
