import Derived.Test.YtcdjhhepgkcabaaGf
/- GfTells, part 2: the functions of package gf meet their contracts. -/
namespace Go.Proofs.Ytcdjhhepgkcabaa
open Go Go.Vg

theorem kb8 : kb .u8 = 256 := rfl
theorem kbi : kb .i64 = 9223372036854775808 := rfl
theorem kbu : kb .u64 = 18446744073709551616 := rfl
theorem cst (n : Nat) : ((OfNat.ofNat n : Nat) : Int) = (OfNat.ofNat n : Int) := rfl
theorem iand1 (k : IntKind) {a : Nat} (h : a < kb k) : iand k (a : Int) 1 = ((a % 2 : Nat) : Int) := by
  have : 1 < kb k := by cases k <;> decide
  rw [show (1 : Int) = ((1 : Nat) : Int) from rfl, iandN k h this, Nat.and_one_is_mod]
theorem beq1 (a : Nat) : (((a % 2 : Nat) : Int) == (1 : Int)) = decide (a % 2 = 1) := by
  rcases Nat.mod_two_eq_zero_or_one a with h | h <;> rw [h] <;> rfl
theorem beqN (a b : Nat) : (((a : Nat) : Int) == ((b : Nat) : Int)) = decide (a = b) := by
  rw [Bool.eq_iff_iff, beq_iff_eq, decide_eq_true_iff]
  omega

theorem xt_int {a : Nat} (h : a < 256) : ixor IntKind.u8 (ishl IntKind.u8 (a : Int) 1) (IntKind.u8.wrap (ishr IntKind.u8 (a : Int) 7 * 27)) = ((xt a : Nat) : Int) := by
  have e3 : ishl .u8 (a : Int) 1 = ((a * 2 % 256 : Nat) : Int) := by
    rw [show (1 : Int) = ((1 : Nat) : Int) from rfl, ishlN .u8 (by decide), wN8]
  have e4 : ishr .u8 (a : Int) 7 = ((a / 128 : Nat) : Int) := by
    rw [show (7 : Int) = ((7 : Nat) : Int) from rfl, ishrN .u8 (by decide)]
  rw [e3, e4, show ((a / 128 : Nat) : Int) * 27 = ((a / 128 * 27 : Nat) : Int) by simp, wrapN .u8 (by rw [kb8]; omega), ixorN .u8 (by rw [kb8]; omega) (by rw [kb8]; omega)]
  rfl

set_option maxRecDepth 100000 in
theorem m31 : Meets Try.prog 31 sp31 := by
  refine meets_of_owed (C := c0) ⟨tab_ok, fun f s h => by cases h⟩ (by kernel_rfl) (by kernel_rfl : Try.prog.funcs[31]? = some Try.f31) (by kernel_rfl) (by kernel_rfl) (by kernel_rfl) _ ?_
  rintro _ ⟨a, b, rfl, ha, hb⟩
  refine ⟨fun _ => rfl, inv31 a b, ?_⟩
  show owed c0 (inv31 a b) Try.f31 [u8 a, u8 b] (u8 (gm a b))
  rw [vc31]
  simp (decide := true) only [eq_self, true_and, and_true, ne_eq, not_false_eq_true, Int.toNat_natCast, Nat.zero_xor]
  and_intros <;> try (first | assumption | omega | rfl | trivial)
  rintro ⟨x, y, o⟩ ⟨hx, hy, ho, hi⟩
  simp only at hx hy ho hi ⊢
  rw [xt_int hx, iand1 .u8 (by rw [kb8]; exact hy), beq1, ixorN .u8 (by rw [kb8]; exact ho) (by rw [kb8]; exact hx), show (1 : Int) = ((1 : Nat) : Int) from rfl, ishrN .u8 (by decide)]
  simp only [Int.toNat_natCast]
  rw [gm_step hy] at hi
  split
  · rename_i h
    have h := of_decide_eq_true h
    have hxt := xt_lt hx
    have hxo := xor_lt8 ho hx
    split
    · rename_i h2
      have h2 := of_decide_eq_true h2
      rw [h2, Nat.one_mul, ← Nat.xor_assoc] at hi
      and_intros <;> first | assumption | omega | rfl | trivial
    · rename_i h2
      have h2 := of_decide_eq_false h2
      rw [show y % 2 = 0 by omega, Nat.zero_mul, Nat.zero_xor] at hi
      and_intros <;> first | assumption | omega | rfl | trivial
  · rename_i h
    have h := of_decide_eq_false h
    obtain rfl : y = 0 := by omega
    have e : ∀ z, gm z 0 = 0 := gm_zero_r
    simp only [Nat.zero_div, Nat.zero_mod, Nat.zero_mul, Nat.zero_xor, e, Nat.xor_zero] at hi
    rw [hi]

theorem clm_lt {a : Nat} (b : Nat) (h : a < 256) : ∀ i, i ≤ 8 → clm a b i < 32768
  | 0, _ => by show 0 < 32768; decide
  | i + 1, hi => by
    have h1 := clm_lt b h i (by omega)
    have h2 : 2 ^ i ≤ 2 ^ 7 := Nat.pow_le_pow_right (by decide) (by omega)
    have h3 : a * 2 ^ i ≤ 255 * 2 ^ 7 := Nat.mul_le_mul (by omega) h2
    refine Nat.xor_lt_two_pow (n := 15) h1 ?_
    rcases Nat.mod_two_eq_zero_or_one (b / 2 ^ i) with h4 | h4 <;> rw [h4] <;> omega

set_option maxRecDepth 100000 in
theorem m32 : Meets Try.prog 32 sp31 := by
  refine meets_of_owed (C := c0) ⟨tab_ok, fun f s h => by cases h⟩ (by kernel_rfl) (by kernel_rfl : Try.prog.funcs[32]? = some Try.f32) (by kernel_rfl) (by kernel_rfl) (by kernel_rfl) _ ?_
  rintro _ ⟨a, b, rfl, ha, hb⟩
  refine ⟨fun _ => rfl, inv32 a b, ?_⟩
  show owed c0 (inv32 a b) Try.f32 [u8 a, u8 b] (u8 (gm a b))
  rw [vc32]
  simp (decide := true) only [eq_self, true_and, and_true, ne_eq, not_false_eq_true, Int.toNat_natCast]
  and_intros <;> try (first | assumption | omega | rfl | trivial)
  intro x hx
  have hc := clm_lt b ha
  have hcx := hc x hx
  split
  · rename_i h
    have h := of_decide_eq_true h
    have hb2 : b / 2 ^ x < kb .u8 := Nat.lt_of_le_of_lt (Nat.div_le_self _ _) hb
    have h2 : 2 ^ x ≤ 2 ^ 7 := Nat.pow_le_pow_right (by decide) (by omega)
    have h3 : a * 2 ^ x ≤ 255 * 2 ^ 7 := Nat.mul_le_mul (by omega) h2
    have hcn := hc (x + 1) (by omega)
    rw [show ((x : Int) + 1) = ((x + 1 : Nat) : Int) by omega, wNi (n := x + 1) (by omega), wNi (n := a) (by omega), ishrN .u8 (by simp only [IntKind.bits]; omega), iand1 .u8 hb2, beq1, ishlN .i64 (by simp only [IntKind.bits]; omega), wNi (n := a * 2 ^ x) (by omega), ixorN .i64 (by rw [kbi]; omega) (by rw [kbi]; omega)]
    simp only [Int.toNat_natCast]
    split
    · rename_i h4
      have h4 := of_decide_eq_true h4
      have e : clm a b (x + 1) = clm a b x ^^^ a * 2 ^ x := by rw [clm, h4, Nat.one_mul]
      rw [e]
      and_intros <;> first | assumption | omega | rfl | trivial
    · rename_i h4
      have h4 := of_decide_eq_false h4
      have e : clm a b (x + 1) = clm a b x := by rw [clm, show b / 2 ^ x % 2 = 0 by omega, Nat.zero_mul, Nat.xor_zero]
      rw [e]
      and_intros <;> first | assumption | omega | rfl | trivial
  rename_i h
  have h := of_decide_eq_false h
  obtain rfl : x = 8 := by omega
  refine ⟨by and_intros <;> first | exact hcx | rfl | decide, ?_⟩
  rintro ⟨n, y⟩ ⟨hn, hy, hr⟩
  simp only at hn hy hr ⊢
  split
  · rename_i h
    have h := of_decide_eq_true h
    obtain ⟨n, rfl⟩ : ∃ m, n = m + 1 := ⟨n - 1, by omega⟩
    have h2 : 2 ^ n ≤ 2 ^ 6 := Nat.pow_le_pow_right (by decide) (by omega)
    have h5 : y / 2 ^ (n + 8) < kb .i64 := Nat.lt_of_le_of_lt (Nat.div_le_self _ _) (by rw [kbi]; omega)
    rw [show ((n + 1 : Nat) : Int) + 7 = ((n + 8 : Nat) : Int) by omega, show ((n + 8 : Nat) : Int) - 8 = ((n : Nat) : Int) by omega, show ((n + 8 : Nat) : Int) - 1 = ((n + 7 : Nat) : Int) by omega, wNi (n := n) (by omega), wNi (n := n + 7) (by omega), show ((n + 7 : Nat) : Int) - 7 = ((n : Nat) : Int) by omega,
      ishrN .i64 (by simp only [IntKind.bits]; omega), iand1 .i64 h5, beq1, show (283 : Int) = ((283 : Nat) : Int) from rfl, ishlN .i64 (by simp only [IntKind.bits]; omega), wNi (n := 283 * 2 ^ n) (by omega), ixorN .i64 (by rw [kbi]; omega) (by rw [kbi]; omega)]
    simp only [Int.toNat_natCast]
    rw [red] at hr
    split
    · rename_i h4
      have h4 := of_decide_eq_true h4
      rw [h4, Nat.one_mul] at hr
      have h6 : y ^^^ 283 * 2 ^ n < 32768 := Nat.xor_lt_two_pow (n := 15) hy (by omega)
      and_intros <;> first | assumption | omega | rfl | trivial
    · rename_i h4
      have h4 := of_decide_eq_false h4
      rw [show y / 2 ^ (n + 8) % 2 = 0 by omega, Nat.zero_mul, Nat.xor_zero] at hr
      and_intros <;> first | assumption | omega | rfl | trivial
  · rename_i h
    have h := of_decide_eq_false h
    obtain rfl : n = 0 := by omega
    rw [red] at hr
    rw [wN8, hr, gf_eq ha]

set_option maxRecDepth 100000 in
theorem m33 : Meets Try.prog 33 sp33 := by
  refine meets_of_owed (C := c33) ⟨tab_ok, lkS_ok ⟨m31, trivial⟩⟩ (by kernel_rfl) (by kernel_rfl : Try.prog.funcs[33]? = some Try.f33) (by kernel_rfl) (by kernel_rfl) (by kernel_rfl) _ ?_
  rintro _ ⟨a, n, rfl, ha, hn⟩
  refine ⟨fun _ => rfl, inv33 a n, ?_⟩
  show owed c33 (inv33 a n) Try.f33 [u8 a, u64n n] (u8 (gpw a n))
  rw [vc33]
  simp (decide := true) only [eq_self, true_and, and_true, ne_eq, not_false_eq_true, Int.toNat_natCast]
  refine ⟨⟨rfl, ha, hn, (gm_one (gpw_lt ha n)).1⟩, ?_⟩
  rintro ⟨x, y, o⟩ ⟨hx, hy, ho, hi⟩
  simp only at hx hy ho hi ⊢
  rw [iand1 .u64 (by rw [kbu]; exact hy), beq1, show (1 : Int) = ((1 : Nat) : Int) from rfl, ishrN .u64 (by decide)]
  simp only [Int.toNat_natCast]
  have hox : gm o x < 256 := gm_lt ho
  have hxx : gm x x < 256 := gm_lt hx
  split
  · rename_i h
    have h := of_decide_eq_true h
    have hf := gpw_half hx y
    rw [hf] at hi
    split
    · rename_i h2
      have h2 := of_decide_eq_true h2
      rw [h2] at hi
      have hi : gm o (gm x (gpw (gm x x) (y / 2))) = gpw a n := hi
      rw [← gm_assoc ho hx] at hi
      exact ⟨⟨o, x, rfl, ho, hx⟩, ⟨x, x, rfl, hx, hx⟩, by decide, ⟨hxx, by omega, hox, hi⟩, by omega⟩
    · rename_i h2
      have h2 := of_decide_eq_false h2
      rw [show y % 2 = 0 by omega] at hi
      have hi : gm o (gpw (gm x x) (y / 2)) = gpw a n := hi
      exact ⟨⟨x, x, rfl, hx, hx⟩, by decide, ⟨hxx, by omega, ho, hi⟩, by omega⟩
  · rename_i h
    have h := of_decide_eq_false h
    obtain rfl : y = 0 := by omega
    rw [gpw, (gm_one ho).2.1] at hi
    rw [hi]

theorem pow_loop {a n : Nat} (ha : a < 256) (hn : n < 18446744073709551616) (hp : a = 0 → n = 0) (x : Nat) (hx : x ≤ n % 255) :
    match decide ((x : Int) < (n : Int).tmod 255) with
    | true =>
      (∃ a_2 b, [u8 (gpw a x), u8 a] = [u8 a_2, u8 b] ∧ a_2 < 256 ∧ b < 256) ∧
        (AV.d (D.val (Value.int IntKind.u64 (IntKind.u64.wrap ((x : Int) + 1)))) = AV.d (D.val (Value.int IntKind.u64 (((IntKind.u64.wrap ((x : Int) + 1)).toNat : Nat) : Int))) ∧
          AV.d (D.val (Value.int IntKind.u8 ((gm (gpw a x) a : Nat) : Int))) = AV.d (D.val (Value.int IntKind.u8 ((gpw a (IntKind.u64.wrap ((x : Int) + 1)).toNat : Nat) : Int)))) ∧
          (IntKind.u64.wrap ((x : Int) + 1)).toNat ≤ n % 255 ∧ n % 255 - (IntKind.u64.wrap ((x : Int) + 1)).toNat < n % 255 - x
    | false => D.val (Value.int IntKind.u8 ((gpw a x : Nat) : Int)) = u8 (gpw a n) := by
  have e : (n : Int).tmod 255 = ((n % 255 : Nat) : Int) := tmodN n 255
  rw [e, show ((x : Int) + 1) = ((x + 1 : Nat) : Int) by omega, wrapN .u64 (n := x + 1) (by rw [kbu]; omega)]
  simp only [Int.toNat_natCast]
  split
  · rename_i h
    have h := of_decide_eq_true h
    refine ⟨⟨_, _, rfl, gpw_lt ha x, ha⟩, ?_⟩
    and_intros <;> first | omega | rfl | trivial
  · rename_i h
    have h := of_decide_eq_false h
    obtain rfl : x = n % 255 := by omega
    by_cases h0 : a = 0
    · rw [hp h0]
    · rw [gpw_mod ha h0]

set_option maxRecDepth 100000 in
theorem m34 : Meets Try.prog 34 sp33 := by
  refine meets_of_owed (C := c34) ⟨tab_ok, lkS_ok ⟨m32, trivial⟩⟩ (by kernel_rfl) (by kernel_rfl : Try.prog.funcs[34]? = some Try.f34) (by kernel_rfl) (by kernel_rfl) (by kernel_rfl) _ ?_
  rintro _ ⟨a, n, rfl, ha, hn⟩
  refine ⟨fun _ => rfl, inv34 a n, ?_⟩
  show owed c34 (inv34 a n) Try.f34 [u8 a, u64n n] (u8 (gpw a n))
  rw [vc34]
  simp (decide := true) only [eq_self, true_and, and_true, ne_eq, not_false_eq_true, Int.toNat_natCast]
  rw [show ((a : Int) == 0) = decide (a = 0) from beqN a 0]
  split
  · rename_i h
    have h := of_decide_eq_true h
    split
    · rename_i h2
      have h2 := of_decide_eq_true h2
      rw [h, gpw_zero (by omega)]
      rfl
    · rename_i h2
      have h2 := of_decide_eq_false h2
      refine ⟨⟨⟨rfl, rfl⟩, Nat.zero_le _⟩, fun x hx => ?_⟩
      have hn0 : n = 0 := by omega
      exact pow_loop ha hn (fun _ => hn0) x hx
  · rename_i h
    have h := of_decide_eq_false h
    exact ⟨⟨⟨rfl, rfl⟩, Nat.zero_le _⟩, fun x hx => pow_loop ha hn (fun e => absurd e h) x hx⟩

set_option maxRecDepth 100000 in
theorem m35 : Meets Try.prog 35 sp35 := by
  refine meets_of_owed (C := c35) ⟨tab_ok, lkS_ok ⟨m33, trivial⟩⟩ (by kernel_rfl) (by kernel_rfl : Try.prog.funcs[35]? = some Try.f35) (by kernel_rfl) (by kernel_rfl) (by kernel_rfl) _ ?_
  rintro _ ⟨a, rfl, ha⟩
  refine ⟨fun _ => rfl, fun _ => none, ?_⟩
  show owed c35 (fun _ => none) Try.f35 [u8 a] (u8 (giv a))
  rw [vc35]
  exact ⟨trivial, trivial, ⟨a, 254, rfl, ha, by decide⟩, trivial, ⟨rfl, trivial⟩, rfl⟩

set_option maxRecDepth 100000 in
theorem m36 : Meets Try.prog 36 sp35 := by
  refine meets_of_owed (C := c34) ⟨tab_ok, lkS_ok ⟨m32, trivial⟩⟩ (by kernel_rfl) (by kernel_rfl : Try.prog.funcs[36]? = some Try.f36) (by kernel_rfl) (by kernel_rfl) (by kernel_rfl) _ ?_
  rintro _ ⟨a, rfl, ha⟩
  refine ⟨fun _ => rfl, inv36 a, ?_⟩
  show owed c34 (inv36 a) Try.f36 [u8 a] (u8 (giv a))
  rw [vc36]
  simp (decide := true) only [eq_self, true_and, and_true, ne_eq, not_false_eq_true, Int.toNat_natCast]
  refine ⟨⟨rfl, fun j h => absurd h (Nat.not_lt_zero j)⟩, ?_⟩
  rintro x ⟨hx, hj⟩
  rw [show ((x : Int) + 1) = ((x + 1 : Nat) : Int) by omega, wNi (n := x + 1) (by omega), wN8]
  simp only [Int.toNat_natCast]
  split
  · rename_i h
    have h := of_decide_eq_true h
    have hx2 : x % 256 = x := by omega
    rw [hx2, show (((gm a x : Nat) : Int) == 1) = decide (gm a x = 1) from beqN _ 1]
    refine ⟨⟨a, x, rfl, ha, by omega⟩, ?_⟩
    split
    · rename_i h2
      have h2 := of_decide_eq_true h2
      rw [giv_uniq ha (by omega) h2]
    · rename_i h2
      have h2 := of_decide_eq_false h2
      refine ⟨trivial, ⟨by omega, fun j hj2 => ?_⟩, by omega⟩
      rcases Nat.lt_or_ge j x with h3 | h3
      · exact hj j h3
      · obtain rfl : j = x := by omega
        exact h2
  · rename_i h
    have h := of_decide_eq_false h
    by_cases h0 : a = 0
    · rw [h0, giv_zero]
      rfl
    · exact absurd (giv_gm ha h0).1 (hj _ (by have := giv_lt ha; omega))

set_option maxRecDepth 100000 in
theorem m64 : Meets Try.prog 64 sp64 := by
  refine meets_of_owed (C := c0) ⟨tab_ok, fun f s h => by cases h⟩ (by kernel_rfl) (by kernel_rfl : Try.prog.funcs[64]? = some Try.f64) (by kernel_rfl) (by kernel_rfl) (by kernel_rfl) _ ?_
  rintro _ ⟨a, n, rfl, ha, hn⟩
  refine ⟨fun _ => rfl, fun _ => none, ?_⟩
  show owed c0 (fun _ => none) Try.f64 [u8 a, i64n n] (u8 (rl8 a n))
  rw [vc64]
  have e1 : iand IntKind.u64 (IntKind.u64.wrap (n : Int)) 7 = (n : Int) := by
    rw [wrapN .u64 (by rw [kbu]; omega), show (7 : Int) = ((7 : Nat) : Int) from rfl, iandN .u64 (by rw [kbu]; omega) (by decide)]
    have : n &&& 7 = n % 8 := Nat.and_two_pow_sub_one_eq_mod n 3
    rw [this, Nat.mod_eq_of_lt hn]
  rw [e1, show (8 : Int) - (n : Int) = ((8 - n : Nat) : Int) by omega, wrapN .u64 (n := 8 - n) (by rw [kbu]; omega), ishlN .u8 (by simp only [IntKind.bits]; omega), ishrN .u8 (by simp only [IntKind.bits]; omega), wN8]
  have h2 : a / 2 ^ (8 - n) ≤ a := Nat.div_le_self _ _
  rw [iorN .u8 (by rw [kb8]; omega) (by rw [kb8]; omega)]
  simp only [true_and, eq_self, and_true]
  exact ⟨by omega, by omega, rfl⟩

set_option maxRecDepth 100000 in
theorem m37 : Meets Try.prog 37 sp37 := by
  refine meets_of_owed (C := c37) ⟨tab_ok, lkS_ok ⟨m35, m64, trivial⟩⟩ (by kernel_rfl) (by kernel_rfl : Try.prog.funcs[37]? = some Try.f37) (by kernel_rfl) (by kernel_rfl) (by kernel_rfl) _ ?_
  rintro _ ⟨a, rfl, ha⟩
  refine ⟨fun _ => rfl, inv37 a, ?_⟩
  show owed c37 (inv37 a) Try.f37 [u8 a] (u8 (gbx a))
  rw [vc37]
  have hg := giv_lt ha
  simp (decide := true) only [eq_self, true_and, and_true, ne_eq, not_false_eq_true, Int.toNat_natCast]
  refine ⟨⟨a, rfl, ha⟩, ?_, ?_⟩
  · rw [show (99 : Int) = ((99 : Nat) : Int) from rfl, ixorN .u8 (by decide) (by rw [kb8]; exact hg)]
    exact ⟨rfl, rfl⟩
  intro x hx
  rw [show ((x : Int) + 1 + 1) = ((x + 2 : Nat) : Int) by omega, wNi (n := x + 2) (by omega), show ((x + 2 : Nat) : Int) - 1 = ((x + 1 : Nat) : Int) by omega, show ((x : Int) + 1) = ((x + 1 : Nat) : Int) by omega,
    ixorN .u8 (by rw [kb8]; exact gsb_lt hg x) (by rw [kb8]; exact rl8_lt hg)]
  simp only [Int.toNat_natCast]
  split
  · rename_i h
    have h := of_decide_eq_true h
    exact ⟨⟨_, _, rfl, hg, by omega⟩, ⟨rfl, rfl⟩, by omega, by omega⟩
  · rename_i h
    have h := of_decide_eq_false h
    obtain rfl : x = 4 := by omega
    rw [gsb_eq ha]

set_option maxRecDepth 100000 in
theorem m38 : Meets Try.prog 38 sp38 := by
  refine meets_of_owed (C := c37) ⟨tab_ok, lkS_ok ⟨m35, m64, trivial⟩⟩ (by kernel_rfl) (by kernel_rfl : Try.prog.funcs[38]? = some Try.f38) (by kernel_rfl) (by kernel_rfl) (by kernel_rfl) _ ?_
  rintro _ ⟨a, rfl, ha⟩
  refine ⟨fun _ => rfl, fun _ => none, ?_⟩
  show owed c37 (fun _ => none) Try.f38 [u8 a] (u8 (gux a))
  rw [vc38]
  have h2 : a ^^^ 99 < 256 := xor_lt8 ha (by decide)
  have h3 := rl8_lt (n := 1) h2
  have h4 := rl8_lt (n := 3) h2
  have h5 := rl8_lt (n := 6) h2
  have h6 := xor_lt8 h3 h4
  rw [show (99 : Int) = ((99 : Nat) : Int) from rfl, ixorN .u8 (by rw [kb8]; exact ha) (by decide)]
  simp only [Int.toNat_natCast]
  rw [ixorN .u8 (by rw [kb8]; exact h3) (by rw [kb8]; exact h4), ixorN .u8 (by rw [kb8]; exact h6) (by rw [kb8]; exact h5)]
  simp only [Int.toNat_natCast, eq_self, true_and, and_true]
  exact ⟨⟨_, 1, rfl, h2, by decide⟩, ⟨_, 3, rfl, h2, by decide⟩, ⟨_, 6, rfl, h2, by decide⟩, ⟨_, rfl, xor_lt8 h6 h5⟩, rfl⟩

theorem gcl_len (l m : List Int) (i : Nat) : (gcl l m i).length = i := by simp [gcl]
theorem gcl_succ (l m : List Int) (i : Nat) : gcl l m (i + 1) = gcl l m i ++ [((gce l m i 4 : Nat) : Int)] := by
  unfold gcl
  rw [List.range_succ, List.map_append]
  rfl
theorem col_start (l m : List Int) {i : Nat} (h : i < 4) : gcl l m i ++ List.replicate (4 - i) 0 = gcl l m i ++ ((gce l m i 0 : Nat) : Int) :: List.replicate (3 - i) 0 := by
  rw [show 4 - i = (3 - i) + 1 by omega, List.replicate_succ]
  rfl
theorem col_next (l m : List Int) {i : Nat} (h : i < 4) : gcl l m i ++ ((gce l m i 4 : Nat) : Int) :: List.replicate (3 - i) 0 = gcl l m (i + 1) ++ List.replicate (4 - (i + 1)) 0 := by
  rw [gcl_succ, List.append_assoc, show 4 - (i + 1) = 3 - i by omega]
  rfl
theorem col_get (l m : List Int) (i : Nat) (e : Int) (r : List Int) : (gcl l m i ++ e :: r).getD i 0 = e := by
  rw [List.getD_eq_getElem?_getD, List.getElem?_append_right (by rw [gcl_len]; exact Nat.le_refl _), gcl_len, Nat.sub_self]
  rfl
theorem col_set (l m : List Int) (i : Nat) (e v : Int) (r : List Int) : (gcl l m i ++ e :: r).set i v = gcl l m i ++ v :: r := by
  rw [List.set_append_right _ _ (by rw [gcl_len]; exact Nat.le_refl _), gcl_len, Nat.sub_self, List.set_cons_zero]
theorem getD_mem {l : List Int} {n : Nat} (h : n < l.length) : l.getD n 0 ∈ l := by
  simp [List.getD_eq_getElem?_getD, h]
theorem okb_get {l : List Int} (h : okb l) {i : Nat} (hi : i < l.length) : ∃ n : Nat, l.getD i 0 = (n : Int) ∧ n < 256 := by
  have := h _ (getD_mem hi)
  exact ⟨(l.getD i 0).toNat, by omega, by omega⟩
theorem gce_lt {l m : List Int} (hm : okb m) (hm4 : m.length = 4) (i : Nat) : ∀ k, k ≤ 4 → gce l m i k < 256
  | 0, _ => by show 0 < 256; decide
  | k + 1, h => by
    obtain ⟨x, e, hx⟩ := okb_get hm (i := k) (by omega)
    rw [gce, e, Int.toNat_natCast]
    exact xor_lt8 (gce_lt hm hm4 i k (by omega)) (gm_lt hx)

set_option maxRecDepth 100000 in
theorem m65 : Meets Try.prog 65 sp65 := by
  refine meets_of_owed (C := c33) ⟨tab_ok, lkS_ok ⟨m31, trivial⟩⟩ (by kernel_rfl) (by kernel_rfl : Try.prog.funcs[65]? = some Try.f65) (by kernel_rfl) (by kernel_rfl) (by kernel_rfl) _ ?_
  rintro _ ⟨l, m, rfl, ⟨hl, hl4⟩, hm, hm4⟩
  refine ⟨fun _ => rfl, inv65 l m, ?_⟩
  show owed c33 (inv65 l m) Try.f65 [b4 l, b4 m] (b4 (gcl l m 4))
  rw [vc65]
  simp (decide := true) only [eq_self, true_and, and_true, ne_eq, not_false_eq_true, Int.toNat_natCast]
  refine ⟨⟨rfl, rfl⟩, ?_⟩
  intro x hx
  split
  · rename_i h
    have h := of_decide_eq_true h
    refine ⟨⟨rfl, by rw [col_start l m (by omega)]⟩, ?_⟩
    rintro ⟨i, k⟩ ⟨hi, hk⟩
    simp only at hi hk ⊢
    obtain rfl : i = x := by omega
    rw [show ((k : Int) + 1) = ((k + 1 : Nat) : Int) by omega, wNi (n := k + 1) (by omega), show ((i : Int) + 1) = ((i + 1 : Nat) : Int) by omega, wNi (n := i + 1) (by omega),
      show ((i : Int) + (k : Int)) = ((i + k : Nat) : Int) by omega, wNi (n := i + k) (by omega), show ((i + k : Nat) : Int).tmod 4 = (((i + k) % 4 : Nat) : Int) from tmodN (i + k) 4]
    simp only [Int.toNat_natCast]
    split
    · rename_i h2
      have h2 := of_decide_eq_true h2
      obtain ⟨y, ey, hy⟩ := okb_get hm (i := k) (by omega)
      obtain ⟨z, ez, hz⟩ := okb_get hl (i := (i + k) % 4) (by omega)
      have hg := gce_lt (l := l) hm hm4 i k (by omega)
      have e : gce l m i (k + 1) = gce l m i k ^^^ gm y z := by rw [gce, ey, ez, Int.toNat_natCast, Int.toNat_natCast]
      rw [ey, ez, col_get, Int.toNat_natCast, Int.toNat_natCast, ixorN .u8 (by rw [kb8]; exact hg) (by rw [kb8]; exact gm_lt hy), col_set, ← e]
      have hp : ∃ a b : Nat, [u8 y, u8 z] = [u8 a, u8 b] ∧ a < 256 ∧ b < 256 := ⟨y, z, rfl, hy, hz⟩
      and_intros <;> first | exact hp | omega | rfl | trivial
    · rename_i h2
      have h2 := of_decide_eq_false h2
      obtain rfl : k = 4 := by omega
      rw [col_next l m (by omega)]
      and_intros <;> first | omega | rfl | trivial
  · rename_i h
    have h := of_decide_eq_false h
    obtain rfl : x = 4 := by omega
    simp

set_option maxRecDepth 100000 in
theorem m41 : Meets Try.prog 41 sp65 := by
  refine meets_of_owed (C := c41) ⟨tab_ok, lkS_ok ⟨m32, trivial⟩⟩ (by kernel_rfl) (by kernel_rfl : Try.prog.funcs[41]? = some Try.f41) (by kernel_rfl) (by kernel_rfl) (by kernel_rfl) _ ?_
  rintro _ ⟨l, m, rfl, ⟨hl, hl4⟩, hm, hm4⟩
  refine ⟨fun _ => rfl, inv41 l m, ?_⟩
  show owed c41 (inv41 l m) Try.f41 [b4 l, b4 m] (b4 (gcl l m 4))
  rw [vc41]
  simp (decide := true) only [eq_self, true_and, and_true, ne_eq, not_false_eq_true, Int.toNat_natCast]
  refine ⟨⟨rfl, rfl⟩, ?_⟩
  intro x hx
  split
  · rename_i h
    have h := of_decide_eq_true h
    refine ⟨⟨rfl, by rw [col_start l m (by omega)]⟩, ?_⟩
    rintro ⟨i, k⟩ ⟨hi, hk⟩
    simp only at hi hk ⊢
    obtain rfl : i = x := by omega
    rw [show ((k : Int) + 1) = ((k + 1 : Nat) : Int) by omega, wNi (n := k + 1) (by omega), show ((i : Int) + 1) = ((i + 1 : Nat) : Int) by omega, wNi (n := i + 1) (by omega),
      show ((i : Int) + (k : Int)) = ((i + k : Nat) : Int) by omega, wNi (n := i + k) (by omega), show ((i + k : Nat) : Int).tmod 4 = (((i + k) % 4 : Nat) : Int) from tmodN (i + k) 4]
    simp only [Int.toNat_natCast]
    split
    · rename_i h2
      have h2 := of_decide_eq_true h2
      obtain ⟨y, ey, hy⟩ := okb_get hm (i := k) (by omega)
      obtain ⟨z, ez, hz⟩ := okb_get hl (i := (i + k) % 4) (by omega)
      have hg := gce_lt (l := l) hm hm4 i k (by omega)
      have e : gce l m i (k + 1) = gce l m i k ^^^ gm y z := by rw [gce, ey, ez, Int.toNat_natCast, Int.toNat_natCast]
      rw [ey, ez, col_get, Int.toNat_natCast, Int.toNat_natCast, ixorN .u8 (by rw [kb8]; exact hg) (by rw [kb8]; exact gm_lt hy), col_set, ← e]
      have hp : ∃ a b : Nat, [u8 y, u8 z] = [u8 a, u8 b] ∧ a < 256 ∧ b < 256 := ⟨y, z, rfl, hy, hz⟩
      and_intros <;> first | exact hp | omega | rfl | trivial
    · rename_i h2
      have h2 := of_decide_eq_false h2
      obtain rfl : k = 4 := by omega
      rw [col_next l m (by omega)]
      and_intros <;> first | omega | rfl | trivial
  · rename_i h
    have h := of_decide_eq_false h
    obtain rfl : x = 4 := by omega
    simp

set_option maxRecDepth 100000 in
theorem m40 : Meets Try.prog 40 sp40 := by
  refine meets_of_owed (C := c40) ⟨tab_ok, lkS_ok ⟨m65, trivial⟩⟩ (by kernel_rfl) (by kernel_rfl : Try.prog.funcs[40]? = some Try.f40) (by kernel_rfl) (by kernel_rfl) (by kernel_rfl) _ ?_
  rintro _ ⟨l, rfl, hl, hl4⟩
  refine ⟨fun _ => rfl, fun _ => none, ?_⟩
  show owed c40 (fun _ => none) Try.f40 [b4 l] (b4 (gcl l [2, 3, 1, 1] 4))
  rw [vc40]
  have hb : okb [2, 3, 1, 1] := by
    intro x hx
    simp at hx
    omega
  simp (decide := true) only [eq_self, true_and, and_true, ne_eq, not_false_eq_true, Int.toNat_natCast]
  exact ⟨l, _, rfl, ⟨hl, hl4⟩, hb, rfl⟩

set_option maxRecDepth 100000 in
theorem m42 : Meets Try.prog 42 sp42 := by
  refine meets_of_owed (C := c40) ⟨tab_ok, lkS_ok ⟨m65, trivial⟩⟩ (by kernel_rfl) (by kernel_rfl : Try.prog.funcs[42]? = some Try.f42) (by kernel_rfl) (by kernel_rfl) (by kernel_rfl) _ ?_
  rintro _ ⟨l, rfl, hl, hl4⟩
  refine ⟨fun _ => rfl, fun _ => none, ?_⟩
  show owed c40 (fun _ => none) Try.f42 [b4 l] (b4 (gcl l [14, 11, 13, 9] 4))
  rw [vc42]
  have hb : okb [14, 11, 13, 9] := by
    intro x hx
    simp at hx
    omega
  simp (decide := true) only [eq_self, true_and, and_true, ne_eq, not_false_eq_true, Int.toNat_natCast]
  exact ⟨l, _, rfl, ⟨hl, hl4⟩, hb, rfl⟩

set_option maxRecDepth 100000 in
theorem m39 : Meets Try.prog 39 sp39 := by
  refine meets_of_owed (C := c0) ⟨tab_ok, fun f s h => by cases h⟩ (by kernel_rfl) (by kernel_rfl : Try.prog.funcs[39]? = some Try.f39) (by kernel_rfl) (by kernel_rfl) (by kernel_rfl) _ ?_
  rintro _ ⟨l, rfl, hl, hl4⟩
  refine ⟨fun _ => rfl, inv39 l, ?_⟩
  show owed c0 (inv39 l) Try.f39 [b256 l] (b256 (gub l 256))
  rw [vc39]
  simp (decide := true) only [eq_self, true_and, and_true, ne_eq, not_false_eq_true, Int.toNat_natCast]
  refine ⟨⟨rfl, rfl⟩, ?_⟩
  intro x hx
  split
  · rename_i h
    have h := of_decide_eq_true h
    obtain ⟨y, ey, hy⟩ := okb_get hl (i := x) (by omega)
    have e : gub l (x + 1) = (gub l x).set y ((x % 256 : Nat) : Int) := by rw [gub, ey, Int.toNat_natCast]
    rw [ey, wN8, show ((x : Int) + 1) = ((x + 1 : Nat) : Int) by omega, wNi (n := x + 1) (by omega)]
    simp only [Int.toNat_natCast]
    rw [e]
    and_intros <;> first | omega | rfl | trivial
  · rename_i h
    have h := of_decide_eq_false h
    obtain rfl : x = 256 := by omega
    rfl

end Go.Proofs.Ytcdjhhepgkcabaa
