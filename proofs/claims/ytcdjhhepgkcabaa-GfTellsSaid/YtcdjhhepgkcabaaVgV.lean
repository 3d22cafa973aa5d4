/- Vg, part V: bytes as a field (the polynomial 283): the product, its laws, powers, inverses, the box. -/
import Derived.Test.YtcdjhhepgkcabaaVgU
namespace Go.Vg

def xt (a : Nat) : Nat := (a * 2 % 256) ^^^ (a / 128 * 27)
def gmul : Nat → Nat → Nat → Nat
  | 0, _, _ => 0
  | n + 1, a, b => (b % 2 * a) ^^^ gmul n (xt a) (b / 2)
def gm (a b : Nat) : Nat := gmul 8 a b

def clm (a b : Nat) : Nat → Nat
  | 0 => 0
  | i + 1 => clm a b i ^^^ (b / 2 ^ i % 2 * (a * 2 ^ i))
def red : Nat → Nat → Nat
  | 0, x => x
  | n + 1, x => red n (x ^^^ (x / 2 ^ (n + 8) % 2 * (283 * 2 ^ n)))

theorem xor_mul_bit {x y c : Nat} : (x ^^^ y) % 2 * c = (x % 2 * c) ^^^ (y % 2 * c) := by
  have h := Nat.xor_mod_two_pow (a := x) (b := y) (n := 1)
  simp only [Nat.pow_one] at h
  rw [h]
  rcases Nat.mod_two_eq_zero_or_one x with h1 | h1 <;> rcases Nat.mod_two_eq_zero_or_one y with h2 | h2 <;> rw [h1, h2] <;> simp

theorem xor_shuffle (a b c d : Nat) : (a ^^^ b) ^^^ (c ^^^ d) = (a ^^^ c) ^^^ (b ^^^ d) := by
  rw [Nat.xor_assoc, Nat.xor_assoc, ← Nat.xor_assoc b c d, Nat.xor_comm b c, Nat.xor_assoc c b d]

theorem red_xor : ∀ n x y, red n (x ^^^ y) = red n x ^^^ red n y
  | 0, _, _ => rfl
  | n + 1, x, y => by
    simp only [red]
    rw [← red_xor n, Nat.xor_div_two_pow, xor_mul_bit, xor_shuffle]

theorem mul_xor2 (a b : Nat) : (a ^^^ b) * 2 = (a * 2) ^^^ (b * 2) := by
  have := Nat.shiftLeft_xor_distrib (i := 1) (a := a) (b := b)
  simpa [Nat.shiftLeft_eq] using this

theorem xt_xor {a b : Nat} (ha : a < 256) (hb : b < 256) : xt (a ^^^ b) = xt a ^^^ xt b := by
  unfold xt
  have h1 : (a ^^^ b) / 128 = a / 128 ^^^ b / 128 := Nat.xor_div_two_pow (n := 7)
  have h2 : (a * 2 ^^^ b * 2) % 256 = a * 2 % 256 ^^^ b * 2 % 256 := Nat.xor_mod_two_pow (n := 8)
  rw [mul_xor2, h2, h1]
  have e : ∀ c d : Nat, c < 2 → d < 2 → (c ^^^ d) * 27 = c * 27 ^^^ d * 27 := by
    intro c d hc hd
    obtain rfl | rfl : c = 0 ∨ c = 1 := by omega
    all_goals obtain rfl | rfl : d = 0 ∨ d = 1 := by omega
    all_goals rfl
  rw [e _ _ (by omega) (by omega), xor_shuffle]

theorem xt_lt {a : Nat} (h : a < 256) : xt a < 256 := by
  unfold xt
  have h1 : a * 2 % 256 < 2 ^ 8 := Nat.mod_lt _ (by decide)
  have h2 : a / 128 * 27 < 2 ^ 8 := by omega
  exact Nat.xor_lt_two_pow h1 h2

theorem xor_lt8 {a b : Nat} (h : a < 256) (h2 : b < 256) : a ^^^ b < 256 := Nat.xor_lt_two_pow (n := 8) h h2
theorem bit_mul_lt {a : Nat} (b : Nat) (h : a < 256) : b % 2 * a < 256 := by
  rcases Nat.mod_two_eq_zero_or_one b with h1 | h1 <;> rw [h1] <;> omega

theorem gmul_lt : ∀ n a b, a < 256 → gmul n a b < 256
  | 0, _, _, _ => by simp [gmul]
  | n + 1, a, b, h => xor_lt8 (bit_mul_lt b h) (gmul_lt n _ _ (xt_lt h))
theorem gm_lt {a b : Nat} (h : a < 256) : gm a b < 256 := gmul_lt _ _ _ h

theorem gmul_zero : ∀ n a, gmul n a 0 = 0
  | 0, _ => rfl
  | n + 1, a => by simp [gmul, gmul_zero n]
theorem gmul_fuel : ∀ n a b, b < 2 ^ n → gmul (n + 1) a b = gmul n a b
  | 0, a, b, h => by
    have : b = 0 := by simpa using h
    subst this
    simp [gmul]
  | n + 1, a, b, h => by
    rw [gmul, gmul_fuel n (xt a) (b / 2) (by rw [Nat.pow_succ] at h; omega), gmul]
theorem gm_step {a b : Nat} (h : b < 256) : gm a b = (b % 2 * a) ^^^ gm (xt a) (b / 2) := by
  unfold gm
  rw [← gmul_fuel 8 a b h]
  rfl

theorem gmul_xor_l : ∀ n a b c, a < 256 → b < 256 → gmul n (a ^^^ b) c = gmul n a c ^^^ gmul n b c
  | 0, _, _, _, _, _ => by simp [gmul]
  | n + 1, a, b, c, ha, hb => by
    simp only [gmul]
    rw [xt_xor ha hb, gmul_xor_l n _ _ _ (xt_lt ha) (xt_lt hb)]
    have : c % 2 * (a ^^^ b) = c % 2 * a ^^^ c % 2 * b := by
      rcases Nat.mod_two_eq_zero_or_one c with h1 | h1 <;> rw [h1] <;> simp
    rw [this, xor_shuffle]
theorem gmul_xor_r : ∀ n a b c, gmul n a (b ^^^ c) = gmul n a b ^^^ gmul n a c
  | 0, _, _, _ => by simp [gmul]
  | n + 1, a, b, c => by
    simp only [gmul]
    rw [Nat.xor_div_two, gmul_xor_r n, xor_mul_bit, xor_shuffle]
theorem gmul_xt : ∀ n a b, a < 256 → gmul n (xt a) b = xt (gmul n a b)
  | 0, _, _, _ => by simp [gmul, xt]
  | n + 1, a, b, h => by
    simp only [gmul]
    rw [xt_xor (bit_mul_lt b h) (gmul_lt n _ _ (xt_lt h)), gmul_xt n _ _ (xt_lt h)]
    congr 1
    rcases Nat.mod_two_eq_zero_or_one b with h1 | h1 <;> rw [h1] <;> simp [xt]

/-- xt taken i times. -/
def xtn (a : Nat) : Nat → Nat
  | 0 => a
  | i + 1 => xt (xtn a i)
theorem xtn_lt {a : Nat} (h : a < 256) : ∀ i, xtn a i < 256
  | 0 => h
  | i + 1 => xt_lt (xtn_lt h i)

theorem red_xtn : (List.range 256).all (fun a => (List.range 8).all fun i => Nat.beq (red 7 (a * 2 ^ i) % 256) (xtn a i)) = true := by kernel_rfl
theorem red_xt {a i : Nat} (h : a < 256) (hi : i < 8) : red 7 (a * 2 ^ i) % 256 = xtn a i := by
  have := List.all_eq_true.mp (List.all_eq_true.mp red_xtn a (List.mem_range.mpr h)) i (List.mem_range.mpr hi)
  exact Nat.eq_of_beq_eq_true this

theorem red_zero : ∀ n, red n 0 = 0
  | 0 => rfl
  | n + 1 => by simp [red, red_zero n]

theorem gf_eq {a b : Nat} (h : a < 256) : red 7 (clm a b 8) % 256 = gm a b := by
  have key : ∀ k i, i + k = 8 → (red 7 (clm a b i) % 256) ^^^ gmul k (xtn a i) (b / 2 ^ i) = red 7 (clm a b 8) % 256 := by
    intro k
    induction k with
    | zero =>
      intro i hi
      obtain rfl : i = 8 := by omega
      simp [gmul]
    | succ k ih =>
      intro i hi
      rw [← ih (i + 1) (by omega), gmul, ← Nat.xor_assoc]
      congr 1
      · simp only [clm]
        rw [red_xor]
        have := Nat.xor_mod_two_pow (a := red 7 (clm a b i)) (b := red 7 (b / 2 ^ i % 2 * (a * 2 ^ i))) (n := 8)
        rw [show (256 : Nat) = 2 ^ 8 from rfl, this]
        congr 1
        rcases Nat.mod_two_eq_zero_or_one (b / 2 ^ i) with h1 | h1 <;> rw [h1]
        · simp [red_zero]
        · simp only [Nat.one_mul]
          exact (red_xt h (by omega)).symm
      · rw [Nat.pow_succ, Nat.div_div_eq_div_mul]
        rfl
  rw [← key 8 0 rfl]
  simp [clm, red_zero, gm, xtn]

theorem gm_xt_r_all : (List.range 256).all (fun a => (List.range 8).all fun i => Nat.beq (gm a (xt (2 ^ i))) (xt (gm a (2 ^ i)))) = true := by kernel_rfl

/-- a byte is a sum of single bits: what holds of 0 and of single bits and goes with sums, holds. -/
theorem byte_ind (P : Nat → Prop) (h0 : P 0) (h1 : ∀ i, i < 8 → P (2 ^ i)) (hx : ∀ a b, a < 256 → b < 256 → P a → P b → P (a ^^^ b)) :
    ∀ a, a < 256 → P a := by
  have key : ∀ n, n ≤ 8 → ∀ a, a < 2 ^ n → P a := by
    intro n
    induction n with
    | zero =>
      intro _ a h
      have : a = 0 := by simpa using h
      subst this
      exact h0
    | succ n ih =>
      intro hn a h
      rcases Nat.lt_or_ge a (2 ^ n) with hl | hg
      · exact ih (by omega) a hl
      · have hp : 2 ^ n ≤ 2 ^ 7 := Nat.pow_le_pow_right (by decide) (by omega)
        have e : a = 2 ^ n ^^^ (a - 2 ^ n) := by
          have hlt : a - 2 ^ n < 2 ^ n := by rw [Nat.pow_succ] at h; omega
          have e1 := Nat.two_pow_add_eq_or_of_lt hlt 1
          rw [Nat.mul_one] at e1
          have e2 : 2 ^ n ^^^ (a - 2 ^ n) = 2 ^ n ||| (a - 2 ^ n) := by
            apply Nat.eq_of_testBit_eq
            intro i
            rw [Nat.testBit_xor, Nat.testBit_or, Nat.testBit_two_pow]
            by_cases hi : n = i
            · subst hi
              rw [Nat.testBit_lt_two_pow hlt]
              simp
            · simp [hi]
          rw [e2, ← e1]
          omega
        rw [e]
        exact hx _ _ (by omega) (by rw [Nat.pow_succ] at h; omega) (h1 n (by omega)) (ih (by omega) _ (by rw [Nat.pow_succ] at h; omega))
  exact fun a h => key 8 (by omega) a h

theorem gm_xt_r {a b : Nat} (ha : a < 256) (hb : b < 256) : gm a (xt b) = xt (gm a b) := by
  refine byte_ind (fun b => gm a (xt b) = xt (gm a b)) ?_ ?_ ?_ b hb
  · show gm a (xt 0) = xt (gm a 0)
    have : gm a 0 = 0 := gmul_zero 8 a
    rw [this]
    exact this
  · intro i hi
    have := List.all_eq_true.mp (List.all_eq_true.mp gm_xt_r_all a (List.mem_range.mpr ha)) i (List.mem_range.mpr hi)
    exact Nat.eq_of_beq_eq_true this
  · intro c d hc hd h1 h2
    show gm a (xt (c ^^^ d)) = xt (gm a (c ^^^ d))
    unfold gm at h1 h2 ⊢
    rw [xt_xor hc hd, gmul_xor_r, gmul_xor_r, h1, h2, xt_xor (gmul_lt _ _ _ ha) (gmul_lt _ _ _ ha)]

theorem gm_assoc {a b c : Nat} (ha : a < 256) (hb : b < 256) : gm (gm a b) c = gm a (gm b c) := by
  have key : ∀ n b c, b < 256 → gmul n (gm a b) c = gm a (gmul n b c) := by
    intro n
    induction n with
    | zero =>
      intro b c hb
      exact (gmul_zero 8 a).symm
    | succ n ih =>
      intro b c hb
      have e : gm a ((c % 2 * b) ^^^ gmul n (xt b) (c / 2)) = gm a (c % 2 * b) ^^^ gm a (gmul n (xt b) (c / 2)) := gmul_xor_r 8 _ _ _
      simp only [gmul]
      rw [e, ← ih _ _ (xt_lt hb), gm_xt_r ha hb]
      congr 1
      rcases Nat.mod_two_eq_zero_or_one c with h1 | h1 <;> rw [h1]
      · simp only [Nat.zero_mul]
        exact (gmul_zero 8 a).symm
      · simp
  exact key 8 b c hb

theorem gm_one_all : (List.range 256).all (fun a => Nat.beq (gm 1 a) a && Nat.beq (gm a 1) a && Nat.beq (gm 0 a) 0) = true := by kernel_rfl
theorem gm_one {a : Nat} (h : a < 256) : gm 1 a = a ∧ gm a 1 = a ∧ gm 0 a = 0 := by
  have := List.all_eq_true.mp gm_one_all a (List.mem_range.mpr h)
  simp only [Bool.and_eq_true] at this
  exact ⟨Nat.eq_of_beq_eq_true this.1.1, Nat.eq_of_beq_eq_true this.1.2, Nat.eq_of_beq_eq_true this.2⟩
theorem gm_zero_r (a : Nat) : gm a 0 = 0 := gmul_zero 8 a

/-- powers -/
def gpw (a : Nat) : Nat → Nat
  | 0 => 1
  | n + 1 => gm (gpw a n) a
theorem gpw_lt {a : Nat} (h : a < 256) : ∀ n, gpw a n < 256
  | 0 => by show 1 < 256; decide
  | n + 1 => gm_lt (gpw_lt h n)
theorem gpw_add {a : Nat} (h : a < 256) (m : Nat) : ∀ n, gpw a (m + n) = gm (gpw a m) (gpw a n)
  | 0 => (gm_one (gpw_lt h m)).2.1.symm
  | n + 1 => by
    show gm (gpw a (m + n)) a = gm (gpw a m) (gm (gpw a n) a)
    rw [gpw_add h m n, gm_assoc (gpw_lt h m) (gpw_lt h n)]
theorem gpw_one {a : Nat} (h : a < 256) : gpw a 1 = a := (gm_one h).1
theorem gpw_two {a : Nat} (h : a < 256) (n : Nat) : gpw (gm a a) n = gpw a (2 * n) := by
  induction n with
  | zero => rfl
  | succ n ih =>
    show gm (gpw (gm a a) n) (gm a a) = gpw a (2 * n + 1 + 1)
    rw [ih]
    show _ = gm (gm (gpw a (2 * n)) a) a
    rw [gm_assoc (gpw_lt h _) h]

/-- squaring: for reckoning. -/
def gpq : Nat → Nat → Nat → Nat → Nat
  | 0, o, _, _ => o
  | k + 1, o, a, n => gpq k (cond (Nat.beq (n % 2) 1) (gm o a) o) (gm a a) (n / 2)
theorem gpw_half {a : Nat} (h : a < 256) (n : Nat) : gpw a n = cond (Nat.beq (n % 2) 1) (gm a (gpw (gm a a) (n / 2))) (gpw (gm a a) (n / 2)) := by
  rw [gpw_two h]
  rcases Nat.mod_two_eq_zero_or_one n with h1 | h1 <;> rw [h1]
  · show gpw a n = gpw a (2 * (n / 2))
    congr 1
    omega
  · show gpw a n = gm a (gpw a (2 * (n / 2)))
    have := gpw_add h 1 (2 * (n / 2))
    rw [gpw_one h] at this
    rw [← this]
    congr 1
    omega
theorem gpq_eq : ∀ k o a n, o < 256 → a < 256 → n < 2 ^ k → gpq k o a n = gm o (gpw a n)
  | 0, o, a, n, ho, _, hn => by
    have : n = 0 := by simpa using hn
    subst this
    exact (gm_one ho).2.1.symm
  | k + 1, o, a, n, ho, ha, hn => by
    rw [gpq, gpq_eq k _ _ _ (by rcases Nat.mod_two_eq_zero_or_one n with h1 | h1 <;> rw [h1]; exact ho; exact gm_lt ho) (gm_lt ha) (by rw [Nat.pow_succ] at hn; omega), gpw_half ha n]
    rcases Nat.mod_two_eq_zero_or_one n with h1 | h1 <;> rw [h1]
    · rfl
    · show gm (gm o a) _ = gm o (gm a _)
      rw [gm_assoc ho ha]
def gpf (a n : Nat) : Nat := gpq 8 1 a n
theorem gpf_eq {a n : Nat} (h : a < 256) (hn : n < 256) : gpw a n = gpf a n := by
  unfold gpf
  rw [gpq_eq 8 1 a n (by decide) h hn, (gm_one (gpw_lt h n)).1]

theorem gpf_255 : (List.range 255).all (fun a => Nat.beq (gpf (a + 1) 255) 1) = true := by kernel_rfl
theorem gpw_255 {a : Nat} (h : a < 256) (h0 : a ≠ 0) : gpw a 255 = 1 := by
  have := List.all_eq_true.mp gpf_255 (a - 1) (List.mem_range.mpr (by omega))
  rw [show a - 1 + 1 = a by omega] at this
  rw [gpf_eq h (by decide)]
  exact Nat.eq_of_beq_eq_true this
theorem gpw_zero {n : Nat} (h : n ≠ 0) : gpw 0 n = 0 := by
  obtain ⟨m, rfl⟩ := Nat.exists_eq_succ_of_ne_zero h
  exact gm_zero_r _
theorem gpw_mod {a : Nat} (h : a < 256) (h0 : a ≠ 0) (n : Nat) : gpw a (n % 255) = gpw a n := by
  have key : ∀ q r, gpw a (r + 255 * q) = gpw a r := by
    intro q r
    induction q with
    | zero => rfl
    | succ q ih =>
      rw [Nat.mul_succ, ← Nat.add_assoc, gpw_add h, gpw_255 h h0, (gm_one (gpw_lt h _)).2.1, ih]
  rw [← key (n / 255) (n % 255), Nat.mod_add_div]

/-- the inverse -/
def giv (a : Nat) : Nat := gpw a 254
theorem giv_lt {a : Nat} (h : a < 256) : giv a < 256 := gpw_lt h _
theorem giv_zero : giv 0 = 0 := gpw_zero (by decide)
theorem giv_gm {a : Nat} (h : a < 256) (h0 : a ≠ 0) : gm a (giv a) = 1 ∧ gm (giv a) a = 1 := by
  refine ⟨?_, gpw_255 h h0⟩
  have := gpw_add h 1 254
  rw [gpw_one h] at this
  unfold giv
  rw [← this]
  exact gpw_255 h h0
theorem giv_uniq {a b : Nat} (h : a < 256) (hb : b < 256) (e : gm a b = 1) : b = giv a := by
  have h0 : a ≠ 0 := by
    rintro rfl
    rw [(gm_one hb).2.2] at e
    cases e
  have := gm_assoc (a := giv a) (b := a) (c := b) (giv_lt h) h
  rw [(giv_gm h h0).2, e, (gm_one hb).1, (gm_one (giv_lt h)).2.1] at this
  exact this
def gvf (a : Nat) : Nat := gpf a 254
theorem gvf_eq {a : Nat} (h : a < 256) : giv a = gvf a := gpf_eq h (by decide)

/-- the box -/
def rl8 (x n : Nat) : Nat := (x * 2 ^ n % 256) ||| (x / 2 ^ (8 - n))
def gsb (b : Nat) : Nat → Nat
  | 0 => 99 ^^^ b
  | n + 1 => gsb b n ^^^ rl8 b (n + 1)
def gk : List Nat := [0, 4, 5, 6, 7]
def gan (b i : Nat) : Nat → Nat
  | 0 => 99 / 2 ^ i % 2
  | k + 1 => gan b i k + b / 2 ^ ((i + gk.getD k 0) % 8) % 2
def gax (b : Nat) : Nat → Nat
  | 0 => 0
  | i + 1 => gax b i + gan b i 5 % 2 * 2 ^ i
def gbx (a : Nat) : Nat := gax (giv a) 8
def gux (a : Nat) : Nat := giv (rl8 (a ^^^ 99) 1 ^^^ rl8 (a ^^^ 99) 3 ^^^ rl8 (a ^^^ 99) 6)

theorem gan_le (b i : Nat) : ∀ k, gan b i k ≤ k + 1
  | 0 => by simp only [gan]; omega
  | k + 1 => by
    have := gan_le b i k
    simp only [gan]
    omega
theorem gax_lt (b : Nat) : ∀ i, gax b i < 2 ^ i
  | 0 => by simp [gax]
  | i + 1 => by
    have := gax_lt b i
    simp only [gax, Nat.pow_succ]
    rcases Nat.mod_two_eq_zero_or_one (gan b i 5) with h1 | h1 <;> rw [h1] <;> omega
theorem gbx_lt (a : Nat) : gbx a < 256 := gax_lt _ 8
theorem rl8_lt {x n : Nat} (h : x < 256) : rl8 x n < 256 := by
  have : x / 2 ^ (8 - n) ≤ x := Nat.div_le_self _ _
  exact Nat.or_lt_two_pow (n := 8) (Nat.mod_lt _ (by decide)) (by omega)
theorem gsb_lt {b : Nat} (h : b < 256) : ∀ n, gsb b n < 256
  | 0 => xor_lt8 (by decide) h
  | n + 1 => xor_lt8 (gsb_lt h n) (rl8_lt h)
theorem gux_lt {a : Nat} (h : a < 256) : gux a < 256 := by
  have h2 : a ^^^ 99 < 256 := xor_lt8 h (by decide)
  exact giv_lt (xor_lt8 (xor_lt8 (rl8_lt h2) (rl8_lt h2)) (rl8_lt h2))

theorem gsb_all : (List.range 256).all (fun b => Nat.beq (gsb b 4) (gax b 8)) = true := by kernel_rfl
theorem gsb_eq {a : Nat} (h : a < 256) : gsb (giv a) 4 = gbx a := by
  have := List.all_eq_true.mp gsb_all (giv a) (List.mem_range.mpr (giv_lt h))
  exact Nat.eq_of_beq_eq_true this
theorem gux_all : (List.range 256).all (fun a => Nat.beq (gvf (rl8 (gax (gvf a) 8 ^^^ 99) 1 ^^^ rl8 (gax (gvf a) 8 ^^^ 99) 3 ^^^ rl8 (gax (gvf a) 8 ^^^ 99) 6)) a
    && Nat.beq (gax (gvf (gvf (rl8 (a ^^^ 99) 1 ^^^ rl8 (a ^^^ 99) 3 ^^^ rl8 (a ^^^ 99) 6))) 8) a) = true := by kernel_rfl
theorem gux_gbx {a : Nat} (h : a < 256) : gux (gbx a) = a ∧ gbx (gux a) = a := by
  have := List.all_eq_true.mp gux_all a (List.mem_range.mpr h)
  simp only [Bool.and_eq_true] at this
  have h2 : a ^^^ 99 < 256 := xor_lt8 h (by decide)
  have h3 : gbx a ^^^ 99 < 256 := xor_lt8 (gbx_lt a) (by decide)
  have e1 : gbx a = gax (gvf a) 8 := by rw [gbx, gvf_eq h]
  refine ⟨?_, ?_⟩
  · unfold gux
    rw [gvf_eq (xor_lt8 (xor_lt8 (rl8_lt h3) (rl8_lt h3)) (rl8_lt h3)), e1]
    exact Nat.eq_of_beq_eq_true this.1
  · have h4 := xor_lt8 (xor_lt8 (rl8_lt (n := 1) h2) (rl8_lt (n := 3) h2)) (rl8_lt (n := 6) h2)
    rw [gbx, gvf_eq (gux_lt h), gux, gvf_eq h4]
    exact Nat.eq_of_beq_eq_true this.2

/-- the powers of 3 are all bytes but 0. -/
def p3s : Nat → Nat → List Nat
  | 0, _ => []
  | n + 1, x => x :: p3s n (gm x 3)
theorem p3s_all : (List.range 256).all (fun a => Nat.beq a 0 || (p3s 255 1).any (Nat.beq a)) = true := by kernel_rfl
theorem p3s_mem : ∀ n k a, a ∈ p3s n (gpw 3 k) → ∃ i, i < n ∧ a = gpw 3 (k + i)
  | 0, _, _, h => by cases h
  | n + 1, k, a, h => by
    simp only [p3s, List.mem_cons] at h
    rcases h with rfl | h
    · exact ⟨0, by omega, rfl⟩
    · obtain ⟨i, hi, e⟩ := p3s_mem n (k + 1) a h
      exact ⟨i + 1, by omega, by rw [e]; congr 1; omega⟩
theorem log3 {a : Nat} (h : a < 256) (h0 : a ≠ 0) : ∃ i, i < 255 ∧ a = gpw 3 i := by
  have := List.all_eq_true.mp p3s_all a (List.mem_range.mpr h)
  simp only [Bool.or_eq_true] at this
  rcases this with h1 | h1
  · exact absurd (Nat.eq_of_beq_eq_true h1) h0
  · obtain ⟨x, hx, e⟩ := List.any_eq_true.mp h1
    have e := Nat.eq_of_beq_eq_true e
    subst e
    obtain ⟨i, hi, e⟩ := p3s_mem 255 0 a hx
    exact ⟨i, hi, by rw [e, Nat.zero_add]⟩
theorem gpw3_ne {i : Nat} : gpw 3 i ≠ 0 := by
  intro h
  have h1 := gpw_mod (a := 3) (by decide) (by decide) i
  have h2 := gpw_add (a := 3) (by decide) (255 - i % 255) (i % 255)
  rw [show 255 - i % 255 + i % 255 = 255 by omega, h1, h, gm_zero_r, gpw_255 (by decide) (by decide)] at h2
  cases h2
theorem giv_gpw {a : Nat} (h : a < 256) (h0 : a ≠ 0) (i : Nat) (hi : i < 255) : gpw a ((255 - i) % 255) = giv (gpw a i) := by
  refine giv_uniq (gpw_lt h _) (gpw_lt h _) ?_
  rw [← gpw_add h]
  rcases Nat.eq_zero_or_pos i with rfl | hp
  · rfl
  · rw [show i + (255 - i) % 255 = 255 by omega]
    exact gpw_255 h h0

/-- the inverses, laid one by one. -/
def gia : Nat → List Int
  | 0 => List.replicate 256 0
  | i + 1 => (gia i).set (gpw 3 i) ((gpw 3 ((255 - i) % 255) : Nat) : Int)
theorem gia_len : ∀ i, (gia i).length = 256
  | 0 => List.length_replicate ..
  | i + 1 => by simp only [gia, List.length_set, gia_len i]
theorem getD_set' (l : List Int) (i j : Nat) (v : Int) (h : i < l.length) : (l.set i v).getD j 0 = if i = j then v else l.getD j 0 := by
  rw [List.getD_eq_getElem?_getD, List.getD_eq_getElem?_getD, List.getElem?_set]
  by_cases e : i = j
  · subst e
    simp [h]
  · simp [e]
theorem gia_get (n : Nat) (hn : n ≤ 255) : (gia n).getD 0 0 = 0 ∧ ∀ i, i < n → (gia n).getD (gpw 3 i) 0 = ((giv (gpw 3 i) : Nat) : Int) := by
  induction n with
  | zero => exact ⟨rfl, fun i h => absurd h (Nat.not_lt_zero i)⟩
  | succ n ih =>
    obtain ⟨h0, h1⟩ := ih (by omega)
    have hlt : gpw 3 n < (gia n).length := by rw [gia_len]; exact gpw_lt (by decide) n
    refine ⟨?_, fun i hi => ?_⟩
    · rw [gia, getD_set' _ _ _ _ hlt, if_neg gpw3_ne, h0]
    · rw [gia, getD_set' _ _ _ _ hlt]
      by_cases e : gpw 3 n = gpw 3 i
      · rw [if_pos e, giv_gpw (by decide) (by decide) n (by omega), e]
      · rw [if_neg e]
        rcases Nat.lt_or_ge i n with h | h
        · exact h1 i h
        · obtain rfl : i = n := by omega
          exact absurd rfl e
theorem gia_giv {a : Nat} (h : a < 256) : (gia 255).getD a 0 = ((giv a : Nat) : Int) := by
  obtain ⟨h0, h1⟩ := gia_get 255 (Nat.le_refl _)
  by_cases ha : a = 0
  · subst ha
    rw [h0, giv_zero]
    rfl
  · obtain ⟨i, hi, rfl⟩ := log3 h ha
    exact h1 i hi

def boxL : List Int := (List.range 256).map fun a => ((gbx a : Nat) : Int)
theorem boxL_len : boxL.length = 256 := by simp [boxL]
theorem boxL_get {a : Nat} (h : a < 256) : boxL.getD a 0 = ((gbx a : Nat) : Int) := by
  simp [boxL, List.getD_eq_getElem?_getD, h]
/-- a list of bytes turned round. -/
def gub (l : List Int) : Nat → List Int
  | 0 => List.replicate 256 0
  | i + 1 => (gub l i).set (l.getD i 0).toNat ((i % 256 : Nat) : Int)
theorem gub_len (l : List Int) : ∀ i, (gub l i).length = 256
  | 0 => List.length_replicate ..
  | i + 1 => by simp only [gub, List.length_set, gub_len l i]
theorem gub_box {a : Nat} (h : a < 256) : (gub boxL 256).getD a 0 = ((gux a : Nat) : Int) := by
  have key : ∀ n, n ≤ 256 → ∀ i, i < n → (gub boxL n).getD (gbx i) 0 = (i : Int) := by
    intro n
    induction n with
    | zero => exact fun _ i h => absurd h (Nat.not_lt_zero i)
    | succ n ih =>
      intro hn i hi
      have hlt : gbx n < (gub boxL n).length := by rw [gub_len]; exact gbx_lt n
      rw [gub, boxL_get (by omega), Int.toNat_natCast, getD_set' _ _ _ _ hlt]
      by_cases e : gbx n = gbx i
      · rw [if_pos e]
        have e1 := (gux_gbx (a := n) (by omega)).1
        have e2 := (gux_gbx (a := i) (by omega)).1
        rw [e, e2] at e1
        rw [e1]
        omega
      · rw [if_neg e]
        rcases Nat.lt_or_ge i n with h | h
        · exact ih (by omega) i h
        · obtain rfl : i = n := by omega
          exact absurd rfl e
  have := key 256 (Nat.le_refl _) (gux a) (gux_lt h)
  rwa [(gux_gbx h).2] at this

/-- one entry of a turned product, k terms in. -/
def gce (c by' : List Int) (i : Nat) : Nat → Nat
  | 0 => 0
  | k + 1 => gce c by' i k ^^^ gm (by'.getD k 0).toNat (c.getD ((i + k) % 4) 0).toNat
def gcl (c by' : List Int) (i : Nat) : List Int := (List.range i).map fun j => ((gce c by' j 4 : Nat) : Int)

end Go.Vg
