import Derived.Test.YtcdjhhepgkcabaaDoorHd2
/- digests: blocks written one by one are blocks taken in a row (no program in sight). -/
namespace Go.Proofs.YtcdjhhepgkcabaaDoor
open Go Go.Vg

/-- The words behind so many blocks of a text. -/
def fhK (h : R8) (m : List Int) : Nat → R8
  | 0 => h
  | k + 1 => pr (fhK h m k) ((m.drop (64 * k)).take 64)
def bt (l : List Int) (j k : Nat) : Int := ((l.getD j 0).toNat / 256 ^ k % 256 : Nat)
/-- The bytes of words. -/
def outL (x : R8) : List Int := (List.range 32).map fun i => bt x.l (i / 4) (3 - i % 4)
/-- A state's digest. -/
def sumL (s : HS) : List Int := outL (wrS s (padL s.n)).h
def iv : R8 := ⟨0x6a09e667, 0xbb67ae85, 0x3c6ef372, 0xa54ff53a, 0x510e527f, 0x9b05688c, 0x1f83d9ab, 0x5be0cd19⟩
def st0 : HS := ⟨iv, 0, List.replicate 64 0⟩
/-- The reference's digest: from words that have n bytes, p more. -/
def fromL (x : R8) (n : Nat) (p : List Int) : List Int :=
  outL (fhK x (p ++ padL ((n + p.length) % 18446744073709551616)) ((p ++ padL ((n + p.length) % 18446744073709551616)).length / 64))
def digL (p : List Int) : List Int := fromL iv 0 p

theorem fh_app (h : R8) (m t : List Int) : ∀ k, 64 * k ≤ m.length → fhK h (m ++ t) k = fhK h m k
  | 0, _ => rfl
  | k + 1, hk => by
    show pr (fhK h (m ++ t) k) (((m ++ t).drop (64 * k)).take 64) = pr (fhK h m k) ((m.drop (64 * k)).take 64)
    rw [fh_app h m t k (by omega), List.drop_append_of_le_length (by omega), List.take_append_of_le_length (by rw [List.length_drop]; omega)]
theorem set_take (L : List Int) (r : Nat) (b : Int) (h : r < L.length) : (L.set r b).take (r + 1) = L.take r ++ [b] := by
  rw [take_snoc (p := L.set r b) (by rw [List.length_set]; exact h), List.take_set, List.set_eq_of_length_le (by rw [List.length_take]; omega)]
  rw [List.getD_eq_getElem?_getD, List.getElem?_set_self h]
  rfl
theorem wr_fh (h : R8) (n : Nat) (l : List Int) (hl : l.length = 64) (hn : n % 64 = 0) (hn2 : n < 18446744073709551616) (m : List Int) :
    ∀ k, k ≤ m.length → ∃ L : List Int, L.length = 64 ∧ wrS ⟨h, n, l⟩ (m.take k) = ⟨fhK h m (k / 64), (n + k) % 18446744073709551616, L⟩ ∧ L.take (k % 64) = (m.take k).drop (64 * (k / 64))
  | 0, _ => ⟨l, hl, by
      show HS.mk h n l = ⟨h, (n + 0) % 18446744073709551616, l⟩
      rw [show (n + 0) % 18446744073709551616 = n by omega], rfl⟩
  | k + 1, hk => by
    obtain ⟨L, h1, h2, h3⟩ := wr_fh h n l hl hn hn2 m k (by omega)
    have hlt : k % 64 < L.length := by omega
    have e1 : (n + k) % 18446744073709551616 % 64 = k % 64 := by omega
    have e2 : ((n + k) % 18446744073709551616 + 1) % 18446744073709551616 = (n + (k + 1)) % 18446744073709551616 := by omega
    have e3 : (L.set (k % 64) (m.getD k 0)).take (k % 64 + 1) = (m.take (k + 1)).drop (64 * (k / 64)) := by
      rw [set_take _ _ _ hlt, h3, take_snoc (show k < m.length by omega), List.drop_append_of_le_length (by rw [List.length_take]; omega)]
    rw [wr_snoc _ (show k < m.length by omega), h2]
    refine ⟨L.set (k % 64) (m.getD k 0), by rw [List.length_set]; exact h1, ?_⟩
    unfold stp
    simp only [e1, e2]
    by_cases hc : (n + (k + 1)) % 18446744073709551616 % 64 = 0
    · have hc2 : (k + 1) % 64 = 0 := by omega
      have q : (k + 1) / 64 = k / 64 + 1 := by omega
      have r : k % 64 + 1 = 64 := by omega
      rw [if_pos hc, q, hc2]
      rw [r, List.take_of_length_le (by rw [List.length_set]; omega), List.drop_take, show k + 1 - 64 * (k / 64) = 64 by omega] at e3
      refine ⟨?_, ?_⟩
      · rw [e3]
        rfl
      · rw [List.drop_eq_nil_of_le (by rw [List.length_take]; omega)]
        rfl
    · have q : (k + 1) / 64 = k / 64 := by omega
      have r : (k + 1) % 64 = k % 64 + 1 := by omega
      rw [if_neg hc, q, r]
      exact ⟨rfl, e3⟩
theorem padL_len (n : Nat) : (padL n).length = 9 + zc n := by
  unfold padL
  rw [List.length_cons, List.length_append, List.length_replicate, tl_len]
  omega
theorem wr_full (h : R8) (n : Nat) (l : List Int) (hl : l.length = 64) (hn : n % 64 = 0) (hn2 : n < 18446744073709551616) (m : List Int) :
    (wrS ⟨h, n, l⟩ m).h = fhK h m (m.length / 64) ∧ (wrS ⟨h, n, l⟩ m).n = (n + m.length) % 18446744073709551616 := by
  obtain ⟨L, _, h2, _⟩ := wr_fh h n l hl hn hn2 m m.length (Nat.le_refl _)
  rw [List.take_length] at h2
  rw [h2]
  exact ⟨rfl, rfl⟩
theorem sum_from (h : R8) (n : Nat) (l : List Int) (hl : l.length = 64) (hn : n % 64 = 0) (hn2 : n < 18446744073709551616) (p : List Int) :
    sumL (wrS ⟨h, n, l⟩ p) = fromL h n p := by
  unfold sumL fromL
  rw [(wr_full h n l hl hn hn2 p).2, ← wr_app, (wr_full h n l hl hn hn2 _).1]
theorem sum_st0 (p : List Int) : sumL (wrS st0 p) = digL p := sum_from iv 0 _ (by simp) rfl (by decide) p
theorem m64 (n : Nat) (p : List Int) (hn : n % 64 = 0) : (p ++ padL ((n + p.length) % 18446744073709551616)).length % 64 = 0 := by
  rw [List.length_append, padL_len]
  unfold zc
  omega
theorem outL_len (x : R8) : (outL x).length = 32 := by unfold outL; simp
theorem outL_bytes (x : R8) : isBytes (outL x) := by
  intro y hy
  unfold outL at hy
  obtain ⟨i, _, rfl⟩ := List.mem_map.1 hy
  unfold bt
  omega
theorem outL_get (x : R8) {i : Nat} (h : i < 32) : (outL x).getD i 0 = bt x.l (i / 4) (3 - i % 4) := by
  unfold outL
  rw [List.getD_eq_getElem?_getD, List.getElem?_map, List.getElem?_range h]
  rfl
theorem fill (L : List Int) {k n : Nat} (hn : L.length = n) (h : k < n) : (L.take k ++ List.replicate (n - k) 0).set k (L.getD k 0) = L.take (k + 1) ++ List.replicate (n - (k + 1)) 0 := by
  have e : n - k = (n - (k + 1)) + 1 := by omega
  have el : (L.take k).length = k := by rw [List.length_take]; omega
  rw [e, List.replicate_succ, List.set_append_right _ _ (by omega), el, Nat.sub_self, List.set_cons_zero, take_snoc (by omega), List.append_assoc]
  rfl
theorem st0_ok : okS st0 := ⟨rfl, by intro x hx; rw [show st0.l = List.replicate 64 0 from rfl] at hx; have := List.eq_of_mem_replicate hx; omega, by decide⟩
theorem xl_get (x : R8) {j : Nat} (h : j < 8) : ∃ w : W, x.l.getD j 0 = ((w.toNat : Nat) : Int) := by
  rcases (by omega : j = 0 ∨ j = 1 ∨ j = 2 ∨ j = 3 ∨ j = 4 ∨ j = 5 ∨ j = 6 ∨ j = 7) with rfl | rfl | rfl | rfl | rfl | rfl | rfl | rfl <;> exact ⟨_, rfl⟩
end Go.Proofs.YtcdjhhepgkcabaaDoor
