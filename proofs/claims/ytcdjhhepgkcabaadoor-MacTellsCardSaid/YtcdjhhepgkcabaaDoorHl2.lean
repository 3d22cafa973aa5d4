import Derived.Test.YtcdjhhepgkcabaaDoorHl
/- The laws HashTells and HashResumes: the proofs. -/
namespace Go.Proofs.YtcdjhhepgkcabaaDoor
open Go Go.Vg

theorem eqB_refl (l : List Int) : eqB l l = true := eqB_iff.2 rfl
theorem ofS' (s : HS) : ofS (D.st [D.arr .u32 8 s.h.l, D.val (.int .u64 (s.n : Int)), D.arr .u8 64 s.l]) = s := ofS_eq s
theorem bytes_of {d : D} {n : Nat} (h : OkT tab 8 22 d) (e : n = 1000000000000000) : ∃ l : List Int, d = .ints .u8 l ∧ isBytes l ∧ l.length ≤ 140737488351232 := by
  rw [ok22] at h
  obtain ⟨l, rfl, h1, _, h2⟩ := h
  refine ⟨l, rfl, fun x hx => ?_, by omega⟩
  have := h1 x hx
  have e : IntKind.u8.max = 255 := rfl
  rw [e] at this
  omega
theorem u64_of {d : D} (h : OkT tab 8 23 d) : ∃ n : Nat, d = u64 (n : Int) ∧ n < 18446744073709551616 := by
  rw [ok23] at h
  obtain ⟨z, rfl, h1, h2⟩ := h
  have e : IntKind.u64.max = 18446744073709551615 := rfl
  rw [e] at h2
  obtain ⟨n, rfl⟩ := Int.eq_ofNat_of_zero_le h1
  exact ⟨n, rfl, by omega⟩
theorem d32_of {d : D} (h : OkT tab 8 31 d) : ∃ l : List Int, d = d32 l ∧ isD l := by
  rw [ok31] at h
  obtain ⟨l, rfl, h1, h2⟩ := h
  refine ⟨l, rfl, fun x hx => ?_, h1⟩
  have := h2 x hx
  have e : IntKind.u8.max = 255 := rfl
  rw [e] at this
  omega
theorem rs_ok {l : List Int} {n : Nat} (hn : n < 18446744073709551616) : okS (rsS l n) := by
  unfold rsS
  split
  · refine ⟨by simp, fun x hx => ?_, hn⟩
    have := List.eq_of_mem_replicate hx
    omega
  · exact st0_ok
theorem digL_len (p : List Int) : (digL p).length = 32 := outL_len _
theorem digL_bytes (p : List Int) : isBytes (digL p) := outL_bytes _

set_option maxRecDepth 100000 in
theorem m3 : Meets Tryd.prog 3 (lawSpec tab Tryd.f3.params.toList) := by
  refine meets_of_owed (C := c3) ⟨tab_ok, lkS_ok ⟨m7, m8, m9, m10, m11, m12, m13, trivial⟩⟩ (by kernel_rfl) (by kernel_rfl : Tryd.prog.funcs[3]? = some Tryd.f3) (by kernel_rfl) (by kernel_rfl) (by kernel_rfl) _ ?_
  intro ds hds
  obtain ⟨p, q, n, rfl, hp, hpl, hq, hql, hn⟩ : ∃ p q n, ds = [.ints .u8 p, .ints .u8 q, u64 ((n : Nat) : Int)] ∧ isBytes p ∧ p.length ≤ 140737488351232 ∧ isBytes q ∧ q.length ≤ 140737488351232 ∧ n < 18446744073709551616 := by
    have hds : OkAll tab 8 [22, 22, 23] ds := hds
    obtain ⟨d, e, f, rfl, h1, h2, h3⟩ := okAll3 hds
    obtain ⟨p, rfl, hp, hpl⟩ := bytes_of h1 rfl
    obtain ⟨q, rfl, hq, hql⟩ := bytes_of h2 rfl
    obtain ⟨n, rfl, hn⟩ := u64_of h3
    exact ⟨p, q, n, rfl, hp, hpl, hq, hql, hn⟩
  refine ⟨fun _ => rfl, fun _ => none, ?_⟩
  show owed c3 (fun _ => none) Tryd.f3 [.ints .u8 p, .ints .u8 q, u64 (n : Int)] (bl true)
  rw [vc3]
  have hy := wr_ok p st0_ok hp
  simp (decide := true) only [ofS', ← wr_app, sum_st0, eqB_refl, eq_self, true_and, and_true, ne_eq, not_false_eq_true, Int.toNat_natCast]
  refine ⟨⟨st0, p, rfl, st0_ok, hp, by omega⟩, ⟨p, rfl, hp, by omega⟩, hp, ⟨p, rfl, hp, by omega⟩, ⟨n, rfl, hn⟩, padL_bytes n, ⟨n, rfl, hn⟩, ⟨_, q, rfl, hy, hq, by omega⟩,
    ⟨_, rfl, by rw [wr_app]; exact wr_ok q hy hq⟩, hp, hq, by omega, ⟨_, rfl, bytes_app hp hq, by rw [List.length_append]; omega⟩, ⟨_, rfl, hy⟩, hp, ⟨p, rfl, hp, by omega⟩, rfl⟩

set_option maxRecDepth 100000 in
theorem m4 : Meets Tryd.prog 4 (lawSpec tab Tryd.f4.params.toList) := by
  refine meets_of_owed (C := c4) ⟨tab_ok, lkS_ok ⟨m8, m10, m13, m14, m15, m16, trivial⟩⟩ (by kernel_rfl) (by kernel_rfl : Tryd.prog.funcs[4]? = some Tryd.f4) (by kernel_rfl) (by kernel_rfl) (by kernel_rfl) _ ?_
  intro ds hds
  obtain ⟨l, n, p, rfl, hl, hn, hp, hpl⟩ : ∃ l n p, ds = [d32 l, u64 ((n : Nat) : Int), .ints .u8 p] ∧ isD l ∧ n < 18446744073709551616 ∧ isBytes p ∧ p.length ≤ 140737488351232 := by
    have hds : OkAll tab 8 [31, 23, 22] ds := hds
    obtain ⟨d, e, f, rfl, h1, h2, h3⟩ := okAll3 hds
    obtain ⟨l, rfl, hl⟩ := d32_of h1
    obtain ⟨n, rfl, hn⟩ := u64_of h2
    obtain ⟨p, rfl, hp, hpl⟩ := bytes_of h3 rfl
    exact ⟨l, n, p, rfl, hl, hn, hp, hpl⟩
  refine ⟨fun _ => rfl, fun _ => none, ?_⟩
  show owed c4 (fun _ => none) Tryd.f4 [d32 l, u64 (n : Int), .ints .u8 p] (bl true)
  rw [vc4]
  have hr := rs_ok (l := l) hn
  have hy := wr_ok p hr hp
  have em : ((n : Nat) : Int).tmod 64 = ((n % 64 : Nat) : Int) := tmodN _ 64
  rw [em]
  simp (decide := true) only [ofS', ofR_l, eqB_refl, eq_self, true_and, and_true, ne_eq, not_false_eq_true, Int.toNat_natCast]
  refine ⟨⟨l, n, rfl, hl, hn⟩, ?_⟩
  have ex1 : ∀ q : List Int, q = p → ∃ s p_1, [stD (rsS l n), D.ints .u8 q] = [stD s, D.ints .u8 p_1] ∧ okS s ∧ isBytes p_1 ∧ p_1.length ≤ 1000000000000000 := fun q e => by subst e; exact ⟨_, _, rfl, hr, hp, by omega⟩
  split
  · rename_i h
    have h : n % 64 ≠ 0 := by
      intro h3
      rw [h3] at h
      cases h
    have h1 : rsS l n = st0 := by unfold rsS; rw [if_neg h]
    have h2 : rsE n = 1 := by unfold rsE; rw [if_neg h]
    rw [h1] at hr hy
    rw [h2, h1]
    simp (decide := true) only [sum_st0, eqB_refl]
    exact ⟨⟨_, _, rfl, hr, hp, by omega⟩, ⟨_, rfl, hy⟩, hp, ⟨p, rfl, hp, by omega⟩, rfl⟩
  · rename_i h
    have h : n % 64 = 0 := by
      have h3 := bne_eq_false_iff_eq.1 h
      omega
    have h1 : rsS l n = ⟨woL l, n, List.replicate 64 0⟩ := by unfold rsS; rw [if_pos h]
    have h2 : rsE n = 0 := by unfold rsE; rw [if_pos h]
    rw [h2]
    rw [show ((0 : Int) == 0) = true from rfl]
    dsimp only
    refine ⟨⟨_, _, rfl, hr, hp, by omega⟩, ⟨_, rfl, hy⟩, ⟨l, rfl, hl⟩, hp, ⟨woL l, n, p, rfl, hp, by omega, h, hn⟩, ?_⟩
    rw [h1, sum_from (woL l) n _ (by simp) h hn p, eqB_refl]
    rfl

end Go.Proofs.YtcdjhhepgkcabaaDoor
