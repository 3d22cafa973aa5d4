import Derived.Test.YtcdjhhepgkcabaaGf2
/- GfTells, part 3: the box, and the law. -/
namespace Go.Proofs.Ytcdjhhepgkcabaa
open Go Go.Vg

theorem tab_set (f : Nat → Int) (n i : Nat) (h : i < n) :
    ((List.range i).map f ++ List.replicate (n - i) 0).set i (f i) = (List.range (i + 1)).map f ++ List.replicate (n - (i + 1)) 0 := by
  rw [show n - i = (n - (i + 1)) + 1 by omega, List.replicate_succ, List.set_append_right _ _ (by simp), List.length_map, List.length_range, Nat.sub_self, List.set_cons_zero, List.range_succ, List.map_append, List.append_assoc]
  rfl
theorem pwL_get {i : Nat} (h : i < 255) : (pwL 255 ++ List.replicate (255 - 255) 0).getD i 0 = ((gpw 3 i : Nat) : Int) := by
  rw [Nat.sub_self, List.replicate_zero, List.append_nil]
  simp [pwL, List.getD_eq_getElem?_getD, h]
theorem box_set {a : Nat} (h : a < 256) : (boxL.take a ++ List.replicate (256 - a) 0).set a ((gbx a : Nat) : Int) = boxL.take (a + 1) ++ List.replicate (256 - (a + 1)) 0 := by
  have := tab_set (fun j => ((gbx j : Nat) : Int)) 256 a h
  have e : ∀ i, i ≤ 256 → boxL.take i = (List.range i).map fun j => ((gbx j : Nat) : Int) := by
    intro i hi
    rw [boxL, ← List.map_take, List.take_range, Nat.min_eq_left hi]
  rw [e a (by omega), e (a + 1) (by omega)]
  exact this
theorem gk_get {k : Nat} (h : k < 5) : [(0 : Int), 4, 5, 6, 7].getD k 0 = ((gk.getD k 0 : Nat) : Int) ∧ gk.getD k 0 < 8 := by
  obtain rfl | rfl | rfl | rfl | rfl : k = 0 ∨ k = 1 ∨ k = 2 ∨ k = 3 ∨ k = 4 := by omega
  all_goals exact ⟨rfl, by decide⟩

set_option maxRecDepth 100000 in
theorem m30 : Meets Try.prog 30 sp30 := by
  refine meets_of_owed (C := c41) ⟨tab_ok, lkS_ok ⟨m32, trivial⟩⟩ (by kernel_rfl) (by kernel_rfl : Try.prog.funcs[30]? = some Try.f30) (by kernel_rfl) (by kernel_rfl) (by kernel_rfl) _ ?_
  intro ds hds
  obtain rfl : ds = [] := List.length_eq_zero_iff.mp hds
  refine ⟨fun _ => rfl, inv30, ?_⟩
  show owed c41 inv30 Try.f30 [] (b256 boxP)
  rw [vc30]
  simp (decide := true) only [eq_self, true_and, and_true, ne_eq, not_false_eq_true, Int.toNat_natCast]
  refine ⟨⟨⟨rfl, rfl⟩, rfl⟩, ?_⟩
  intro x hx
  split
  · rename_i h
    have h := of_decide_eq_true h
    rw [show ((x : Int) + 1) = ((x + 1 : Nat) : Int) by omega, wNi (n := x + 1) (by omega)]
    simp only [Int.toNat_natCast]
    have e : (pwL x ++ List.replicate (255 - x) 0).set x ((gpw 3 x : Nat) : Int) = pwL (x + 1) ++ List.replicate (255 - (x + 1)) 0 := tab_set _ 255 x (by omega)
    rw [e]
    have hp : ∃ a b : Nat, [u8 (gpw 3 x), D.val (Value.int IntKind.u8 3)] = [u8 a, u8 b] ∧ a < 256 ∧ b < 256 := ⟨_, 3, rfl, gpw_lt (by decide) x, by decide⟩
    and_intros <;> first | exact hp | omega | rfl | trivial
  rename_i h
  have h := of_decide_eq_false h
  obtain rfl : x = 255 := by omega
  clear h hx
  refine ⟨by and_intros <;> first | rfl | trivial, ?_⟩
  intro x hx
  split
  · rename_i h
    have h := of_decide_eq_true h
    have hlt : (255 - x) % 255 < 255 := Nat.mod_lt _ (by decide)
    have e1 : (255 : Int) - (x : Int) = ((255 - x : Nat) : Int) := by omega
    have e2 : ((255 - x : Nat) : Int).tmod 255 = (((255 - x) % 255 : Nat) : Int) := tmodN (255 - x) 255
    have hg : gpw 3 x < 256 := gpw_lt (by decide) x
    have e : (gia x).set (gpw 3 x) ((gpw 3 ((255 - x) % 255) : Nat) : Int) = gia (x + 1) := rfl
    rw [e1, wNi (n := 255 - x) (by omega), e2, show ((x : Int) + 1) = ((x + 1 : Nat) : Int) by omega, wNi (n := x + 1) (by omega)]
    simp only [Int.toNat_natCast]
    rw [pwL_get (i := x) (by omega), pwL_get hlt]
    simp only [Int.toNat_natCast]
    rw [e]
    and_intros <;> first | omega | rfl | trivial
  rename_i h
  have h := of_decide_eq_false h
  obtain rfl : x = 255 := by omega
  clear h hx
  refine ⟨by and_intros <;> first | rfl | trivial, ?_⟩
  intro a ha
  split
  · rename_i h
    have h := of_decide_eq_true h
    have hg := giv_lt (a := a) (by omega)
    rw [gia_giv (a := a) (by omega), wNi (n := giv a) (by omega), show ((a : Int) + 1) = ((a + 1 : Nat) : Int) by omega, wNi (n := a + 1) (by omega)]
    simp only [Int.toNat_natCast]
    refine ⟨by omega, ⟨⟨rfl, rfl⟩, trivial⟩, ?_⟩
    rintro ⟨b, i⟩ ⟨hb, hi⟩
    simp only at hb hi ⊢
    obtain rfl : b = giv a := by omega
    split
    · rename_i h2
      have h2 := of_decide_eq_true h2
      rw [show (99 : Int) = ((99 : Nat) : Int) from rfl, ishrN .i64 (by simp only [IntKind.bits]; omega), iand1 .i64 (by rw [kbi]; exact Nat.lt_of_le_of_lt (Nat.div_le_self _ _) (by decide)),
        show ((i : Int) + 1) = ((i + 1 : Nat) : Int) by omega, wNi (n := i + 1) (by omega)]
      simp only [Int.toNat_natCast]
      refine ⟨by omega, ⟨⟨rfl, rfl⟩, trivial⟩, ?_⟩
      rintro ⟨b, j, k⟩ ⟨hb2, hj, hk⟩
      simp only at hb2 hj hk ⊢
      obtain rfl : b = giv a := by omega
      obtain rfl : j = i := by omega
      split
      · rename_i h3
        have h3 := of_decide_eq_true h3
        obtain ⟨e1, e2⟩ := gk_get (k := k) (by omega)
        have e3 : (((j + gk.getD k 0 : Nat) : Int)).tmod 8 = (((j + gk.getD k 0) % 8 : Nat) : Int) := tmodN _ 8
        have hs : (j + gk.getD k 0) % 8 < 8 := Nat.mod_lt _ (by decide)
        have hq : giv a / 2 ^ ((j + gk.getD k 0) % 8) < kb .i64 := Nat.lt_of_le_of_lt (Nat.div_le_self _ _) (by rw [kbi]; omega)
        have hn := gan_le (giv a) j k
        have e4 : gan (giv a) j (k + 1) = gan (giv a) j k + giv a / 2 ^ ((j + gk.getD k 0) % 8) % 2 := rfl
        rw [e1, show ((j : Int) + ((gk.getD k 0 : Nat) : Int)) = ((j + gk.getD k 0 : Nat) : Int) by omega, wNi (n := j + gk.getD k 0) (by omega), e3, ishrN .i64 (by simp only [IntKind.bits]; omega), iand1 .i64 hq,
          show (((gan (giv a) j k : Nat) : Int) + ((giv a / 2 ^ ((j + gk.getD k 0) % 8) % 2 : Nat) : Int)) = ((gan (giv a) j k + giv a / 2 ^ ((j + gk.getD k 0) % 8) % 2 : Nat) : Int) by omega, ← e4,
          wNi (n := gan (giv a) j (k + 1)) (by have := gan_le (giv a) j (k + 1); omega), show ((k : Int) + 1) = ((k + 1 : Nat) : Int) by omega, wNi (n := k + 1) (by omega)]
        simp only [Int.toNat_natCast]
        and_intros <;> first | omega | rfl | trivial
      · rename_i h3
        have h3 := of_decide_eq_false h3
        obtain rfl : k = 5 := by omega
        have e5 : ((gan (giv a) j 5 : Nat) : Int).tmod 2 = ((gan (giv a) j 5 % 2 : Nat) : Int) := tmodN _ 2
        have h2j : 2 ^ j ≤ 2 ^ 7 := Nat.pow_le_pow_right (by decide) (by omega)
        have hx := gax_lt (giv a) j
        have hx1 := gax_lt (giv a) (j + 1)
        have h2k : 2 ^ (j + 1) ≤ 2 ^ 8 := Nat.pow_le_pow_right (by decide) (by omega)
        have e6 : gax (giv a) (j + 1) = gax (giv a) j + gan (giv a) j 5 % 2 * 2 ^ j := rfl
        rw [e5, ishlN .i64 (by simp only [IntKind.bits]; omega), wNi (n := gan (giv a) j 5 % 2 * 2 ^ j) (by omega), ← Int.natCast_add, ← e6, wNi (n := gax (giv a) (j + 1)) (by omega)]
        and_intros <;> first | omega | rfl | trivial
    · rename_i h2
      have h2 := of_decide_eq_false h2
      obtain rfl : i = 8 := by omega
      have hlt := gbx_lt a
      have e : gax (giv a) 8 = gbx a := rfl
      rw [e, wN8, Nat.mod_eq_of_lt hlt, box_set (by omega)]
      and_intros <;> first | omega | rfl | trivial
  · rename_i h
    have h := of_decide_eq_false h
    obtain rfl : a = 256 := by omega
    have e : boxP = boxL := opq_eq _
    rw [e, Nat.sub_self, List.replicate_zero, List.append_nil, List.take_of_length_le (by rw [boxL_len]; exact Nat.le_refl _)]

set_option maxRecDepth 100000 in
theorem ok5  (d : D)  :
    (OkT tab 8 5 d) = (
 ∃ (z : Int), d = D.val (Value.int IntKind.u8 z) ∧ (0 : Int) ≤ z ∧ z ≤ IntKind.u8.max) := by kernel_rfl
set_option maxRecDepth 100000 in
theorem ok57  (d : D)  :
    (OkT tab 8 57 d) = (
 ∃ (z : Int), d = D.val (Value.int IntKind.u64 z) ∧ (0 : Int) ≤ z ∧ z ≤ IntKind.u64.max) := by kernel_rfl
set_option maxRecDepth 100000 in
theorem ok58  (d : D)  :
    (OkT tab 8 58 d) = (
 ∃ (l : List Int), d = D.arr IntKind.u8 (4 : Nat) l ∧ l.length = (4 : Nat) ∧ ∀ (z : Int), z ∈ l → (0 : Int) ≤ z ∧ z ≤ IntKind.u8.max) := by kernel_rfl

theorem u8_of {d : D} (h : OkT tab 8 5 d) : ∃ n, d = u8 n ∧ n < 256 := by
  rw [ok5] at h
  obtain ⟨z, rfl, h1, h2⟩ := h
  have h2 := Int.lt_of_le_of_lt h2 (by decide : IntKind.u8.max < 256)
  exact ⟨z.toNat, by rw [u8, Int.toNat_of_nonneg h1], by omega⟩
theorem u64_of {d : D} (h : OkT tab 8 57 d) : ∃ n, d = u64n n ∧ n < 18446744073709551616 := by
  rw [ok57] at h
  obtain ⟨z, rfl, h1, h2⟩ := h
  have h2 := Int.lt_of_le_of_lt h2 (by decide : IntKind.u64.max < 18446744073709551616)
  exact ⟨z.toNat, by rw [u64n, Int.toNat_of_nonneg h1], by omega⟩
theorem b4_of {d : D} (h : OkT tab 8 58 d) : ∃ l, d = b4 l ∧ okb l ∧ l.length = 4 := by
  rw [ok58] at h
  obtain ⟨l, rfl, h1, h2⟩ := h
  exact ⟨l, rfl, fun x hx => ⟨(h2 x hx).1, Int.lt_of_le_of_lt (h2 x hx).2 (by decide)⟩, h1⟩

set_option maxRecDepth 100000 in
theorem m7 : Meets Try.prog 7 (lawSpec tab Try.f7.params.toList) := by
  refine meets_of_owed (C := c7) ⟨tab_ok, lkS_ok ⟨m30, m31, m32, m33, m34, m35, m36, m37, m38, m39, m40, m41, m42, trivial⟩⟩ (by kernel_rfl) (by kernel_rfl : Try.prog.funcs[7]? = some Try.f7) (by kernel_rfl) (by kernel_rfl) (by kernel_rfl) _ ?_
  intro ds hds
  obtain ⟨a, b, n, l, rfl, ha, hb, hn, hl, hl4⟩ : ∃ a b n l, ds = [u8 a, u8 b, u64n n, b4 l] ∧ a < 256 ∧ b < 256 ∧ n < 18446744073709551616 ∧ okb l ∧ l.length = 4 := by
    match ds, hds with
    | [d, e, f, g], h =>
      obtain ⟨a, rfl, h1⟩ := u8_of h.1
      obtain ⟨b, rfl, h2⟩ := u8_of h.2.1
      obtain ⟨n, rfl, h3⟩ := u64_of h.2.2.1
      obtain ⟨l, rfl, h4, h5⟩ := b4_of h.2.2.2.1
      exact ⟨a, b, n, l, rfl, h1, h2, h3, h4, h5⟩
  refine ⟨fun _ => rfl, fun _ => none, ?_⟩
  show owed c7 (fun _ => none) Try.f7 [u8 a, u8 b, u64n n, b4 l] (.val (.bool true))
  rw [vc7]
  have eP : boxP = boxL := opq_eq _
  have eqs : ∀ a : List Int, eqB a a = true := fun a => eqB_iff.mpr rfl
  have hbx : okb boxL := by
    intro x hx
    obtain ⟨j, hj, rfl⟩ := List.mem_map.mp hx
    have := gbx_lt j
    omega
  have ok1 : okb [2, 3, 1, 1] := by
    intro x hx
    simp at hx
    omega
  have ok2 : okb [14, 11, 13, 9] := by
    intro x hx
    simp at hx
    omega
  simp (decide := true) only [eq_self, true_and, and_true, ne_eq, not_false_eq_true, Int.toNat_natCast, beq_self_eq_true, eP, boxL_get ha, gub_box ha, eqs]
  exact ⟨⟨a, b, rfl, ha, hb⟩, ⟨a, b, rfl, ha, hb⟩, ⟨a, n, rfl, ha, hn⟩, ⟨a, n, rfl, ha, hn⟩, ⟨a, rfl, ha⟩, ⟨a, rfl, ha⟩, ⟨a, rfl, ha⟩, ⟨by omega, by omega⟩, ⟨a, rfl, ha⟩, ⟨boxL, rfl, hbx, boxL_len⟩, ⟨by omega, by omega⟩,
    ⟨l, rfl, hl, hl4⟩, ⟨l, _, rfl, ⟨hl, hl4⟩, ok1, rfl⟩, ⟨l, rfl, hl, hl4⟩, ⟨l, _, rfl, ⟨hl, hl4⟩, ok2, rfl⟩⟩

end Go.Proofs.Ytcdjhhepgkcabaa
