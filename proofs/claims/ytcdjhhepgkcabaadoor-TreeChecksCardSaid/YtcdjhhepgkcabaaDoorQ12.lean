/- package tree and its reference: Leaf, Node, half: the proofs. -/
import Derived.Test.YtcdjhhepgkcabaaDoorQ11
namespace Go.Proofs.YtcdjhhepgkcabaaDoor
open Go Go.Vg

set_option maxRecDepth 100000 in
theorem m38 : Meets Tryd.prog 38 sp38 := by
  refine meets_of_owed (C := c0) ⟨tab_ok, fun f s h => by cases h⟩ (by kernel_rfl) (by kernel_rfl : Tryd.prog.funcs[38]? = some Tryd.f38) (by kernel_rfl) (by kernel_rfl) (by kernel_rfl) _ ?_
  rintro _ ⟨m, rfl, h1, h2⟩
  refine ⟨fun _ => rfl, inv38 m, ?_⟩
  show owed c0 (inv38 m) Tryd.f38 [i64 (m : Int)] (i64 (hf ((m : Int)).toNat : Nat))
  rw [vc38, Int.toNat_natCast]
  simp (decide := true) only [eq_self, true_and, and_true, ne_eq, not_false_eq_true]
  refine ⟨⟨rfl, ⟨0, rfl⟩, by show 1 < m; omega⟩, ?_⟩
  rintro k ⟨⟨j, ej⟩, hk⟩
  have e1 : IntKind.i64.wrap ((m : Int) - (k : Int)) = ((m - k : Nat) : Int) := by rw [wi (by omega) (by omega)]; omega
  have e2 : IntKind.i64.wrap ((k : Int) * 2) = ((2 * k : Nat) : Int) := by rw [wi (by omega) (by omega)]; omega
  have kp : 1 ≤ k := by rw [ej]; exact Nat.two_pow_pos j
  rw [e1, e2, Int.toNat_natCast]
  split
  · rename_i h
    have h : k < m - k := by have := of_decide_eq_true h; omega
    exact ⟨rfl, ⟨⟨j + 1, by rw [ej, Nat.pow_succ]; omega⟩, by omega⟩, by omega⟩
  · rename_i h
    have h : m - k ≤ k := by have := of_decide_eq_false h; omega
    rw [hf_unique (m := m) (j := j) (by omega) (by omega), ← ej]

set_option maxRecDepth 100000 in
theorem m39 : Meets Tryd.prog 39 sp39 := by
  refine meets_of_owed (C := c31) ⟨tab_ok, lkS_ok ⟨m7, m8, m13, trivial⟩⟩ (by kernel_rfl) (by kernel_rfl : Tryd.prog.funcs[39]? = some Tryd.f39) (by kernel_rfl) (by kernel_rfl) (by kernel_rfl) _ ?_
  rintro _ ⟨a, b, rfl, ⟨ha, hal⟩, hb, hbl⟩
  refine ⟨fun _ => rfl, fun _ => none, ?_⟩
  show owed c31 (fun _ => none) Tryd.f39 [d32 a, d32 b] (d32 (nodeL a b))
  rw [vc39]
  have b1 : isBytes [1] := fun x hx => by rw [List.mem_singleton.1 hx]; omega
  have y1 := wr_ok [1] st0_ok b1
  have y2 := wr_ok a y1 ha
  have y3 := wr_ok b y2 hb
  have ta : List.take 32 a = a := List.take_of_length_le (by omega)
  have tb : List.take 32 b = b := List.take_of_length_le (by omega)
  simp (decide := true) only [Int.toNat_natCast, show Int.toNat 32 = 32 from rfl, show Int.toNat 0 = 0 from rfl, List.drop_zero, Nat.sub_zero, ta, tb, ofS', eq_self, true_and, and_true, ne_eq, not_false_eq_true]
  refine ⟨⟨_, _, rfl, st0_ok, b1, by decide⟩, ⟨_, a, rfl, y1, ha, by omega⟩, ⟨_, b, rfl, y2, hb, by omega⟩, ⟨_, rfl, y3⟩, ?_⟩
  rw [← wr_app, ← wr_app, sum_st0]
  rfl

set_option maxRecDepth 100000 in
theorem m33 : Meets Tryd.prog 33 sp39 := by
  refine meets_of_owed (C := c32) ⟨tab_ok, lkS_ok ⟨m10, trivial⟩⟩ (by kernel_rfl) (by kernel_rfl : Tryd.prog.funcs[33]? = some Tryd.f33) (by kernel_rfl) (by kernel_rfl) (by kernel_rfl) _ ?_
  rintro _ ⟨a, b, rfl, ⟨ha, hal⟩, hb, hbl⟩
  refine ⟨fun _ => rfl, fun _ => none, ?_⟩
  show owed c32 (fun _ => none) Tryd.f33 [d32 a, d32 b] (d32 (nodeL a b))
  rw [vc33]
  have i1 : ints { data := { toList := [(1 : UInt8)] } } = [1] := rfl
  have b1 : isBytes [1] := fun x hx => by rw [List.mem_singleton.1 hx]; omega
  have ta : List.take 32 a = a := List.take_of_length_le (by omega)
  have tb : List.take 32 b = b := List.take_of_length_le (by omega)
  rw [i1]
  simp (decide := true) only [Int.toNat_natCast, show Int.toNat 32 = 32 from rfl, show Int.toNat 0 = 0 from rfl, List.drop_zero, Nat.sub_zero, ta, tb, eq_self, true_and, and_true, ne_eq, not_false_eq_true, List.length_cons, List.length_nil, List.length_append, hal, hbl]
  refine ⟨ha, hb, ⟨_, rfl, bytes_app (bytes_app b1 ha) hb, by simp [hal, hbl]⟩, ?_⟩
  unfold nodeL
  rw [List.append_assoc]
  rfl

set_option maxRecDepth 100000 in
theorem m31 : Meets Tryd.prog 31 sp31 := by
  refine meets_of_owed (C := c31) ⟨tab_ok, lkS_ok ⟨m7, m8, m13, trivial⟩⟩ (by kernel_rfl) (by kernel_rfl : Tryd.prog.funcs[31]? = some Tryd.f31) (by kernel_rfl) (by kernel_rfl) (by kernel_rfl) _ ?_
  rintro _ ⟨p, rfl, hp, hl⟩
  refine ⟨fun _ => rfl, fun _ => none, ?_⟩
  show owed c31 (fun _ => none) Tryd.f31 [.ints .u8 p] (d32 (leafL p))
  rw [vc31]
  have b1 : isBytes [0] := fun x hx => by rw [List.mem_singleton.1 hx]; omega
  have y1 := wr_ok [0] st0_ok b1
  have y2 := wr_ok p y1 hp
  simp (decide := true) only [ofS', eq_self, true_and, and_true, ne_eq, not_false_eq_true]
  refine ⟨⟨_, _, rfl, st0_ok, b1, by decide⟩, ⟨_, p, rfl, y1, hp, by omega⟩, ⟨_, rfl, y2⟩, ?_⟩
  rw [← wr_app, sum_st0]
  rfl

set_option maxRecDepth 100000 in
theorem m32 : Meets Tryd.prog 32 sp32 := by
  refine meets_of_owed (C := c32) ⟨tab_ok, lkS_ok ⟨m10, trivial⟩⟩ (by kernel_rfl) (by kernel_rfl : Tryd.prog.funcs[32]? = some Tryd.f32) (by kernel_rfl) (by kernel_rfl) (by kernel_rfl) _ ?_
  rintro _ ⟨p, rfl, hp, hl⟩
  refine ⟨fun _ => rfl, fun _ => none, ?_⟩
  show owed c32 (fun _ => none) Tryd.f32 [.str p] (d32 (leafL p))
  rw [vc32]
  have i0 : ints { data := { toList := [(0 : UInt8)] } } = [0] := rfl
  have b1 : isBytes [0] := fun x hx => by rw [List.mem_singleton.1 hx]; omega
  rw [i0]
  simp (decide := true) only [eq_self, true_and, and_true, ne_eq, not_false_eq_true, List.length_cons, List.length_nil]
  exact ⟨by omega, ⟨_, rfl, bytes_app b1 hp, by rw [List.length_append, List.length_cons, List.length_nil]; omega⟩, rfl⟩

end Go.Proofs.YtcdjhhepgkcabaaDoor
/- package tree and its reference: climb and Check: the proofs. -/
namespace Go.Proofs.YtcdjhhepgkcabaaDoor
open Go Go.Vg

theorem isP_at {p : List D} (h : isP p) {i : Nat} (hi : i < p.length) : ∃ l, p.getD i (.val (.bool false)) = d32 l ∧ isD l := by
  rw [List.getD_eq_getElem?_getD, List.getElem?_eq_getElem hi]
  exact h _ (List.getElem_mem hi)
theorem isP_take {p : List D} (h : isP p) (n : Nat) : isP (p.take n) := fun x hx => h x (List.mem_of_mem_take hx)
theorem isP_drop {p : List D} (h : isP p) (n : Nat) : isP (p.drop n) := fun x hx => h x (List.mem_of_mem_drop hx)
theorem rev_last {p : List D} {n : Nat} (h : p.length = n + 1) : p.reverse = p.getD n (.val (.bool false)) :: (p.take n).reverse := by
  have e : p = p.take n ++ [p.getD n (.val (.bool false))] := by
    have h1 := List.take_append_drop n p
    have h2 : p.drop n = [p.getD n (.val (.bool false))] := by
      rw [List.drop_eq_getElem_cons (by omega), List.drop_eq_nil_of_le (by omega), List.getD_eq_getElem?_getD, List.getElem?_eq_getElem (by omega)]
      rfl
    rw [h2] at h1
    exact h1.symm
  have := congrArg List.reverse e
  rw [List.reverse_append] at this
  exact this
theorem cl_one (i : Nat) (d : List Int) (p : List D) : clD 1 i d p = d ∧ clB 1 i d p = (p.length == 0) := by
  unfold clD clB
  rcases p.length.eq_zero_or_pos with h | h
  · rw [List.length_eq_zero_iff.1 h]
    exact ⟨rfl, rfl⟩
  · obtain ⟨n, hn⟩ : ∃ n, p.length = n + 1 := ⟨p.length - 1, by omega⟩
    rw [rev_last hn, hn]
    exact ⟨rfl, rfl⟩
theorem cl_nil {m : Nat} (h : m ≠ 1) (i : Nat) (d : List Int) : clD m i d [] = d ∧ clB m i d [] = false :=
  ⟨rfl, beq_eq_false_iff_ne.2 h⟩
theorem cl_lt {m i n : Nat} {d : List Int} {p : List D} (h : m ≠ 1) (hp : p.length = n + 1) (hi : i < hf m) :
    clD m i d p = nodeL (clD (hf m) i d (p.take n)) (arrOf (p.getD n (.val (.bool false)))) ∧ clB m i d p = clB (hf m) i d (p.take n) := by
  unfold clD clB
  rw [rev_last hp]
  simp only [clR, if_neg h, if_pos hi]
  trivial
theorem cl_ge {m i n : Nat} {d : List Int} {p : List D} (h : m ≠ 1) (hp : p.length = n + 1) (hi : ¬ i < hf m) :
    clD m i d p = nodeL (arrOf (p.getD n (.val (.bool false)))) (clD (m - hf m) (i - hf m) d (p.take n)) ∧ clB m i d p = clB (m - hf m) (i - hf m) d (p.take n) := by
  unfold clD clB
  rw [rev_last hp]
  simp only [clR, if_neg h, if_neg hi]
  trivial
theorem clD_D {n i : Nat} {d : List Int} {p : List D} (h : isD d) : isD (clD n i d p) := clR_D _ _ _ _ h

set_option maxRecDepth 100000 in
theorem m30 : ∀ n, Meets Tryd.prog 30 (sp30 n)
  | 0 => by
    rintro _ ⟨m, i, d, p, rfl, _, _, _, _, _, h, _⟩
    exact absurd h (Nat.not_lt_zero _)
  | n + 1 => by
    have ih := m30 n
    refine meets_of_owed (C := c30 n) ⟨tab_ok, lkS_ok ⟨ih, m38, m39, trivial⟩⟩ (by kernel_rfl) (by kernel_rfl : Tryd.prog.funcs[30]? = some Tryd.f30) (by kernel_rfl) (by kernel_rfl) (by kernel_rfl) _ ?_
    rintro _ ⟨m, i, d, p, rfl, h1, h2, hi, hd, hp, hn, hn100⟩
    refine ⟨fun _ => rfl, fun _ => none, ?_⟩
    show owed (c30 n) (fun _ => none) Tryd.f30 [i64 (m : Int), i64 (i : Int), d32 d, pth p] (.tup [d32 (clD ((m : Int)).toNat ((i : Int)).toNat d p), .val (.bool (clB ((m : Int)).toNat ((i : Int)).toNat d p))])
    rw [vc30]
    simp (decide := true) only [Int.toNat_natCast, eq_self, true_and, and_true, ne_eq, not_false_eq_true, List.drop_zero]
    split
    · rename_i h
      obtain rfl : m = 1 := by have := eq_of_beq h; omega
      obtain ⟨e1, e2⟩ := cl_one i d p
      rw [e1, e2]
      have e3 : ((p.length : Int) == 0) = (p.length == 0) := by
        cases p <;> rfl
      rw [e3]
    · rename_i h
      have hm : m ≠ 1 := by
        rintro rfl
        cases h
      split
      · rename_i h
        have hl : p.length = 0 := by have := eq_of_beq h; omega
        obtain rfl := List.length_eq_zero_iff.1 hl
        obtain ⟨e1, e2⟩ := cl_nil hm i d
        rw [e1, e2]
      · rename_i h
        have hl : p.length ≠ 0 := by
          intro h3
          rw [h3] at h
          cases h
        obtain ⟨l, hl2⟩ : ∃ l, p.length = l + 1 := ⟨p.length - 1, by omega⟩
        have ew : IntKind.i64.wrap ((p.length : Int) - 1) = ((l : Nat) : Int) := by rw [hl2, wi (by omega) (by omega)]; omega
        obtain ⟨x, ex, hx⟩ := isP_at hp (i := l) (by omega)
        obtain ⟨j, _, k1, k2⟩ := hf_spec (m := m) (by omega)
        have kp := hf_pos m
        have e1 : IntKind.i64.wrap ((m : Int) - (hf m : Int)) = ((m - hf m : Nat) : Int) := by rw [wi (by omega) (by omega)]; omega
        simp only [ew, Int.toNat_natCast, ex]
        have hx' : arrOf (d32 x) = x := rfl
        rw [hx']
        have hpt := isP_take hp l
        have hlt : (p.take l).length < n ∧ (p.take l).length ≤ 100 := by rw [List.length_take]; omega
        refine ⟨⟨m, rfl, by omega, h2⟩, by and_intros <;> first | omega | rfl, ?_⟩
        split
        · rename_i h3
          have h3 : i < hf m := by have := of_decide_eq_true h3; omega
          obtain ⟨c1, c2⟩ := cl_lt (d := d) hm hl2 h3
          rw [c1, c2, ex, hx']
          exact ⟨by and_intros <;> omega, ⟨_, _, _, _, rfl, kp, by omega, h3, hd, hpt, hlt⟩, ⟨_, _, rfl, clD_D hd, hx⟩, rfl⟩
        · rename_i h3
          have h3 : ¬ i < hf m := by have := of_decide_eq_false h3; omega
          have e2 : IntKind.i64.wrap ((i : Int) - (hf m : Int)) = ((i - hf m : Nat) : Int) := by rw [wi (by omega) (by omega)]; omega
          obtain ⟨c1, c2⟩ := cl_ge (d := d) hm hl2 h3
          rw [c1, c2, ex, hx', e1, e2]
          exact ⟨by and_intros <;> omega, ⟨_, _, _, _, rfl, by omega, by omega, by omega, hd, hpt, hlt⟩, ⟨_, _, rfl, hx, clD_D hd⟩, rfl⟩

end Go.Proofs.YtcdjhhepgkcabaaDoor
/- package tree and its reference: Check: the proofs; the law TreeChecks. -/
namespace Go.Proofs.YtcdjhhepgkcabaaDoor
open Go Go.Vg

theorem okR_mk {r : List Int} {n i : Int} {p : List Int} {xs : List D} {m j : Nat} {ys : List D} {d : List Int} (h1 : 1 ≤ m) (h2 : j < m) (h3 : m ≤ 65536) (h4 : isD d) (h5 : isP ys) (h6 : ys.length ≤ 100) (h7 : restB m j ys d r = chkB r n i p xs) :
    okR r n i p xs (m, j, ys, d) := ⟨h1, h2, h3, h4, h5, h6, h7⟩
theorem m30x : Meets Tryd.prog 30 (sp30 101) := m30 101
theorem chk_bad {r : List Int} {n i : Int} {p : List Int} {xs : List D} (h : n < 1 ∨ 65536 < n ∨ i < 0 ∨ n ≤ i) : chkB r n i p xs = false := by
  unfold chkB
  rw [if_pos h]
theorem chk_good {r : List Int} {n i : Nat} {p : List Int} {xs : List D} (h1 : 1 ≤ n) (h2 : n ≤ 65536) (h3 : i < n) : chkB r n i p xs = restB n i xs (leafL p) r := by
  unfold chkB
  rw [if_neg (by omega), Int.toNat_natCast, Int.toNat_natCast]

set_option maxRecDepth 100000 in
theorem m17 : Meets Tryd.prog 17 sp17 := by
  refine meets_of_owed (C := c17) ⟨tab_ok, lkS_ok ⟨m30x, m31, trivial⟩⟩ (by kernel_rfl) (by kernel_rfl : Tryd.prog.funcs[17]? = some Tryd.f17) (by kernel_rfl) (by kernel_rfl) (by kernel_rfl) _ ?_
  rintro _ ⟨r, n, i, p, xs, rfl, hr, hp, hpl, hx, hxl, hi1, hi2⟩
  refine ⟨fun _ => rfl, fun _ => none, ?_⟩
  show owed c17 (fun _ => none) Tryd.f17 [d32 r, i64 n, i64 i, .ints .u8 p, pth xs] (bl (chkB r n i p xs))
  rw [vc17]
  by_cases hbad : n < 1 ∨ 65536 < n ∨ i < 0 ∨ n ≤ i
  · rw [chk_bad hbad]
    simp (decide := true) only [eq_self, true_and, and_true, ne_eq, not_false_eq_true]
    split
    · rfl
    · rename_i h1
      split
      · rfl
      · rename_i h2
        split
        · rfl
        · rename_i h3
          split
          · rfl
          · rename_i h4
            have h1 := of_decide_eq_false h1
            have h2 := of_decide_eq_false h2
            have h3 := of_decide_eq_false h3
            have h4 := of_decide_eq_false h4
            omega
  · obtain ⟨N, rfl⟩ := Int.eq_ofNat_of_zero_le (a := n) (by omega)
    obtain ⟨I, rfl⟩ := Int.eq_ofNat_of_zero_le (a := i) (by omega)
    have q1 : 1 ≤ N := by omega
    have q2 : N ≤ 65536 := by omega
    have q3 : I < N := by omega
    rw [chk_good q1 q2 q3, rest_cl q1 q3]
    simp (decide := true) only [decide_eq_false (show ¬ ((N : Nat) : Int) < 1 by omega), decide_eq_false (show ¬ ((N : Nat) : Int) > 65536 by omega), decide_eq_false (show ¬ ((I : Nat) : Int) < 0 by omega), decide_eq_false (show ¬ ((I : Nat) : Int) ≥ ((N : Nat) : Int) by omega), eq_self, true_and, and_true, ne_eq, not_false_eq_true, Int.toNat_natCast]
    refine ⟨⟨p, rfl, hp, hpl⟩, ⟨N, I, _, _, rfl, q1, q2, q3, leafL_D p, hx, by omega, hxl⟩, ?_⟩
    cases clB N I (leafL p) xs <;> rfl

set_option maxRecDepth 100000 in
theorem m18 : Meets Tryd.prog 18 sp17 := by
  refine meets_of_owed (C := c18) ⟨tab_ok, lkS_ok ⟨m32, m33, trivial⟩⟩ (by kernel_rfl) (by kernel_rfl : Tryd.prog.funcs[18]? = some Tryd.f18) (by kernel_rfl) (by kernel_rfl) (by kernel_rfl) _ ?_
  rintro _ ⟨r, n, i, p, xs, rfl, hr, hp, hpl, hx, hxl, hi1, hi2⟩
  refine ⟨fun _ => rfl, inv18 r n i p xs, ?_⟩
  show owed c18 (inv18 r n i p xs) Tryd.f18 [d32 r, i64 n, i64 i, .ints .u8 p, pth xs] (bl (chkB r n i p xs))
  rw [vc18]
  by_cases hbad : n < 1 ∨ 65536 < n ∨ i < 0 ∨ n ≤ i
  · rw [chk_bad hbad]
    split
    · and_intros <;> first | rfl | trivial
    · rename_i h1
      split
      · and_intros <;> first | rfl | trivial
      · rename_i h2
        split
        · and_intros <;> first | rfl | trivial
        · rename_i h3
          split
          · and_intros <;> first | rfl | trivial
          · rename_i h4
            have h1 := of_decide_eq_false h1
            have h2 := of_decide_eq_false h2
            have h3 := of_decide_eq_false h3
            have h4 := of_decide_eq_false h4
            omega
  · obtain ⟨N, rfl⟩ := Int.eq_ofNat_of_zero_le (a := n) (by omega)
    obtain ⟨I, rfl⟩ := Int.eq_ofNat_of_zero_le (a := i) (by omega)
    have q1 : 1 ≤ N := by omega
    have q2 : N ≤ 65536 := by omega
    have q3 : I < N := by omega
    simp (decide := true) only [decide_eq_false (show ¬ ((N : Nat) : Int) < 1 by omega), decide_eq_false (show ¬ ((N : Nat) : Int) > 65536 by omega), decide_eq_false (show ¬ ((I : Nat) : Int) < 0 by omega), decide_eq_false (show ¬ ((I : Nat) : Int) ≥ ((N : Nat) : Int) by omega), eq_self, true_and, and_true, ne_eq, not_false_eq_true, Int.toNat_natCast]
    refine ⟨hp, ⟨p, rfl, hp, hpl⟩, ⟨q1, q3, q2, leafL_D p, hx, hxl, (chk_good q1 q2 q3).symm⟩, ?_⟩
    rintro ⟨m, j, ys, d⟩ ⟨h1, h2, h3, hd, hys, hyl, hre⟩
    simp only at h1 h2 h3 hd hys hyl hre ⊢
    rw [← hre]
    have k63 : kb .i64 = 9223372036854775808 := rfl
    have exor : ixor .i64 ((j : Nat) : Int) 1 = ((j ^^^ 1 : Nat) : Int) := ixorN .i64 (a := j) (b := 1) (by rw [k63]; omega) (by rw [k63]; omega)
    have d1 : ((j : Nat) : Int).tmod 2 = ((j % 2 : Nat) : Int) := tmodN _ 2
    have d2 : ((j : Nat) : Int).tdiv 2 = ((j / 2 : Nat) : Int) := tdivN _ 2
    have d3 : IntKind.i64.wrap ((j / 2 : Nat) : Int) = ((j / 2 : Nat) : Int) := wNi (by omega)
    have d4 : IntKind.i64.wrap ((m : Int) + 1) = ((m + 1 : Nat) : Int) := by rw [wi (by omega) (by omega)]; omega
    have d5 : ((m + 1 : Nat) : Int).tdiv 2 = (((m + 1) / 2 : Nat) : Int) := tdivN _ 2
    have d6 : IntKind.i64.wrap (((m + 1) / 2 : Nat) : Int) = (((m + 1) / 2 : Nat) : Int) := wNi (by omega)
    simp only [exor, d1, d2, d3, d4, d5, d6, Int.toNat_natCast]
    split
    · rename_i b1
      have g1 : 1 < m := by have := of_decide_eq_true b1; omega
      split
      · rename_i b2
        have g2 : j ^^^ 1 < m := by have := of_decide_eq_true b2; omega
        cases ys with
        | nil =>
          rw [rest_none g1 g2]
          rfl
        | cons y ys =>
          obtain ⟨x, rfl, hxD⟩ := hys y (by simp)
          have hys2 : isP ys := fun z hz => hys z (by simp [hz])
          have e0 : (((D.arr IntKind.u8 32 x :: ys).length : Int) == 0) = false := beq_eq_false_iff_ne.2 (by simp; omega)
          have e1 : List.drop 1 (List.take (D.arr IntKind.u8 32 x :: ys).length (D.arr IntKind.u8 32 x :: ys)) = ys := by rw [List.take_length]; rfl
          have e2 : (D.arr IntKind.u8 32 x :: ys).getD 0 (D.val (Value.bool false)) = d32 x := rfl
          rw [rest_cons g1 g2] at hre ⊢
          simp only [e0, e1, e2]
          have e3 : arrOf (d32 x) = x := rfl
          rw [e3]
          split
          · rename_i g3
            have g3 : j % 2 = 0 := by have := eq_of_beq g3; omega
            have e4 : stepS (j % 2 == 0) d (d32 x) = nodeL d x := by rw [g3]; rfl
            rw [e4] at hre
            refine ⟨by and_intros <;> first | omega | rfl | (simp <;> omega), ⟨_, _, rfl, hd, hxD⟩, by and_intros <;> first | omega | rfl | (simp <;> omega), ⟨trivial, trivial⟩, okR_mk (by omega) (by omega) (by omega) (nodeL_D _ _) hys2 (by simp at hyl; omega) hre, by omega⟩
          · rename_i g3
            have g3 : j % 2 ≠ 0 := by
              intro g4
              rw [g4] at g3
              cases g3
            have e4 : stepS (j % 2 == 0) d (d32 x) = nodeL x d := by rw [beq_eq_false_iff_ne.2 g3]; rfl
            rw [e4] at hre
            refine ⟨by and_intros <;> first | omega | rfl | (simp <;> omega), ⟨_, _, rfl, hxD, hd⟩, by and_intros <;> first | omega | rfl | (simp <;> omega), ⟨trivial, trivial⟩, okR_mk (by omega) (by omega) (by omega) (nodeL_D _ _) hys2 (by simp at hyl; omega) hre, by omega⟩
      · rename_i g2
        have g2 : ¬ j ^^^ 1 < m := by have := of_decide_eq_false g2; omega
        rw [rest_skip g1 g2] at hre
        refine ⟨by and_intros <;> first | rfl | trivial, okR_mk (by omega) (by omega) (by omega) hd hys hyl hre, by omega⟩
    · rename_i g1
      obtain rfl : m = 1 := by have := of_decide_eq_false g1; omega
      rw [rest_one]
      cases ys <;> rfl

end Go.Proofs.YtcdjhhepgkcabaaDoor
/- The law TreeChecks. -/
namespace Go.Proofs.YtcdjhhepgkcabaaDoor
open Go Go.Vg

theorem okAll5 {t : Tab} {n : Nat} {a b c u v : TypeId} : ∀ {ds : List D}, OkAll t n [a, b, c, u, v] ds → ∃ d e f g h, ds = [d, e, f, g, h] ∧ OkT t n a d ∧ OkT t n b e ∧ OkT t n c f ∧ OkT t n u g ∧ OkT t n v h
  | [], h => by cases h
  | [_], h => by cases h.2
  | [_, _], h => by cases h.2.2
  | [_, _, _], h => by cases h.2.2.2
  | [_, _, _, _], h => by cases h.2.2.2.2
  | [d, e, f, g, k], h => ⟨d, e, f, g, k, rfl, h.1, h.2.1, h.2.2.1, h.2.2.2.1, h.2.2.2.2.1⟩
  | _ :: _ :: _ :: _ :: _ :: _ :: _, h => by cases h.2.2.2.2.2
noncomputable def c5 : Ctx := ⟨tab, lkS [(17, sp17), (18, sp17)], [], []⟩
--KEEP ofR BitVec.toNat prL pr Go.Proofs.YtcdjhhepgkcabaaDoor.R8.l wrS ofS okS padL fhK outL sumL fromL digL iv st0 Go.Vg.eqB nodeL leafL hf restB chkB clD clB isP isD okR
set_option maxRecDepth 100000 in
theorem ok3  (d : D)  :
    (OkT tab 8 3 d) = (
 ∃ (z : Int), d = D.val (Value.int IntKind.i64 z) ∧ -(2 : Int) ^ (63 : Nat) ≤ z ∧ z ≤ IntKind.i64.max) := by kernel_rfl
set_option maxRecDepth 100000 in
theorem ok45  (d : D)  :
    (OkT tab 8 45 d) = (
 ∃ (xs : List D), d = D.slc (32 : Nat) xs ∧ (∀ (y : D), y ∈ xs → ∃ (l : List Int), y = D.arr IntKind.u8 (32 : Nat) l ∧ l.length = (32 : Nat) ∧ ∀ (z : Int), z ∈ l → (0 : Int) ≤ z ∧ z ≤ IntKind.u8.max) ∧ xs.length ≤ (9223372036854775807 : Nat) ∧ xs.length * (32 : Nat) ≤ (140737488351232 : Nat)) := by kernel_rfl
set_option maxRecDepth 100000 in
theorem vc5  (r : List Int) (n i : Int) (p : List Int) (xs : List D) (F : D)  :
    (owed c5 (fun _ => none) Tryd.f5 [d32 r, i64 n, i64 i, .ints .u8 p, pth xs] F) = (
 (True ∧ false = false) ∧
   True ∧
    True ∧
     True ∧
      True ∧
       True ∧
        match decide ((↑xs.length : Int) > (100 : Int)) with
        | true => True ∧ True ∧ (false = false ∧ True) ∧ D.val (Value.bool true) = F
        | false =>
         ((32 : Nat) ≠ (0 : Nat) ∧ (32 : Nat) = (32 : Nat) ∧ true = true) ∧
          True ∧
           True ∧
            True ∧
             True ∧
              (∃ (r_1 : List Int),
                ∃ (n_1 : Int),
                 ∃ (i_1 : Int),
                  ∃ (p_1 : List Int),
                   ∃ (xs_1 : List D),
                    [D.arr IntKind.u8 (32 : Nat) r, D.val (Value.int IntKind.i64 n), D.val (Value.int IntKind.i64 i), D.ints IntKind.u8 p, D.slc (32 : Nat) xs] = [D.arr IntKind.u8 (32 : Nat) r_1, D.val (Value.int IntKind.i64 n_1), D.val (Value.int IntKind.i64 i_1), D.ints IntKind.u8 p_1, D.slc (32 : Nat) xs_1] ∧
                     isD r_1 ∧ isBytes p_1 ∧ p_1.length ≤ (900000000000000 : Nat) ∧ isP xs_1 ∧ xs_1.length ≤ (100 : Nat) ∧ (-9223372036854775808 : Int) ≤ i_1 ∧ i_1 ≤ (9223372036854775807 : Int)) ∧
               ((32 : Nat) ≠ (0 : Nat) ∧ (32 : Nat) = (32 : Nat) ∧ true = true) ∧
                True ∧
                 True ∧
                  True ∧
                   True ∧
                    (∃ (r_1 : List Int),
                      ∃ (n_1 : Int),
                       ∃ (i_1 : Int),
                        ∃ (p_1 : List Int),
                         ∃ (xs_1 : List D),
                          [D.arr IntKind.u8 (32 : Nat) r, D.val (Value.int IntKind.i64 n), D.val (Value.int IntKind.i64 i), D.ints IntKind.u8 p, D.slc (32 : Nat) xs] = [D.arr IntKind.u8 (32 : Nat) r_1, D.val (Value.int IntKind.i64 n_1), D.val (Value.int IntKind.i64 i_1), D.ints IntKind.u8 p_1, D.slc (32 : Nat) xs_1] ∧
                           isD r_1 ∧ isBytes p_1 ∧ p_1.length ≤ (900000000000000 : Nat) ∧ isP xs_1 ∧ xs_1.length ≤ (100 : Nat) ∧ (-9223372036854775808 : Int) ≤ i_1 ∧ i_1 ≤ (9223372036854775807 : Int)) ∧
                     True ∧ True ∧ True ∧ (false = false ∧ True) ∧ D.val (Value.bool (chkB r n i p xs == chkB r n i p xs)) = F) := by kernel_rfl

theorem i64_of {d : D} (h : OkT tab 8 3 d) : ∃ z : Int, d = i64 z ∧ -9223372036854775808 ≤ z ∧ z ≤ 9223372036854775807 := by
  rw [ok3] at h
  obtain ⟨z, rfl, h1, h2⟩ := h
  have e : IntKind.i64.max = 9223372036854775807 := rfl
  rw [e] at h2
  exact ⟨z, rfl, by simpa using h1, h2⟩
theorem pth_of {d : D} (h : OkT tab 8 45 d) : ∃ xs : List D, d = pth xs ∧ isP xs := by
  rw [ok45] at h
  obtain ⟨xs, rfl, h1, _⟩ := h
  refine ⟨xs, rfl, fun x hx => ?_⟩
  obtain ⟨l, rfl, h2, h3⟩ := h1 x hx
  refine ⟨l, rfl, fun z hz => ?_, h2⟩
  have := h3 z hz
  have e : IntKind.u8.max = 255 := rfl
  rw [e] at this
  omega

set_option maxRecDepth 100000 in
theorem m5 : Meets Tryd.prog 5 (lawSpec tab Tryd.f5.params.toList) := by
  refine meets_of_owed (C := c5) ⟨tab_ok, lkS_ok ⟨m17, m18, trivial⟩⟩ (by kernel_rfl) (by kernel_rfl : Tryd.prog.funcs[5]? = some Tryd.f5) (by kernel_rfl) (by kernel_rfl) (by kernel_rfl) _ ?_
  intro ds hds
  obtain ⟨r, n, i, p, xs, rfl, hr, hi1, hi2, hp, hpl, hx⟩ : ∃ r n i p xs, ds = [d32 r, i64 n, i64 i, .ints .u8 p, pth xs] ∧ isD r ∧ -9223372036854775808 ≤ i ∧ i ≤ 9223372036854775807 ∧ isBytes p ∧ p.length ≤ 140737488351232 ∧ isP xs := by
    have hds : OkAll tab 8 [31, 3, 3, 22, 45] ds := hds
    obtain ⟨a, b, c, d, e, rfl, h1, h2, h3, h4, h5⟩ := okAll5 hds
    obtain ⟨r, rfl, hr⟩ := d32_of h1
    obtain ⟨n, rfl, _⟩ := i64_of h2
    obtain ⟨i, rfl, hi1, hi2⟩ := i64_of h3
    obtain ⟨p, rfl, hp, hpl⟩ := bytes_of h4 rfl
    obtain ⟨xs, rfl, hx⟩ := pth_of h5
    exact ⟨r, n, i, p, xs, rfl, hr, hi1, hi2, hp, hpl, hx⟩
  refine ⟨fun _ => rfl, fun _ => none, ?_⟩
  show owed c5 (fun _ => none) Tryd.f5 [d32 r, i64 n, i64 i, .ints .u8 p, pth xs] (bl true)
  rw [vc5]
  simp (decide := true) only [beq_self_eq_true, eq_self, true_and, and_true, ne_eq, not_false_eq_true]
  split
  · rfl
  · rename_i h
    have h : xs.length ≤ 100 := by have := of_decide_eq_false h; omega
    exact ⟨⟨r, n, i, p, xs, rfl, hr, hp, by omega, hx, h, hi1, hi2⟩, ⟨r, n, i, p, xs, rfl, hr, hp, by omega, hx, h, hi1, hi2⟩, rfl⟩

end Go.Proofs.YtcdjhhepgkcabaaDoor
