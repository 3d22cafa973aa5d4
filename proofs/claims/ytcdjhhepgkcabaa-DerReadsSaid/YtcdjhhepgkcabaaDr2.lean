import Derived.Test.YtcdjhhepgkcabaaDr
/- DerReads, part 2: the functions meet their contracts. -/
namespace Go.Proofs.Ytcdjhhepgkcabaa
open Go Go.Vg

theorem gB {l : List Int} (h : okb l) (i : Nat) : l.getD i 0 = ((g l i : Nat) : Int) ∧ g l i < 256 := by
  have : 0 ≤ l.getD i 0 ∧ l.getD i 0 < 256 := by
    rcases Nat.lt_or_ge i l.length with hi | hi
    · exact h _ (by simp [List.getD_eq_getElem?_getD, hi])
    · rw [List.getD_eq_getElem?_getD, List.getElem?_eq_none hi]
      decide
  unfold g
  omega
theorem g_drop (l : List Int) (n i : Nat) : g (l.drop n) i = g l (n + i) := by
  simp [g, List.getD_eq_getElem?_getD, List.getElem?_drop]
theorem okb_drop {l : List Int} (h : okb l) (n : Nat) : okb (l.drop n) := fun x hx => h x (List.mem_of_mem_drop hx)
theorem okb_take {l : List Int} (h : okb l) (n : Nat) : okb (l.take n) := fun x hx => h x (List.mem_of_mem_take hx)

theorem hd_ok {l : List Int} (h : okb l) {n a e : Nat} (hh : hd l = (n, a, e)) : n < 65536 ∧ a ≤ 3 ∧ e ≤ 4 ∧ (e = 0 → a ≤ l.length) := by
  have h0 := (gB h 0).2
  have h1 := (gB h 1).2
  have h2 := (gB h 2).2
  unfold hd at hh
  generalize l.length = m at hh ⊢
  generalize g l 0 = x at hh h0
  generalize g l 1 = y at hh h1
  generalize g l 2 = z at hh h2
  repeat' split at hh
  all_goals
    obtain ⟨rfl, h3⟩ := Prod.mk.inj hh
    obtain ⟨rfl, rfl⟩ := Prod.mk.inj h3
    refine ⟨?_, ?_, ?_, ?_⟩ <;> omega

theorem fs_len {l : List Int} (h : l.length = 0) : fst' l = (0, [], 0, 3) := by rw [fst', if_pos h]
theorem fs_err {l : List Int} (h : l.length ≠ 0) {n a e : Nat} (hh : hd (l.drop 1) = (n, a, e)) (he : e ≠ 0) : fst' l = (0, [], 0, e) := by
  rw [fst', if_neg h]
  simp only [hE, hN, hA, hh]
  rw [if_pos he]
theorem fs_big {l : List Int} (h : l.length ≠ 0) {n a : Nat} (hh : hd (l.drop 1) = (n, a, 0)) (hn : n > 4096) : fst' l = (0, [], 0, 2) := by
  rw [fst', if_neg h]
  simp only [hE, hN, hA, hh]
  rw [if_neg (by omega), if_pos hn]
theorem fs_short {l : List Int} (h : l.length ≠ 0) {n a : Nat} (hh : hd (l.drop 1) = (n, a, 0)) (hn : ¬ n > 4096) (hs : n + (1 + a) > l.length) : fst' l = (0, [], 0, 3) := by
  rw [fst', if_neg h]
  simp only [hE, hN, hA, hh]
  rw [if_neg (by omega), if_neg hn, if_pos hs]
theorem fs_ok {l : List Int} (h : l.length ≠ 0) {n a : Nat} (hh : hd (l.drop 1) = (n, a, 0)) (hn : ¬ n > 4096) (hs : ¬ n + (1 + a) > l.length) : fst' l = (g l 0, (l.drop (1 + a)).take n, 1 + a + n, 0) := by
  rw [fst', if_neg h]
  simp only [hE, hN, hA, hh]
  rw [if_neg (by omega), if_neg hn, if_neg hs]

theorem fin3 {l : List Int} {n a e : Nat} (h : hd l = (n, a, e)) : D.tup [D.val (Value.int IntKind.i64 ((n : Nat) : Int)), D.val (Value.int IntKind.i64 ((a : Nat) : Int)), D.val (Value.int IntKind.i64 ((e : Nat) : Int))] = D.tup [i64n (hN l), i64n (hA l), i64n (hE l)] := by
  simp only [hN, hA, hE, h]
theorem fin4 {l : List Int} {t n e : Nat} {b : List Int} (h : fst' l = (t, b, n, e)) : D.tup [D.st [D.val (Value.int IntKind.u8 ((t : Nat) : Int)), D.ints IntKind.u8 b], D.val (Value.int IntKind.i64 ((n : Nat) : Int)), D.val (Value.int IntKind.i64 ((e : Nat) : Int))] = D.tup [itm l, i64n (fN l), i64n (fE l)] := by
  simp only [itm, fT, fB, fN, fE, h]

theorem shl_or {x y : Nat} (hx : x < 256) (hy : y < 256) : ior IntKind.i64 (ishl IntKind.i64 (x : Int) 8) (y : Int) = ((x * 256 + y : Nat) : Int) := by
  rw [show (8 : Int) = ((8 : Nat) : Int) from rfl, ishlN .i64 (by decide), wNi (by omega), iorN .i64 (by show _ < 9223372036854775808; omega) (by show _ < 9223372036854775808; omega)]
  have := Nat.two_pow_add_eq_or_of_lt (i := 8) (b := y) (by omega) x
  rw [Nat.mul_comm x, ← this]

set_option maxRecDepth 100000 in
theorem m70 : Meets Try.prog 70 sp70 := by
  refine meets_of_owed (C := c0) ⟨tab_ok, fun f s h => by cases h⟩ (by kernel_rfl) (by kernel_rfl : Try.prog.funcs[70]? = some Try.f70) (by kernel_rfl) (by kernel_rfl) (by kernel_rfl) _ ?_
  rintro _ ⟨l, rfl, hl, hlen⟩
  refine ⟨fun _ => rfl, fun _ => none, ?_⟩
  show owed c0 (fun _ => none) Try.f70 [bs l] (.tup [i64n (hN l), i64n (hA l), i64n (hE l)])
  rw [vc70]
  obtain ⟨e0, h0⟩ := gB hl 0
  obtain ⟨e1, h1⟩ := gB hl 1
  obtain ⟨e2, h2⟩ := gB hl 2
  simp (decide := true) only [eq_self, true_and, and_true, ne_eq, not_false_eq_true]
  rw [e0, e1, e2, wNi (n := g l 0) (by omega), wNi (n := g l 1) (by omega), wNi (n := g l 2) (by omega), shl_or h1 h2]
  have hw : IntKind.i64.wrap (((g l 0 : Nat) : Int) - 127) = ((g l 0 : Nat) : Int) - 127 := wi (by omega) (by omega)
  rw [hw]
  split
  · rename_i h
    have h : ((l.length : Nat) : Int) = 0 := by simpa using h
    exact fin3 (by rw [hd, if_pos (by omega)])
  · rename_i h
    have h : ¬ ((l.length : Nat) : Int) = 0 := by simpa using h
    have hp : l.length ≠ 0 := by omega
    refine ⟨by omega, ?_⟩
    split
    · rename_i h3
      have h3 := of_decide_eq_true h3
      exact fin3 (by rw [hd, if_neg hp, if_pos (by omega)])
    · rename_i h3
      have h3 := of_decide_eq_false h3
      have h3' : ¬ g l 0 < 128 := by omega
      split
      · rename_i h4
        have h4 : ((g l 0 : Nat) : Int) = 128 := by simpa using h4
        exact fin3 (by rw [hd, if_neg hp, if_neg h3', if_pos (by omega)])
      · rename_i h4
        have h4 : ¬ ((g l 0 : Nat) : Int) = 128 := by simpa using h4
        split
        · rename_i h5
          have h5 := of_decide_eq_true h5
          exact fin3 (by rw [hd, if_neg hp, if_neg h3', if_pos (by omega)])
        · rename_i h5
          have h5 := of_decide_eq_false h5
          have h5' : ¬ (g l 0 = 128 ∨ g l 0 > 130) := by omega
          split
          · rename_i h6
            have h6 := of_decide_eq_true h6
            exact fin3 (by rw [hd, if_neg hp, if_neg h3', if_neg h5', if_pos (by omega)])
          · rename_i h6
            have h6 := of_decide_eq_false h6
            have h6' : ¬ l.length < g l 0 - 127 := by omega
            split
            · rename_i h7
              have h7 : ((g l 0 : Nat) : Int) = 129 := by simpa using h7
              have h7' : g l 0 = 129 := by omega
              refine ⟨by omega, ?_⟩
              split
              · rename_i h8
                have h8 := of_decide_eq_true h8
                exact fin3 (by rw [hd, if_neg hp, if_neg h3', if_neg h5', if_neg h6', if_pos h7', if_pos (by omega)])
              · rename_i h8
                have h8 := of_decide_eq_false h8
                exact fin3 (by rw [hd, if_neg hp, if_neg h3', if_neg h5', if_neg h6', if_pos h7', if_neg (by omega)])
            · rename_i h7
              have h7 : ¬ ((g l 0 : Nat) : Int) = 129 := by simpa using h7
              have h7' : ¬ g l 0 = 129 := by omega
              refine ⟨by omega, by omega, ?_⟩
              split
              · rename_i h8
                have h8 := of_decide_eq_true h8
                exact fin3 (by rw [hd, if_neg hp, if_neg h3', if_neg h5', if_neg h6', if_neg h7', if_pos (by omega)])
              · rename_i h8
                have h8 := of_decide_eq_false h8
                exact fin3 (by rw [hd, if_neg hp, if_neg h3', if_neg h5', if_neg h6', if_neg h7', if_neg (by omega)])

set_option maxRecDepth 100000 in
theorem m49 : Meets Try.prog 49 sp49 := by
  refine meets_of_owed (C := c49) ⟨tab_ok, lkS_ok ⟨m70, trivial⟩⟩ (by kernel_rfl) (by kernel_rfl : Try.prog.funcs[49]? = some Try.f49) (by kernel_rfl) (by kernel_rfl) (by kernel_rfl) _ ?_
  rintro _ ⟨l, rfl, hl, hlen⟩
  refine ⟨fun h => (by cases h), fun _ => none, ?_⟩
  show owed c49 (fun _ => none) Try.f49 [bs l] (.tup [itm l, i64n (fN l), i64n (fE l)])
  rw [vc49]
  have hlen' : l.length ≤ 9223372036854775807 := hlen
  rw [Int.toNat_natCast, List.take_length]
  obtain ⟨n, a, e, hh⟩ : ∃ n a e, hd (l.drop 1) = (n, a, e) := ⟨_, _, _, rfl⟩
  obtain ⟨hn, ha, he, hae⟩ := hd_ok (okb_drop hl 1) hh
  have eN : hN (l.drop 1) = n := by rw [hN, hh]
  have eA : hA (l.drop 1) = a := by rw [hA, hh]
  have eE : hE (l.drop 1) = e := by rw [hE, hh]
  obtain ⟨e0, h0⟩ := gB hl 0
  have e1 : (1 : Int) + (a : Int) = ((1 + a : Nat) : Int) := by omega
  rw [eN, eA, eE, e0, e1, wNi (n := 1 + a) (by omega), ← Int.natCast_add, wNi (n := 1 + a + n) (by omega)]
  simp (decide := true) only [eq_self, true_and, and_true, ne_eq, not_false_eq_true, Int.toNat_natCast, List.drop_zero, List.length_take, List.length_drop]
  split
  · rename_i h
    have h : ((l.length : Nat) : Int) = 0 := by simpa using h
    exact fin4 (fs_len (by omega))
  · rename_i h
    have h : ¬ ((l.length : Nat) : Int) = 0 := by simpa using h
    have hp : l.length ≠ 0 := by omega
    have hld : (l.drop 1).length = l.length - 1 := List.length_drop
    refine ⟨by omega, ⟨_, rfl, okb_drop hl 1, by show (l.drop 1).length ≤ _; omega⟩, ?_⟩
    split
    · rename_i h3
      have h3 : ¬ ((e : Nat) : Int) = 0 := by simpa using h3
      exact fin4 (fs_err hp hh (by omega))
    · rename_i h3
      have h3 : ((e : Nat) : Int) = 0 := by simpa using h3
      obtain rfl : e = 0 := by omega
      have ha2 := hae rfl
      refine ⟨by omega, ?_⟩
      split
      · rename_i h4
        have h4 := of_decide_eq_true h4
        exact fin4 (fs_big hp hh (by omega))
      · rename_i h4
        have h4 := of_decide_eq_false h4
        split
        · rename_i h5
          have h5 := of_decide_eq_true h5
          exact fin4 (fs_short hp hh (by omega) (by omega))
        · rename_i h5
          have h5 := of_decide_eq_false h5
          have h6 : min n (l.length - (1 + a)) ≤ 4096 := by omega
          refine ⟨by omega, by omega, ?_⟩
          have hfin := fin4 (fs_ok hp hh (by omega) (by omega))
          and_intros <;> first | exact hfin | omega

theorem cut50 (l : List Int) (i n : Nat) : (l.take (i + n)).drop i = (l.drop i).take n := by
  rw [List.drop_take, show i + n - i = n by omega]

set_option maxRecDepth 100000 in
theorem m50 : Meets Try.prog 50 sp50 := by
  refine meets_of_owed (C := c50) ⟨tab_ok, fun f s h => by cases h⟩ (by kernel_rfl) (by kernel_rfl : Try.prog.funcs[50]? = some Try.f50) (by kernel_rfl) (by kernel_rfl) (by kernel_rfl) _ ?_
  rintro _ ⟨l, rfl, hl, hlen⟩
  refine ⟨fun h => (by cases h), fun _ => none, ?_⟩
  show owed c50 (fun _ => none) Try.f50 [.str l] (.tup [itm l, i64n (fN l), i64n (fE l)])
  rw [vc50]
  have hlen' : l.length ≤ 9223372036854775807 := hlen
  obtain ⟨e0, h0⟩ := gB hl 0
  obtain ⟨e1, h1⟩ := gB hl 1
  obtain ⟨e2, h2⟩ := gB hl 2
  obtain ⟨e3, h3⟩ := gB hl 3
  have hld : (l.drop 1).length = l.length - 1 := List.length_drop
  have d0 : g (l.drop 1) 0 = g l 1 := g_drop l 1 0
  have d1 : g (l.drop 1) 1 = g l 2 := g_drop l 1 1
  have d2 : g (l.drop 1) 2 = g l 3 := g_drop l 1 2
  have hdv : hd (l.drop 1) = _ := rfl
  conv at hdv => rhs; unfold hd
  rw [hld, d0, d1, d2] at hdv
  rw [e0, e1, e2, e3, wNi (n := g l 1) (by omega), wNi (n := g l 2) (by omega), wNi (n := g l 3) (by omega)]
  have w1 : IntKind.i64.wrap (((g l 1 : Nat) : Int) - 128) = ((g l 1 : Nat) : Int) - 128 := wi (by omega) (by omega)
  have w2 : IntKind.i64.wrap ((1 : Int) + (((g l 1 : Nat) : Int) - 128)) = (1 : Int) + (((g l 1 : Nat) : Int) - 128) := wi (by omega) (by omega)
  have w3 : IntKind.i64.wrap (((g l 2 : Nat) : Int) * 256) = ((g l 2 * 256 : Nat) : Int) := by rw [wi (by omega) (by omega)]; omega
  have w4 : IntKind.i64.wrap (((g l 2 * 256 : Nat) : Int) + ((g l 3 : Nat) : Int)) = ((g l 2 * 256 + g l 3 : Nat) : Int) := by rw [wi (by omega) (by omega)]; omega
  have w5 : IntKind.i64.wrap ((2 : Int) + (((g l 1 : Nat) : Int) - 128)) = (2 : Int) + (((g l 1 : Nat) : Int) - 128) := wi (by omega) (by omega)
  have w6 : IntKind.i64.wrap ((2 : Int) + 0) = ((2 : Nat) : Int) := by decide
  rw [w1, w2, w3, w4, w5, w6]
  simp (decide := true) only [eq_self, true_and, and_true, ne_eq, not_false_eq_true]
  split
  · rename_i h
    have h := of_decide_eq_true h
    by_cases hz : l.length = 0
    · exact fin4 (fs_len hz)
    · rw [if_pos (by omega)] at hdv
      exact fin4 (fs_err hz hdv (by decide))
  rename_i h
  have h := of_decide_eq_false h
  have hp : l.length ≠ 0 := by omega
  rw [if_neg (by omega)] at hdv
  refine ⟨by omega, ?_⟩
  split
  · rename_i h4
    have h4 : ((g l 1 : Nat) : Int) = 128 := by simpa using h4
    rw [if_neg (by omega), if_pos (by omega)] at hdv
    exact fin4 (fs_err hp hdv (by decide))
  rename_i h4
  have h4 : ¬ ((g l 1 : Nat) : Int) = 128 := by simpa using h4
  split
  · rename_i h5
    have h5 := of_decide_eq_true h5
    rw [if_neg (by omega), if_pos (by omega)] at hdv
    exact fin4 (fs_err hp hdv (by decide))
  rename_i h5
  have h5 := of_decide_eq_false h5
  split
  · rename_i h6
    have h6 := of_decide_eq_true h6
    rw [if_neg (by omega), if_neg (by omega)] at hdv
    split
    · rename_i h7
      have h7 := of_decide_eq_true h7
      rw [if_pos (by omega)] at hdv
      exact fin4 (fs_err hp hdv (by decide))
    rename_i h7
    have h7 := of_decide_eq_false h7
    rw [if_neg (by omega)] at hdv
    refine ⟨by omega, ?_⟩
    split
    · rename_i h8
      have h8 : ((g l 1 : Nat) : Int) - 128 = 2 := by simpa using h8
      have h8' : ((g l 1 : Nat) : Int) - 128 = ((2 : Nat) : Int) := h8
      rw [if_neg (by omega)] at hdv
      refine ⟨by omega, ?_⟩
      split
      · rename_i h9
        have h9 := of_decide_eq_true h9
        rw [if_pos (by omega)] at hdv
        exact fin4 (fs_err hp hdv (by decide))
      rename_i h9
      have h9 := of_decide_eq_false h9
      rw [if_neg (by omega)] at hdv
      have hh := hdv
      have w7 : IntKind.i64.wrap ((2 : Int) + (((g l 1 : Nat) : Int) - 128) + ((g l 2 * 256 + g l 3 : Nat) : Int)) = ((1 + 3 + (g l 2 * 256 + g l 3) : Nat) : Int) := by rw [wi (by omega) (by omega)]; omega
      rw [w7, show (2 : Int) + (((g l 1 : Nat) : Int) - 128) = ((1 + 3 : Nat) : Int) by omega]
      simp only [Int.toNat_natCast]
      split
      · rename_i q
        have q := of_decide_eq_true q
        exact fin4 (fs_big hp hh (by omega))
      · rename_i q
        have q := of_decide_eq_false q
        split
        · rename_i q2
          have q2 := of_decide_eq_true q2
          exact fin4 (fs_short hp hh (by omega) (by omega))
        · rename_i q2
          have q2 := of_decide_eq_false q2
          have hfin := fin4 (fs_ok hp hh (by omega) (by omega))
          rw [cut50 l (1 + 3) (g l 2 * 256 + g l 3)]
          and_intros <;> first | exact hfin | omega
    · rename_i h8
      have h8 : ¬ ((g l 1 : Nat) : Int) - 128 = 2 := by simpa using h8
      rw [if_pos (by omega)] at hdv
      split
      · rename_i h9
        have h9 := of_decide_eq_true h9
        rw [if_pos (by omega)] at hdv
        exact fin4 (fs_err hp hdv (by decide))
      rename_i h9
      have h9 := of_decide_eq_false h9
      rw [if_neg (by omega)] at hdv
      have hh := hdv
      have w7 : IntKind.i64.wrap ((2 : Int) + (((g l 1 : Nat) : Int) - 128) + ((g l 2 : Nat) : Int)) = ((1 + 2 + g l 2 : Nat) : Int) := by rw [wi (by omega) (by omega)]; omega
      rw [w7, show (2 : Int) + (((g l 1 : Nat) : Int) - 128) = ((1 + 2 : Nat) : Int) by omega]
      simp only [Int.toNat_natCast]
      split
      · rename_i q
        have q := of_decide_eq_true q
        exact fin4 (fs_big hp hh (by omega))
      · rename_i q
        have q := of_decide_eq_false q
        split
        · rename_i q2
          have q2 := of_decide_eq_true q2
          exact fin4 (fs_short hp hh (by omega) (by omega))
        · rename_i q2
          have q2 := of_decide_eq_false q2
          have hfin := fin4 (fs_ok hp hh (by omega) (by omega))
          rw [cut50 l (1 + 2) (g l 2)]
          and_intros <;> first | exact hfin | omega
  rename_i h6
  have h6 := of_decide_eq_false h6
  rw [if_pos (by omega)] at hdv
  have hh := hdv
  have w7 : IntKind.i64.wrap (((2 : Nat) : Int) + ((g l 1 : Nat) : Int)) = ((1 + 1 + g l 1 : Nat) : Int) := by rw [wi (by omega) (by omega)]; omega
  rw [w7, show ((2 : Nat) : Int) = ((1 + 1 : Nat) : Int) from rfl]
  simp only [Int.toNat_natCast]
  split
  · rename_i q
    have q := of_decide_eq_true q
    exact fin4 (fs_big hp hh (by omega))
  · rename_i q
    have q := of_decide_eq_false q
    split
    · rename_i q2
      have q2 := of_decide_eq_true q2
      exact fin4 (fs_short hp hh (by omega) (by omega))
    · rename_i q2
      have q2 := of_decide_eq_false q2
      have hfin := fin4 (fs_ok hp hh (by omega) (by omega))
      rw [cut50 l (1 + 1) (g l 1)]
      and_intros <;> first | exact hfin | omega

end Go.Proofs.Ytcdjhhepgkcabaa
