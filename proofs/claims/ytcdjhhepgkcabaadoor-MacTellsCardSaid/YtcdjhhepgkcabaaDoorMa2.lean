import Derived.Test.YtcdjhhepgkcabaaDoorMa
/- package mac and its reference: the proofs. -/
namespace Go.Proofs.YtcdjhhepgkcabaaDoor
open Go Go.Vg

theorem ofM_eq (s : MS) : ofM (stM s) = s := by
  show MS.mk (ofS (stD s.i)) (ofS (stD s.o)) = s
  rw [ofS_eq, ofS_eq]
theorem ofM' (s : MS) : ofM (D.st [D.st [D.arr .u32 8 s.i.h.l, D.val (.int .u64 (s.i.n : Int)), D.arr .u8 64 s.i.l], D.st [D.arr .u32 8 s.o.h.l, D.val (.int .u64 (s.o.n : Int)), D.arr .u8 64 s.o.l]]) = s := ofM_eq s
theorem keyL_ok {k : List Int} (h : isB k) : isBytes (keyL k) ∧ (keyL k).length ≤ 64 := by
  unfold keyL
  split
  · exact ⟨digL_bytes k, by rw [digL_len]; omega⟩
  · exact ⟨h.1, by omega⟩
theorem padK_len {k : List Int} (h : isB k) : (padK k).length = 64 := by
  have := (keyL_ok h).2
  unfold padK
  rw [List.length_append, List.length_replicate]
  omega
theorem padK_bytes {k : List Int} (h : isB k) : isBytes (padK k) := by
  refine bytes_app (keyL_ok h).1 fun x hx => ?_
  have := List.eq_of_mem_replicate hx
  omega
theorem xK_len {k : List Int} (h : isB k) (c : Nat) : (xK k c).length = 64 := by unfold xK; rw [List.length_map, padK_len h]
theorem xK_bytes {k : List Int} (h : isB k) {c : Nat} (hc : c < 256) : isBytes (xK k c) := by
  intro x hx
  unfold xK at hx
  obtain ⟨z, hz, rfl⟩ := List.mem_map.1 hx
  have := padK_bytes h z hz
  have h2 : z.toNat ^^^ c < 2 ^ 8 := Nat.xor_lt_two_pow (by omega) hc
  omega
theorem xK_get {k : List Int} (h : isB k) {c i : Nat} (hc : c < 256) (hi : i < 64) : ixor .u8 ((padK k).getD i 0) (c : Int) = (xK k c).getD i 0 := by
  obtain ⟨n, e, hn⟩ := byte_at (padK_bytes h) (i := i) (by rw [padK_len h]; exact hi)
  unfold xK
  rw [List.getD_eq_getElem?_getD, List.getD_eq_getElem?_getD, List.getElem?_map] at *
  have hi2 : i < (padK k).length := by rw [padK_len h]; exact hi
  have hs : (padK k)[i]? = some (padK k)[i] := List.getElem?_eq_getElem hi2
  rw [hs] at e ⊢
  simp only [Option.getD_some, Option.map_some] at e ⊢
  rw [e, Int.toNat_natCast, ixorN .u8 (show n < 256 from hn) (show c < 256 from hc)]
theorem mix_get {L P : List Int} {x : Nat} (hL : L.length = P.length) (h : x < P.length) : (L.take x ++ P.drop x).getD x 0 = P.getD x 0 := by
  rw [List.getD_eq_getElem?_getD, List.getElem?_append_right (by rw [List.length_take]; omega), List.length_take, List.getElem?_drop, List.getD_eq_getElem?_getD]
  congr 2
  omega
theorem mix_set {L P : List Int} {x : Nat} (hL : L.length = P.length) (h : x < P.length) : (L.take x ++ P.drop x).set x (L.getD x 0) = L.take (x + 1) ++ P.drop (x + 1) := by
  have e : (L.take x).length = x := by rw [List.length_take]; omega
  rw [List.set_append_right _ _ (by omega), e, Nat.sub_self, List.drop_eq_getElem_cons h, List.set_cons_zero, take_snoc (by omega), List.append_assoc]
  rfl
theorem mixK_set {k : List Int} (h : isB k) {c x : Nat} (hc : c < 256) (hx : x < 64) : (mixK k c x).set x (ixor .u8 ((mixK k c x).getD x 0) (c : Int)) = mixK k c (x + 1) := by
  have hl : (xK k c).length = (padK k).length := by rw [xK_len h, padK_len h]
  unfold mixK
  rw [mix_get hl (by rw [padK_len h]; exact hx), xK_get h hc hx, mix_set hl (by rw [padK_len h]; exact hx)]
theorem mixK_end {k : List Int} (h : isB k) (c : Nat) : mixK k c 64 = xK k c := by
  unfold mixK
  rw [List.take_of_length_le (by rw [xK_len h]; omega), List.drop_eq_nil_of_le (by rw [padK_len h]; omega), List.append_nil]
theorem mixK_zero (k : List Int) (c : Nat) : mixK k c 0 = padK k := rfl
theorem mNew_ok {k : List Int} (h : isB k) : okM (mNew k) := ⟨wr_ok _ st0_ok (xK_bytes h (by decide)), wr_ok _ st0_ok (xK_bytes h (by decide))⟩
theorem mWr_ok {s : MS} (h : okM s) {p : List Int} (hp : isBytes p) : okM (mWr s p) := ⟨wr_ok p h.1 hp, h.2⟩
theorem sumL_len (s : HS) : (sumL s).length = 32 := outL_len _
theorem sumL_bytes (s : HS) : isBytes (sumL s) := outL_bytes _
theorem mac_eq (k p : List Int) : mSum (mWr (mNew k) p) = mkL k p := by
  unfold mSum mWr mNew mkL
  simp only [← wr_app, sum_st0]
theorem mWr_app (s : MS) (p q : List Int) : mWr (mWr s p) q = mWr s (p ++ q) := by
  unfold mWr
  simp only [wr_app]

set_option maxRecDepth 100000 in
theorem m19 : Meets Tryd.prog 19 sp19 := by
  refine meets_of_owed (C := c19) ⟨tab_ok, lkS_ok ⟨m7, m8, m9, trivial⟩⟩ (by kernel_rfl) (by kernel_rfl : Tryd.prog.funcs[19]? = some Tryd.f19) (by kernel_rfl) (by kernel_rfl) (by kernel_rfl) _ ?_
  rintro _ ⟨k, rfl, hk⟩
  refine ⟨fun _ => rfl, inv19 k, ?_⟩
  show owed c19 (inv19 k) Tryd.f19 [.ints .u8 k] (stM (mNew k))
  rw [vc19]
  have kl := keyL_ok hk
  have t32 : List.take 32 (digL k) = digL k := List.take_of_length_le (by rw [digL_len]; omega)
  simp (decide := true) only [Int.toNat_natCast, show Int.toNat 32 = 32 from rfl, show Int.toNat 64 = 64 from rfl, show Int.toNat 0 = 0 from rfl, List.drop_zero, Nat.sub_zero, Nat.zero_add, t32, digL_len, mixK_zero, ofS', eq_self, true_and, and_true, ne_eq, not_false_eq_true]
  split
  · rename_i h
    have h : 64 < k.length := by have := of_decide_eq_true h; omega
    have kk : keyL k = digL k := by unfold keyL; rw [if_pos h]
    have e0 : List.take (Nat.min 32 64) (digL k) ++ List.drop (Nat.min 32 64) (List.replicate 64 0) = padK k := by
      unfold padK
      rw [kk, digL_len, show Nat.min 32 64 = 32 from rfl, t32]
      rfl
    rw [e0]
    refine ⟨⟨k, rfl, hk⟩, by and_intros <;> first | rfl | trivial | omega, fun x hx => ?_⟩
    split
    · rename_i h2
      have h2 : x < 64 := by have := of_decide_eq_true h2; omega
      have ew : IntKind.i64.wrap ((x : Int) + 1) = ((x + 1 : Nat) : Int) := by rw [wi (by omega) (by omega)]; omega
      have s1 := mixK_set hk (c := 54) (by decide) h2
      have s2 := mixK_set hk (c := 92) (by decide) h2
      change (mixK k 54 x).set x (ixor .u8 ((mixK k 54 x).getD x 0) 54) = _ at s1
      change (mixK k 92 x).set x (ixor .u8 ((mixK k 92 x).getD x 0) 92) = _ at s2
      simp only [ew, Int.toNat_natCast, s1, s2]
      and_intros <;> first | rfl | omega | trivial
    · rename_i h2
      obtain rfl : x = 64 := by have := of_decide_eq_false h2; omega
      have t1 : List.take 64 (xK k 54) = xK k 54 := List.take_of_length_le (by rw [xK_len hk]; omega)
      have t2 : List.take 64 (xK k 92) = xK k 92 := List.take_of_length_le (by rw [xK_len hk]; omega)
      simp only [mixK_end hk, t1, t2]
      exact ⟨⟨st0, _, rfl, st0_ok, xK_bytes hk (by decide), by rw [xK_len hk]; omega⟩, ⟨st0, _, rfl, st0_ok, xK_bytes hk (by decide), by rw [xK_len hk]; omega⟩, rfl⟩
  · rename_i h
    have h : k.length ≤ 64 := by have := of_decide_eq_false h; omega
    have kk : keyL k = k := by unfold keyL; rw [if_neg (by omega)]
    have em : Nat.min k.length 64 = k.length := Nat.min_eq_left h
    have e0 : List.take (Nat.min k.length 64) k ++ List.drop (Nat.min k.length 64) (List.replicate 64 0) = padK k := by
      unfold padK
      rw [kk, em, List.take_length, List.drop_replicate]
    rw [e0]
    refine ⟨by and_intros <;> first | rfl | trivial | omega, fun x hx => ?_⟩
    split
    · rename_i h2
      have h2 : x < 64 := by have := of_decide_eq_true h2; omega
      have ew : IntKind.i64.wrap ((x : Int) + 1) = ((x + 1 : Nat) : Int) := by rw [wi (by omega) (by omega)]; omega
      have s1 := mixK_set hk (c := 54) (by decide) h2
      have s2 := mixK_set hk (c := 92) (by decide) h2
      change (mixK k 54 x).set x (ixor .u8 ((mixK k 54 x).getD x 0) 54) = _ at s1
      change (mixK k 92 x).set x (ixor .u8 ((mixK k 92 x).getD x 0) 92) = _ at s2
      simp only [ew, Int.toNat_natCast, s1, s2]
      and_intros <;> first | rfl | omega | trivial
    · rename_i h2
      obtain rfl : x = 64 := by have := of_decide_eq_false h2; omega
      have t1 : List.take 64 (xK k 54) = xK k 54 := List.take_of_length_le (by rw [xK_len hk]; omega)
      have t2 : List.take 64 (xK k 92) = xK k 92 := List.take_of_length_le (by rw [xK_len hk]; omega)
      simp only [mixK_end hk, t1, t2]
      exact ⟨⟨st0, _, rfl, st0_ok, xK_bytes hk (by decide), by rw [xK_len hk]; omega⟩, ⟨st0, _, rfl, st0_ok, xK_bytes hk (by decide), by rw [xK_len hk]; omega⟩, rfl⟩

set_option maxRecDepth 100000 in
theorem m20 : Meets Tryd.prog 20 sp20 := by
  refine meets_of_owed (C := c20) ⟨tab_ok, lkS_ok ⟨m8, trivial⟩⟩ (by kernel_rfl) (by kernel_rfl : Tryd.prog.funcs[20]? = some Tryd.f20) (by kernel_rfl) (by kernel_rfl) (by kernel_rfl) _ ?_
  rintro _ ⟨s, p, rfl, ⟨h1, h2⟩, hp, hl⟩
  refine ⟨fun _ => rfl, fun _ => none, ?_⟩
  show owed c20 (fun _ => none) Tryd.f20 [stM s, .ints .u8 p] (stM (mWr (ofM (stM s)) p))
  rw [vc20, ofM_eq]
  simp (decide := true) only [ofS', eq_self, true_and, and_true, ne_eq, not_false_eq_true]
  exact ⟨⟨_, p, rfl, h1, hp, hl⟩, rfl⟩

set_option maxRecDepth 100000 in
theorem m23 : Meets Tryd.prog 23 sp23 := by
  refine meets_of_owed (C := c23) ⟨tab_ok, lkS_ok ⟨m8, m13, trivial⟩⟩ (by kernel_rfl) (by kernel_rfl : Tryd.prog.funcs[23]? = some Tryd.f23) (by kernel_rfl) (by kernel_rfl) (by kernel_rfl) _ ?_
  rintro _ ⟨s, rfl, h1, h2⟩
  refine ⟨fun _ => rfl, fun _ => none, ?_⟩
  show owed c23 (fun _ => none) Tryd.f23 [stM s] (d32 (mSum (ofM (stM s))))
  rw [vc23, ofM_eq]
  have t32 : ∀ z : HS, List.take 32 (sumL z) = sumL z := fun z => List.take_of_length_le (by rw [sumL_len]; omega)
  simp (decide := true) only [Int.toNat_natCast, show Int.toNat 32 = 32 from rfl, show Int.toNat 0 = 0 from rfl, List.drop_zero, Nat.sub_zero, t32, ofS', eq_self, true_and, and_true, ne_eq, not_false_eq_true]
  exact ⟨⟨_, rfl, h1⟩, ⟨_, _, rfl, h2, sumL_bytes _, by rw [sumL_len]; omega⟩, ⟨_, rfl, wr_ok _ h2 (sumL_bytes _)⟩, rfl⟩

set_option maxRecDepth 100000 in
theorem m21 : Meets Tryd.prog 21 sp21 := by
  refine meets_of_owed (C := c21) ⟨tab_ok, lkS_ok ⟨m19, m20, m23, trivial⟩⟩ (by kernel_rfl) (by kernel_rfl : Tryd.prog.funcs[21]? = some Tryd.f21) (by kernel_rfl) (by kernel_rfl) (by kernel_rfl) _ ?_
  rintro _ ⟨k, p, rfl, hk, hp⟩
  refine ⟨fun _ => rfl, fun _ => none, ?_⟩
  show owed c21 (fun _ => none) Tryd.f21 [.ints .u8 k, .ints .u8 p] (d32 (mkL k p))
  rw [vc21]
  simp (decide := true) only [ofM', mac_eq, eq_self, true_and, and_true, ne_eq, not_false_eq_true]
  exact ⟨⟨k, rfl, hk⟩, ⟨_, p, rfl, mNew_ok hk, hp⟩, ⟨_, rfl, mWr_ok (mNew_ok hk) hp.1⟩⟩

set_option maxRecDepth 100000 in
theorem m22 : Meets Tryd.prog 22 sp22 := by
  refine meets_of_owed (C := c22) ⟨tab_ok, lkS_ok ⟨m10, trivial⟩⟩ (by kernel_rfl) (by kernel_rfl : Tryd.prog.funcs[22]? = some Tryd.f22) (by kernel_rfl) (by kernel_rfl) (by kernel_rfl) _ ?_
  rintro _ ⟨k, p, rfl, hk, hp, hpl⟩
  refine ⟨fun _ => rfl, inv22 k, ?_⟩
  show owed c22 (inv22 k) Tryd.f22 [.str k, .str p] (d32 (mkL k p))
  rw [vc22]
  have kl := keyL_ok hk
  have t32 : ∀ q : List Int, List.take 32 (digL q) = digL q := fun q => List.take_of_length_le (by rw [digL_len]; omega)
  have ie : ints { data := { toList := [] } } = [] := rfl
  have l1 : ∀ x, (List.take x (xK k 54)).length ≤ 64 := fun x => by rw [List.length_take, xK_len hk]; omega
  have l2 : ∀ x, (List.take x (xK k 92)).length ≤ 64 := fun x => by rw [List.length_take, xK_len hk]; omega
  simp (decide := true) only [Int.toNat_natCast, show Int.toNat 32 = 32 from rfl, show Int.toNat 0 = 0 from rfl, List.drop_zero, Nat.sub_zero, Nat.zero_add, t32, digL_len, ie, eq_self, true_and, and_true, ne_eq, not_false_eq_true]
  split
  · rename_i h
    have h : 64 < k.length := by have := of_decide_eq_true h; omega
    have kk : keyL k = digL k := by unfold keyL; rw [if_pos h]
    have ql := digL_len k
    rw [kk] at kl
    generalize hq : digL k = q at *
    refine ⟨⟨k, rfl, hk⟩, kl.1, by and_intros <;> first | rfl | trivial | omega, fun x hx => ?_⟩
    split
    · rename_i h2
      have h2 : x < 64 := by have := of_decide_eq_true h2; omega
      have ew : IntKind.i64.wrap ((x : Int) + 1) = ((x + 1 : Nat) : Int) := by rw [wi (by omega) (by omega)]; omega
      have s1 := xK_get hk (c := 54) (by decide) h2
      have s2 := xK_get hk (c := 92) (by decide) h2
      change ixor .u8 _ 54 = _ at s1
      change ixor .u8 _ 92 = _ at s2
      have q1 := take_snoc (p := xK k 54) (i := x) (by rw [xK_len hk]; exact h2)
      have q2 := take_snoc (p := xK k 92) (i := x) (by rw [xK_len hk]; exact h2)
      have b1 : isBytes [(xK k 54).getD x 0] := fun z hz => by
        rw [List.mem_singleton.1 hz]
        obtain ⟨n, e, hn⟩ := byte_at (xK_bytes hk (c := 54) (by decide)) (i := x) (by rw [xK_len hk]; exact h2)
        omega
      have b2 : isBytes [(xK k 92).getD x 0] := fun z hz => by
        rw [List.mem_singleton.1 hz]
        obtain ⟨n, e, hn⟩ := byte_at (xK_bytes hk (c := 92) (by decide)) (i := x) (by rw [xK_len hk]; exact h2)
        omega
      have l1x := l1 x
      have l2x := l2 x
      unfold padK at s1 s2
      rw [kk] at s1 s2
      split
      · rename_i h3
        have h3 : x < q.length := by have := of_decide_eq_true h3; omega
        rw [List.getD_eq_getElem?_getD, List.getElem?_append_left h3, ← List.getD_eq_getElem?_getD] at s1 s2
        simp only [ew, Int.toNat_natCast, s1, s2, ← q1, ← q2]
        refine ⟨by omega, b1, by omega, b2, by omega, ?_, by omega, by omega⟩
        and_intros <;> first | rfl | trivial
      · rename_i h3
        have h3 : q.length ≤ x := by have := of_decide_eq_false h3; omega
        rw [List.getD_eq_getElem?_getD, List.getElem?_append_right h3, List.getElem?_replicate, if_pos (by omega)] at s1 s2
        change ixor .u8 0 54 = _ at s1
        change ixor .u8 0 92 = _ at s2
        simp only [ew, Int.toNat_natCast, s1, s2, ← q1, ← q2]
        refine ⟨b1, by omega, b2, by omega, ?_, by omega, by omega⟩
        and_intros <;> first | rfl | trivial
    · rename_i h2
      obtain rfl : x = 64 := by have := of_decide_eq_false h2; omega
      have t1 : List.take 64 (xK k 54) = xK k 54 := List.take_of_length_le (by rw [xK_len hk]; omega)
      have t2 : List.take 64 (xK k 92) = xK k 92 := List.take_of_length_le (by rw [xK_len hk]; omega)
      have n1 := xK_len hk 54
      have n2 := xK_len hk 92
      have bb := xK_bytes hk (c := 54) (by decide)
      have bc := xK_bytes hk (c := 92) (by decide)
      simp only [t1, t2]
      refine ⟨by omega, ⟨_, rfl, bytes_app bb hp, by rw [List.length_append]; omega⟩, digL_bytes _, by omega, ⟨_, rfl, bytes_app bc (digL_bytes _), by rw [List.length_append, digL_len]; omega⟩, rfl⟩
  · rename_i h
    have h : k.length ≤ 64 := by have := of_decide_eq_false h; omega
    have kk : keyL k = k := by unfold keyL; rw [if_neg (by omega)]
    generalize hq : k = q at kk ⊢
    subst hq
    refine ⟨by and_intros <;> first | rfl | trivial | omega, fun x hx => ?_⟩
    split
    · rename_i h2
      have h2 : x < 64 := by have := of_decide_eq_true h2; omega
      have ew : IntKind.i64.wrap ((x : Int) + 1) = ((x + 1 : Nat) : Int) := by rw [wi (by omega) (by omega)]; omega
      have s1 := xK_get hk (c := 54) (by decide) h2
      have s2 := xK_get hk (c := 92) (by decide) h2
      change ixor .u8 _ 54 = _ at s1
      change ixor .u8 _ 92 = _ at s2
      have q1 := take_snoc (p := xK k 54) (i := x) (by rw [xK_len hk]; exact h2)
      have q2 := take_snoc (p := xK k 92) (i := x) (by rw [xK_len hk]; exact h2)
      have b1 : isBytes [(xK k 54).getD x 0] := fun z hz => by
        rw [List.mem_singleton.1 hz]
        obtain ⟨n, e, hn⟩ := byte_at (xK_bytes hk (c := 54) (by decide)) (i := x) (by rw [xK_len hk]; exact h2)
        omega
      have b2 : isBytes [(xK k 92).getD x 0] := fun z hz => by
        rw [List.mem_singleton.1 hz]
        obtain ⟨n, e, hn⟩ := byte_at (xK_bytes hk (c := 92) (by decide)) (i := x) (by rw [xK_len hk]; exact h2)
        omega
      have l1x := l1 x
      have l2x := l2 x
      unfold padK at s1 s2
      rw [kk] at s1 s2
      split
      · rename_i h3
        have h3 : x < k.length := by have := of_decide_eq_true h3; omega
        rw [List.getD_eq_getElem?_getD, List.getElem?_append_left h3, ← List.getD_eq_getElem?_getD] at s1 s2
        simp only [ew, Int.toNat_natCast, s1, s2, ← q1, ← q2]
        refine ⟨by omega, b1, by omega, b2, by omega, ?_, by omega, by omega⟩
        and_intros <;> first | rfl | trivial
      · rename_i h3
        have h3 : k.length ≤ x := by have := of_decide_eq_false h3; omega
        rw [List.getD_eq_getElem?_getD, List.getElem?_append_right h3, List.getElem?_replicate, if_pos (by omega)] at s1 s2
        change ixor .u8 0 54 = _ at s1
        change ixor .u8 0 92 = _ at s2
        simp only [ew, Int.toNat_natCast, s1, s2, ← q1, ← q2]
        refine ⟨b1, by omega, b2, by omega, ?_, by omega, by omega⟩
        and_intros <;> first | rfl | trivial
    · rename_i h2
      obtain rfl : x = 64 := by have := of_decide_eq_false h2; omega
      have t1 : List.take 64 (xK k 54) = xK k 54 := List.take_of_length_le (by rw [xK_len hk]; omega)
      have t2 : List.take 64 (xK k 92) = xK k 92 := List.take_of_length_le (by rw [xK_len hk]; omega)
      have n1 := xK_len hk 54
      have n2 := xK_len hk 92
      have bb := xK_bytes hk (c := 54) (by decide)
      have bc := xK_bytes hk (c := 92) (by decide)
      simp only [t1, t2]
      refine ⟨by omega, ⟨_, rfl, bytes_app bb hp, by rw [List.length_append]; omega⟩, digL_bytes _, by omega, ⟨_, rfl, bytes_app bc (digL_bytes _), by rw [List.length_append, digL_len]; omega⟩, rfl⟩

theorem xor_zero {a b : Nat} : a ^^^ b = 0 ↔ a = b := by
  constructor
  · intro h
    have e : (a ^^^ b) ^^^ b = a := by rw [Nat.xor_assoc, Nat.xor_self, Nat.xor_zero]
    rw [h, Nat.zero_xor] at e
    exact e.symm
  · rintro rfl
    exact Nat.xor_self a
theorem or_zero {a b : Nat} : a ||| b = 0 ↔ a = 0 ∧ b = 0 := by
  constructor
  · intro h
    have h1 : a ≤ a ||| b := Nat.left_le_or
    have h2 : b ≤ a ||| b := Nat.right_le_or
    omega
  · rintro ⟨rfl, rfl⟩
    rfl
theorem take_eq {a b : List Int} {i : Nat} (h1 : i < a.length) (h2 : i < b.length) : a.take (i + 1) = b.take (i + 1) ↔ a.take i = b.take i ∧ a.getD i 0 = b.getD i 0 := by
  rw [take_snoc h1, take_snoc h2]
  constructor
  · intro h
    have := List.append_inj' h rfl
    exact ⟨this.1, by have := this.2; simpa using this⟩
  · rintro ⟨h, h3⟩
    rw [h, h3]

set_option maxRecDepth 100000 in
theorem m24 : Meets Tryd.prog 24 sp24 := by
  refine meets_of_owed (C := c0) ⟨tab_ok, fun f s h => by cases h⟩ (by kernel_rfl) (by kernel_rfl : Tryd.prog.funcs[24]? = some Tryd.f24) (by kernel_rfl) (by kernel_rfl) (by kernel_rfl) _ ?_
  rintro _ ⟨a, b, rfl, ⟨ha, hal⟩, hb, hbl⟩
  refine ⟨fun _ => rfl, inv24 a b, ?_⟩
  show owed c0 (inv24 a b) Tryd.f24 [.ints .u8 a, .ints .u8 b] (bl (eqB a b))
  rw [vc24]
  have k63 : kb .i64 = 9223372036854775808 := rfl
  have ex : ixor .i64 (a.length : Int) (b.length : Int) = ((a.length ^^^ b.length : Nat) : Int) := ixorN .i64 (by rw [k63]; omega) (by rw [k63]; omega)
  have hx63 : a.length ^^^ b.length < 2 ^ 63 := Nat.xor_lt_two_pow (by omega) (by omega)
  simp (decide := true) only [ex, Int.toNat_natCast, eq_self, true_and, and_true, ne_eq, not_false_eq_true]
  refine ⟨⟨rfl, Nat.zero_le _, hx63, by rw [xor_zero]; simp⟩, ?_⟩
  rintro ⟨i, d⟩ ⟨hi, hd, hiff⟩
  simp only at hi hd hiff ⊢
  have hmin : Nat.min a.length b.length ≤ a.length ∧ Nat.min a.length b.length ≤ b.length := ⟨Nat.min_le_left _ _, Nat.min_le_right _ _⟩
  have hbif : (bif decide ((b.length : Int) < (a.length : Int)) then (b.length : Int) else (a.length : Int)) = ((Nat.min a.length b.length : Nat) : Int) := by
    rcases Nat.lt_or_ge b.length a.length with h | h
    · rw [decide_eq_true (by omega)]
      show (b.length : Int) = _
      rw [show Nat.min a.length b.length = b.length from Nat.min_eq_right (by omega)]
    · rw [decide_eq_false (by omega)]
      show (a.length : Int) = _
      rw [show Nat.min a.length b.length = a.length from Nat.min_eq_left (by omega)]
  rw [hbif]
  split
  · rename_i h
    have h : i < Nat.min a.length b.length := by have := of_decide_eq_true h; omega
    have ew : IntKind.i64.wrap ((i : Int) + 1) = ((i + 1 : Nat) : Int) := by rw [wi (by omega) (by omega)]; omega
    obtain ⟨x, ea, hxa⟩ := byte_at ha (i := i) (by omega)
    obtain ⟨y, eb, hyb⟩ := byte_at hb (i := i) (by omega)
    have e1 : ixor .u8 (x : Int) (y : Int) = ((x ^^^ y : Nat) : Int) := ixorN .u8 (show x < 256 from hxa) (show y < 256 from hyb)
    have hxy : x ^^^ y < 2 ^ 8 := Nat.xor_lt_two_pow hxa hyb
    have e2 : IntKind.i64.wrap ((x ^^^ y : Nat) : Int) = ((x ^^^ y : Nat) : Int) := wNi (by omega)
    have e3 : ior .i64 (d : Int) ((x ^^^ y : Nat) : Int) = ((d ||| (x ^^^ y) : Nat) : Int) := iorN .i64 (by rw [k63]; exact hd) (by rw [k63]; omega)
    have hor : d ||| (x ^^^ y) < 2 ^ 63 := Nat.or_lt_two_pow hd (by omega)
    have hs : sameI a b (i + 1) (d ||| (x ^^^ y)) := by
      refine ⟨by omega, hor, ?_⟩
      rw [or_zero, hiff, xor_zero, take_eq (by omega) (by omega), ea, eb]
      constructor
      · rintro ⟨⟨h1, h2⟩, h3⟩
        exact ⟨h1, h2, by rw [h3]⟩
      · rintro ⟨h1, h2, h3⟩
        exact ⟨⟨h1, h2⟩, by omega⟩
    simp only [ew, Int.toNat_natCast, ea, eb, e1, e2, e3]
    refine ⟨?_, ?_, ?_, hs, ?_⟩ <;> (try and_intros) <;> first | rfl | omega | trivial
  · rename_i h
    have h := of_decide_eq_false h
    obtain rfl : i = Nat.min a.length b.length := by omega
    have e : ((d : Int) == 0) = eqB a b := by
      by_cases h0 : d = 0
      · obtain ⟨h1, h2⟩ := hiff.1 h0
        have h3 : a = b := by
          rw [List.take_of_length_le (by rw [h1]; show b.length ≤ min b.length b.length; omega), List.take_of_length_le (by rw [h1]; show b.length ≤ min b.length b.length; omega)] at h2
          exact h2
        rw [h0, eqB_iff.2 h3]
        rfl
      · have h3 : a ≠ b := by
          rintro rfl
          exact h0 (hiff.2 ⟨rfl, rfl⟩)
        rw [eqB_not.2 h3]
        exact beq_eq_false_iff_ne.2 (by omega)
    rw [e]
    rfl

set_option maxRecDepth 100000 in
theorem m25 : Meets Tryd.prog 25 sp24 := by
  refine meets_of_owed (C := c0) ⟨tab_ok, fun f s h => by cases h⟩ (by kernel_rfl) (by kernel_rfl : Tryd.prog.funcs[25]? = some Tryd.f25) (by kernel_rfl) (by kernel_rfl) (by kernel_rfl) _ ?_
  rintro _ ⟨a, b, rfl, ⟨ha, hal⟩, hb, hbl⟩
  refine ⟨fun _ => rfl, fun _ => none, ?_⟩
  show owed c0 (fun _ => none) Tryd.f25 [.ints .u8 a, .ints .u8 b] (bl (eqB a b))
  rw [vc25]
  simp only [true_and, and_true]
  exact ⟨ha, hb, rfl⟩

end Go.Proofs.YtcdjhhepgkcabaaDoor
