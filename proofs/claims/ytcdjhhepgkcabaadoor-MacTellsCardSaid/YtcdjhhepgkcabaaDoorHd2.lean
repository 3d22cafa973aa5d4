import Derived.Test.YtcdjhhepgkcabaaDoorHd
/- package hash: Write, Pad; the reference's PadText: the proofs. -/
namespace Go.Proofs.YtcdjhhepgkcabaaDoor
open Go Go.Vg

theorem prL_mk (x : R8) (l : List Int) : prL [(x.a.toNat : Int), (x.b.toNat : Int), (x.c.toNat : Int), (x.d.toNat : Int), (x.e.toNat : Int), (x.f.toNat : Int), (x.g.toNat : Int), (x.h.toNat : Int)] l =
    [((pr x l).a.toNat : Int), ((pr x l).b.toNat : Int), ((pr x l).c.toNat : Int), ((pr x l).d.toNat : Int), ((pr x l).e.toNat : Int), ((pr x l).f.toNat : Int), ((pr x l).g.toNat : Int), ((pr x l).h.toNat : Int)] := by
  show prL x.l l = (pr x l).l
  unfold prL
  rw [ofR_l]
theorem bytes_set {l : List Int} (h : isBytes l) {b : Int} (hb : 0 ≤ b ∧ b < 256) (i : Nat) : isBytes (l.set i b) := by
  intro x hx
  rcases List.mem_or_eq_of_mem_set hx with h1 | rfl
  · exact h x h1
  · exact hb
theorem stp_ok {s : HS} (h : okS s) {b : Int} (hb : 0 ≤ b ∧ b < 256) : okS (stp s b) := by
  unfold stp
  obtain ⟨h1, h2, h3⟩ := h
  have : (s.n + 1) % 18446744073709551616 < 18446744073709551616 := Nat.mod_lt _ (by decide)
  simp only
  split
  · exact ⟨by simp [h1], bytes_set h2 hb _, this⟩
  · exact ⟨by simp [h1], bytes_set h2 hb _, this⟩
theorem wr_ok : ∀ (p : List Int) {s : HS}, okS s → isBytes p → okS (wrS s p)
  | [], _, h, _ => h
  | b :: p, s, h, hp => by
    show okS (wrS (stp s b) p)
    exact wr_ok p (stp_ok h (hp b (by simp))) fun x hx => hp x (by simp [hx])
theorem wr_app (s : HS) (p q : List Int) : wrS s (p ++ q) = wrS (wrS s p) q := List.foldl_append
theorem take_snoc {p : List Int} {i : Nat} (h : i < p.length) : p.take (i + 1) = p.take i ++ [p.getD i 0] := by
  rw [List.take_add_one, List.getElem?_eq_getElem h, List.getD_eq_getElem?_getD, List.getElem?_eq_getElem h]
  rfl
theorem wr_snoc (s : HS) {p : List Int} {i : Nat} (h : i < p.length) : wrS s (p.take (i + 1)) = stp (wrS s (p.take i)) (p.getD i 0) := by
  rw [take_snoc h, wr_app]
  rfl
theorem bytes_take {l : List Int} (h : isBytes l) (n : Nat) : isBytes (l.take n) := fun x hx => h x (List.mem_of_mem_take hx)
theorem ofS_eq (s : HS) : ofS (stD s) = s := by
  show HS.mk (ofR s.h.l) ((s.n : Int)).toNat s.l = s
  rw [ofR_l, Int.toNat_natCast]

set_option maxRecDepth 100000 in
theorem m8 : Meets Tryd.prog 8 sp8 := by
  refine meets_of_owed (C := c8) ⟨tab_ok, lkS_ok ⟨m26, trivial⟩⟩ (by kernel_rfl) (by kernel_rfl : Tryd.prog.funcs[8]? = some Tryd.f8) (by kernel_rfl) (by kernel_rfl) (by kernel_rfl) _ ?_
  rintro _ ⟨s, p, rfl, hs, hp, hl⟩
  refine ⟨fun _ => rfl, inv8 s p, ?_⟩
  show owed c8 (inv8 s p) Tryd.f8 [stD s, .ints .u8 p] (stD (wrS (ofS (stD s)) p))
  rw [vc8, ofS_eq]
  have h0 : wrS s (List.take (Int.toNat 0) p) = s := rfl
  rw [h0]
  simp (decide := true) only [eq_self, true_and, and_true, ne_eq, not_false_eq_true]
  refine ⟨⟨rfl, Nat.zero_le _⟩, fun x hx => ?_⟩
  have hy := wr_ok (p.take x) hs (bytes_take hp x)
  split
  · rename_i h
    have h : x < p.length := by have := of_decide_eq_true h; omega
    have es := wr_snoc s h
    have ew : IntKind.i64.wrap ((x : Int) + 1) = ((x + 1 : Nat) : Int) := by rw [wi (by omega) (by omega)]; omega
    obtain ⟨b, eb, hb⟩ := byte_at hp h
    rw [ew]
    simp only [Int.toNat_natCast, es, eb]
    generalize wrS s (p.take x) = y at *
    obtain ⟨y1, y2, y3⟩ := hy
    have em : ((y.n : Nat) : Int).tmod 64 = ((y.n % 64 : Nat) : Int) := tmodN _ 64
    have en : IntKind.u64.wrap ((y.n : Int) + 1) = (((y.n + 1) % 18446744073709551616 : Nat) : Int) := by rw [w64]; omega
    have em2 : (((y.n + 1) % 18446744073709551616 : Nat) : Int).tmod 64 = (((y.n + 1) % 18446744073709551616 % 64 : Nat) : Int) := tmodN _ 64
    rw [em, en, em2, Int.toNat_natCast]
    have hlt : y.n % 64 < 64 := Nat.mod_lt _ (by decide)
    unfold stp
    simp only
    split
    · rename_i h2
      have h2 : (y.n + 1) % 18446744073709551616 % 64 = 0 := by have := eq_of_beq h2; omega
      rw [if_pos h2]
      refine ⟨by omega, by omega, by omega, ⟨_, _, rfl, bytes_set y2 (by omega) _, by simp [y1]⟩, ?_⟩
      rw [prL_mk]
      and_intros <;> first | trivial | rfl | omega
    · rename_i h2
      have h2 : ¬ (y.n + 1) % 18446744073709551616 % 64 = 0 := fun h3 => by rw [h3] at h2; cases h2
      rw [if_neg h2]
      and_intros <;> first | trivial | rfl | omega
  · rename_i h
    have h := of_decide_eq_false h
    rw [List.take_of_length_le (by omega)]
    rfl

theorem pz_len (n i : Nat) : (pz n i).length = i + 1 := by simp [pz]
theorem pz_succ (n i : Nat) : pz n i ++ [0] = pz n (i + 1) := by
  unfold pz
  rw [List.replicate_succ', List.cons_append]
theorem pz_end (n : Nat) : pz n (zc n) = pt n 0 := by unfold pz pt; simp
theorem zc_lt (n : Nat) : zc n < 64 := Nat.mod_lt _ (by decide)
theorem tl_len (b : Nat) : ∀ k, (tl b k).length = k
  | 0 => rfl
  | k + 1 => by rw [tl, List.length_cons, tl_len b k]
theorem tl_get (b : Nat) : ∀ k i, i < k → (tl b k).getD i 0 = ((b / 256 ^ (k - 1 - i) % 256 : Nat) : Int)
  | 0, _, h => by omega
  | k + 1, 0, _ => rfl
  | k + 1, i + 1, h => by
    rw [tl, List.getD_cons_succ, tl_get b k i (by omega), show k + 1 - 1 - (i + 1) = k - 1 - i by omega]
theorem pt_succ (n : Nat) {i : Nat} (h : i < 8) : pt n (i + 1) = pt n i ++ [((8 * n % 18446744073709551616 / 256 ^ (7 - i) % 256 : Nat) : Int)] := by
  unfold pt
  rw [take_snoc (by rw [tl_len]; exact h), tl_get _ 8 i h, show 8 - 1 - i = 7 - i by omega]
  simp
theorem pt_end (n : Nat) : pt n 8 = padL n := by
  unfold pt padL
  rw [List.take_of_length_le (by rw [tl_len]; exact Nat.le_refl _)]
theorem pt_len (n : Nat) {i : Nat} (h : i ≤ 8) : (pt n i).length ≤ 100 := by
  unfold pt
  have := zc_lt n
  simp
  omega

set_option maxRecDepth 100000 in
theorem m11 : Meets Tryd.prog 11 sp11 := by
  refine meets_of_owed (C := c11) ⟨tab_ok, fun f s h => by cases h⟩ (by kernel_rfl) (by kernel_rfl : Tryd.prog.funcs[11]? = some Tryd.f11) (by kernel_rfl) (by kernel_rfl) (by kernel_rfl) _ ?_
  rintro _ ⟨n, rfl, hn⟩
  refine ⟨(fun h => by cases h), inv11 n, ?_⟩
  show owed c11 (inv11 n) Tryd.f11 [.val (.int .u64 (n : Int))] (.ints .u8 (padL ((n : Int)).toNat))
  rw [vc11, Int.toNat_natCast]
  simp (decide := true) only [eq_self, true_and, and_true, ne_eq, not_false_eq_true, Nat.sub_self, pz_len]
  refine ⟨⟨rfl, Nat.zero_le _⟩, fun x hx => ?_⟩
  have hz := zc_lt n
  have e1 : IntKind.u64.wrap ((n : Int) + IntKind.u64.wrap ((x + 1 : Nat) : Int)) = (((n + x + 1) % 18446744073709551616 : Nat) : Int) := by
    rw [w64, w64]; omega
  have e2 : (((n + x + 1) % 18446744073709551616 : Nat) : Int).tmod 64 = (((n + x + 1) % 18446744073709551616 % 64 : Nat) : Int) := tmodN _ 64
  rw [e1, e2]
  have ez : zc n = (119 - n % 64) % 64 := rfl
  split
  · rename_i h
    have h : (n + x + 1) % 18446744073709551616 % 64 ≠ 56 := by
      intro h3
      rw [h3] at h
      cases h
    rw [pz_succ, pz_len, Nat.add_sub_cancel]
    and_intros <;> first | rfl | omega
  · rename_i h
    have h : (n + x + 1) % 18446744073709551616 % 64 = 56 := by
      have h3 := bne_eq_false_iff_eq.1 h
      omega
    obtain rfl : x = zc n := by omega
    rw [pz_end]
    refine ⟨⟨rfl, rfl⟩, fun i hi => ?_⟩
    split
    · rename_i h4
      have h4 : i < 8 := by have := of_decide_eq_true h4; omega
      have ew : IntKind.i64.wrap ((i : Int) + 1) = ((i + 1 : Nat) : Int) := by rw [wi (by omega) (by omega)]; omega
      have e8 : IntKind.i64.wrap (8 * (i : Int)) = ((8 * i : Nat) : Int) := by rw [wi (by omega) (by omega)]; omega
      have e56 : IntKind.u64.wrap (IntKind.i64.wrap (56 - ((8 * i : Nat) : Int))) = ((8 * (7 - i) : Nat) : Int) := by
        rw [wi (by omega) (by omega), w64]; omega
      have en : IntKind.u64.wrap (8 * (n : Int)) = ((8 * n % 18446744073709551616 : Nat) : Int) := by rw [w64]; omega
      rw [ew, e8, e56, en, ishrN .u64 (show _ ≤ 64 by omega), wN8, Nat.pow_mul, show (2 : Nat) ^ 8 = 256 from rfl, ← pt_succ n h4, Int.toNat_natCast]
      have := pt_len n (i := i + 1) (by omega)
      and_intros <;> first | rfl | omega
    · rename_i h4
      obtain rfl : i = 8 := by have := of_decide_eq_false h4; omega
      rw [pt_end]

set_option maxRecDepth 100000 in
theorem m12 : Meets Tryd.prog 12 sp12 := by
  refine meets_of_owed (C := c0) ⟨tab_ok, fun f s h => by cases h⟩ (by kernel_rfl) (by kernel_rfl : Tryd.prog.funcs[12]? = some Tryd.f12) (by kernel_rfl) (by kernel_rfl) (by kernel_rfl) _ ?_
  rintro _ ⟨n, rfl, hn⟩
  refine ⟨fun _ => rfl, inv12 n, ?_⟩
  show owed c0 (inv12 n) Tryd.f12 [.val (.int .u64 (n : Int))] (.str (padL ((n : Int)).toNat))
  rw [vc12, Int.toNat_natCast]
  have i0 : ints { data := { toList := [(0 : UInt8)] } } = [0] := rfl
  have i128 : ints { data := { toList := [(128 : UInt8)] } } = [128] := rfl
  have ie : ints { data := { toList := [] } } = [] := rfl
  rw [i0, i128, ie]
  simp (decide := true) only [eq_self, true_and, and_true, ne_eq, not_false_eq_true, Nat.sub_self, pz_len, List.length_cons, List.length_nil]
  refine ⟨⟨rfl, Nat.zero_le _⟩, fun x hx => ?_⟩
  have hz := zc_lt n
  have ez : zc n = (119 - n % 64) % 64 := rfl
  have e0 : ((n : Nat) : Int).tmod 64 = ((n % 64 : Nat) : Int) := tmodN _ 64
  have e1 : IntKind.u64.wrap (IntKind.u64.wrap (((n % 64 : Nat) : Int) + IntKind.u64.wrap ((x + 1 : Nat) : Int)) + 8) = ((n % 64 + x + 9 : Nat) : Int) := by
    rw [w64, w64, w64]; omega
  have e2 : ((n % 64 + x + 9 : Nat) : Int).tmod 64 = (((n % 64 + x + 9) % 64 : Nat) : Int) := tmodN _ 64
  rw [e0, e1, e2]
  split
  · rename_i h
    have h : (n % 64 + x + 9) % 64 ≠ 0 := by
      intro h3
      rw [h3] at h
      cases h
    rw [pz_succ, pz_len, Nat.add_sub_cancel]
    and_intros <;> first | rfl | omega
  · rename_i h
    have h : (n % 64 + x + 9) % 64 = 0 := by
      have h3 := bne_eq_false_iff_eq.1 h
      omega
    obtain rfl : x = zc n := by omega
    have en : IntKind.u64.wrap ((n : Int) * 8) = ((8 * n % 18446744073709551616 : Nat) : Int) := by rw [w64]; omega
    rw [en]
    refine ⟨⟨rfl, by rw [Nat.div_one], rfl⟩, fun i hi => ?_⟩
    have hb2 : 8 * n % 18446744073709551616 < 18446744073709551616 := Nat.mod_lt _ (by decide)
    generalize hb : 8 * n % 18446744073709551616 = b at *
    split
    · rename_i h4
      have h4 : i < 8 := by have := of_decide_eq_true h4; omega
      have ew : IntKind.i64.wrap ((i : Int) + 1) = ((i + 1 : Nat) : Int) := by rw [wi (by omega) (by omega)]; omega
      have q1 : ((b / 256 ^ i : Nat) : Int).tmod 256 = ((b / 256 ^ i % 256 : Nat) : Int) := tmodN _ 256
      have q2 : ((b / 256 ^ i : Nat) : Int).tdiv 256 = ((b / 256 ^ i / 256 : Nat) : Int) := tdivN _ 256
      have q3 : b / 256 ^ (i + 1) = b / 256 ^ i / 256 := by rw [Nat.pow_succ, Nat.div_div_eq_div_mul]
      have q4 : b / 256 ^ i ≤ b := Nat.div_le_self _ _
      have ht : tl b (i + 1) = ((b / 256 ^ i % 256 : Nat) : Int) :: tl b i := rfl
      have q5 : IntKind.u8.wrap ((b / 256 ^ i % 256 : Nat) : Int) = ((b / 256 ^ i % 256 : Nat) : Int) := by rw [w8]; omega
      have q6 : IntKind.u64.wrap ((b / 256 ^ i / 256 : Nat) : Int) = ((b / 256 ^ i / 256 : Nat) : Int) := wrapN .u64 (show _ < 18446744073709551616 from Nat.lt_of_le_of_lt (Nat.le_trans (Nat.div_le_self _ _) q4) hb2)
      rw [ew, q1, q2, q5, q6, Int.toNat_natCast, q3, ht, tl_len]
      refine ⟨?_, by omega, ⟨rfl, rfl, rfl⟩, by omega, by omega⟩
      intro y hy
      rw [List.mem_singleton] at hy
      omega
    · rename_i h4
      obtain rfl : i = 8 := by have := of_decide_eq_false h4; omega
      rw [tl_len]
      refine ⟨by omega, ?_⟩
      unfold padL pz
      rw [hb]
      rfl

end Go.Proofs.YtcdjhhepgkcabaaDoor
