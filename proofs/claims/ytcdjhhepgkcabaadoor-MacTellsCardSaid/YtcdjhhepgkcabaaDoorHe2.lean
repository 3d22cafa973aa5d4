import Derived.Test.YtcdjhhepgkcabaaDoorHe
/- package hash: New, Sum, Resume, and the reference's words, From, Sum: the proofs. -/
namespace Go.Proofs.YtcdjhhepgkcabaaDoor
open Go Go.Vg

theorem btw (x : R8) {j : Nat} (h : j < 8) {k : Nat} (hk : k ≤ 3) : IntKind.u8.wrap (ishr .u32 (x.l.getD j 0) ((8 * k : Nat) : Int)) = bt x.l j k := by
  obtain ⟨w, e⟩ := xl_get x h
  unfold bt
  rw [e, ishrN .u32 (show 8 * k ≤ 32 by omega), wN8, Int.toNat_natCast, Nat.pow_mul]
theorem btw0 (x : R8) {j : Nat} (h : j < 8) : IntKind.u8.wrap (x.l.getD j 0) = bt x.l j 0 := by
  obtain ⟨w, e⟩ := xl_get x h
  unfold bt
  rw [e, wN8, Int.toNat_natCast, Nat.pow_zero, Nat.div_one]
theorem tl_bytes (b : Nat) : ∀ k, isBytes (tl b k)
  | 0 => fun x hx => by cases hx
  | k + 1 => fun x hx => by
    rcases List.mem_cons.1 hx with rfl | h
    · omega
    · exact tl_bytes b k x h
theorem padL_bytes (n : Nat) : isBytes (padL n) := by
  intro x hx
  unfold padL at hx
  rcases List.mem_cons.1 hx with rfl | h
  · omega
  · rcases List.mem_append.1 h with h | h
    · have := List.eq_of_mem_replicate h
      omega
    · exact tl_bytes _ _ x h
theorem bytes_app {a b : List Int} (ha : isBytes a) (hb : isBytes b) : isBytes (a ++ b) := by
  intro x hx
  rcases List.mem_append.1 hx with h | h
  · exact ha x h
  · exact hb x h
theorem bytes_drop {l : List Int} (h : isBytes l) (n : Nat) : isBytes (l.drop n) := fun x hx => h x (List.mem_of_mem_drop hx)

set_option maxRecDepth 100000 in
theorem m7 : Meets Tryd.prog 7 sp7 := by
  refine meets_of_owed (C := c0) ⟨tab_ok, fun f s h => by cases h⟩ (by kernel_rfl) (by kernel_rfl : Tryd.prog.funcs[7]? = some Tryd.f7) (by kernel_rfl) (by kernel_rfl) (by kernel_rfl) _ ?_
  rintro ds hds
  have hds : ds.length = 0 := hds
  obtain rfl := List.eq_nil_of_length_eq_zero hds
  refine ⟨fun _ => rfl, fun _ => none, ?_⟩
  show owed c0 (fun _ => none) Tryd.f7 [] (stD st0)
  rw [vc7]
  and_intros <;> first | rfl | decide | trivial

set_option maxRecDepth 100000 in
theorem m27 : Meets Tryd.prog 27 sp27 := by
  refine meets_of_owed (C := c0) ⟨tab_ok, fun f s h => by cases h⟩ (by kernel_rfl) (by kernel_rfl : Tryd.prog.funcs[27]? = some Tryd.f27) (by kernel_rfl) (by kernel_rfl) (by kernel_rfl) _ ?_
  rintro ds hds
  have hds : ds.length = 0 := hds
  obtain rfl := List.eq_nil_of_length_eq_zero hds
  refine ⟨(fun h => by cases h), fun _ => none, ?_⟩
  show owed c0 (fun _ => none) Tryd.f27 [] (.ints .u32 iv.l)
  rw [vc27]
  and_intros <;> first | rfl | decide | trivial

set_option maxRecDepth 100000 in
theorem m13 : Meets Tryd.prog 13 sp13 := by
  refine meets_of_owed (C := c13) ⟨tab_ok, lkS_ok ⟨m8, m11, trivial⟩⟩ (by kernel_rfl) (by kernel_rfl : Tryd.prog.funcs[13]? = some Tryd.f13) (by kernel_rfl) (by kernel_rfl) (by kernel_rfl) _ ?_
  rintro _ ⟨s, rfl, hs⟩
  refine ⟨fun _ => rfl, inv13 s, ?_⟩
  show owed c13 (inv13 s) Tryd.f13 [stD s] (d32 (sumL (ofS (stD s))))
  have e : ofS (D.st [D.arr .u32 8 s.h.l, D.val (.int .u64 (s.n : Int)), D.arr .u8 64 s.l]) = s := ofS_eq s
  rw [vc13]
  simp (decide := true) only [e, eq_self, true_and, and_true, ne_eq, not_false_eq_true, Int.toNat_natCast]
  have hz := zc_lt s.n
  have hl := padL_len s.n
  have hy : sumL s = outL (wrS s (padL s.n)).h := rfl
  refine ⟨⟨s.n, rfl, hs.2.2⟩, ⟨s, padL s.n, rfl, hs, padL_bytes _, by omega⟩, (by and_intros <;> first | rfl | trivial | omega), fun x hx => ?_⟩
  generalize wrS s (padL s.n) = y at *
  have hL : (sumL s).length = 32 := by rw [hy]; exact outL_len _
  have g : ∀ j, j ≤ 3 → 4 * x + j < 32 → (sumL s).getD (4 * x + j) 0 = bt y.h.l x (3 - j) := by
    intro j hj hlt
    rw [hy, outL_get _ hlt, show (4 * x + j) / 4 = x by omega, show (4 * x + j) % 4 = j by omega]
  generalize sumL s = L at *
  split
  · rename_i h
    have h : x < 8 := by have := of_decide_eq_true h; omega
    have ew : IntKind.i64.wrap ((x : Int) + 1) = ((x + 1 : Nat) : Int) := by rw [wi (by omega) (by omega)]; omega
    have e4 : IntKind.i64.wrap (4 * (x : Int)) = ((4 * x : Nat) : Int) := by rw [wi (by omega) (by omega)]; omega
    have e1 : ∀ j : Nat, j ≤ 3 → IntKind.i64.wrap (((4 * x : Nat) : Int) + (j : Int)) = ((4 * x + j : Nat) : Int) := fun j hj => by rw [wi (by omega) (by omega)]; omega
    have e41 := e1 1 (by decide)
    have e42 := e1 2 (by decide)
    have e43 := e1 3 (by decide)
    have b3 := btw y.h h (k := 3) (by decide)
    have b2 := btw y.h h (k := 2) (by decide)
    have b1 := btw y.h h (k := 1) (by decide)
    have b0 := btw0 y.h h
    have g0 := g 0 (by decide) (by omega)
    have g1 := g 1 (by decide) (by omega)
    have g2 := g 2 (by decide) (by omega)
    have g3 := g 3 (by decide) (by omega)
    have f0 := fill L (n := 32) (k := 4 * x + 0) hL (by omega)
    have f1 := fill L (n := 32) (k := 4 * x + 1) hL (by omega)
    have f2 := fill L (n := 32) (k := 4 * x + 2) hL (by omega)
    have f3 := fill L (n := 32) (k := 4 * x + 3) hL (by omega)
    rw [g0] at f0
    rw [g1] at f1
    rw [g2] at f2
    rw [g3] at f3
    change IntKind.u8.wrap (ishr .u32 (y.h.l.getD x 0) 24) = _ at b3
    change IntKind.u8.wrap (ishr .u32 (y.h.l.getD x 0) 16) = _ at b2
    change IntKind.u8.wrap (ishr .u32 (y.h.l.getD x 0) 8) = _ at b1
    change IntKind.i64.wrap (((4 * x : Nat) : Int) + 1) = _ at e41
    change IntKind.i64.wrap (((4 * x : Nat) : Int) + 2) = _ at e42
    change IntKind.i64.wrap (((4 * x : Nat) : Int) + 3) = _ at e43
    simp only [Nat.add_zero, Nat.sub_zero, Nat.sub_self, show 3 - 1 = 2 from rfl, show 3 - 2 = 1 from rfl] at f0 f1 f2 f3
    simp only [ew, e4, e41, e42, e43, Int.toNat_natCast, b3, b2, b1, b0, f0, f1, f2, f3]
    and_intros <;> first | rfl | omega | trivial
  · rename_i h
    obtain rfl : x = 8 := by have := of_decide_eq_false h; omega
    rw [List.take_of_length_le (by omega)]
    show d32 (L ++ []) = d32 L
    rw [List.append_nil]

set_option maxRecDepth 100000 in
theorem m15 : Meets Tryd.prog 15 sp15 := by
  refine meets_of_owed (C := c15) ⟨tab_ok, lkS_ok ⟨m12, m29, trivial⟩⟩ (by kernel_rfl) (by kernel_rfl : Tryd.prog.funcs[15]? = some Tryd.f15) (by kernel_rfl) (by kernel_rfl) (by kernel_rfl) _ ?_
  rintro _ ⟨x, n, p, rfl, hb, hl, hn, hn2⟩
  refine ⟨fun _ => rfl, inv15 x n p, ?_⟩
  show owed c15 (inv15 x n p) Tryd.f15 [.ints .u32 x.l, u64 (n : Int), .str p] (d32 (fromL (ofR x.l) ((n : Int)).toNat p))
  rw [vc15, ofR_l, Int.toNat_natCast]
  have ew : IntKind.u64.wrap ((n : Int) + IntKind.u64.wrap (p.length : Int)) = (((n + p.length) % 18446744073709551616 : Nat) : Int) := by
    rw [w64, w64]; omega
  have ef : p ++ padL ((n + p.length) % 18446744073709551616) = fullL n p := rfl
  have hm : (fullL n p).length % 64 = 0 := m64 n p hn
  have hmb : isBytes (fullL n p) := bytes_app hb (padL_bytes _)
  have hz := zc_lt ((n + p.length) % 18446744073709551616)
  have hpl := padL_len ((n + p.length) % 18446744073709551616)
  have hml : (fullL n p).length = p.length + (padL ((n + p.length) % 18446744073709551616)).length := List.length_append
  have hfr : fromL x n p = outL (fhK x (fullL n p) ((fullL n p).length / 64)) := rfl
  simp (decide := true) only [ew, ef, eq_self, true_and, and_true, ne_eq, not_false_eq_true, Int.toNat_natCast]
  have hk0 : fhK x (fullL n p) (0 / 64) = x := rfl
  rw [hk0]
  generalize hM : fullL n p = M at *
  refine ⟨⟨_, rfl, Nat.mod_lt _ (by decide)⟩, by omega, (by and_intros <;> first | rfl | trivial | omega), fun k hk => ?_⟩
  split
  · rename_i h
    have h : 64 * k < M.length := by have := of_decide_eq_true h; omega
    have e1 : IntKind.i64.wrap (((64 * k : Nat) : Int) + 64) = ((64 * k + 64 : Nat) : Int) := by rw [wi (by omega) (by omega)]; omega
    have e2 : (64 * k + 64) / 64 = k + 1 := by omega
    have e3 : prL (fhK x M k).l (List.take 64 (List.drop (64 * k) M)) = (fhK x M (k + 1)).l := by
      unfold prL
      rw [ofR_l]
      rfl
    have e4 : List.drop (64 * k) (List.take (64 * k + 64) M) = List.take 64 (List.drop (64 * k) M) := by
      rw [List.drop_take, show 64 * k + 64 - 64 * k = 64 by omega]
    simp only [e1, Int.toNat_natCast, e2, e4, e3]
    refine ⟨by omega, ⟨_, _, rfl, bytes_take (bytes_drop hmb _) _, by rw [List.length_take, List.length_drop]; omega⟩, ?_, by omega, by omega⟩
    rw [show 64 * (k + 1) = 64 * k + 64 by omega]
    and_intros <;> first | rfl | trivial
  · rename_i h
    obtain rfl : k = M.length / 64 := by have := of_decide_eq_false h; omega
    have hL : (fromL x n p).length = 32 := by rw [hfr]; exact outL_len _
    refine ⟨(by and_intros <;> first | rfl | trivial | omega), fun i hi => ?_⟩
    split
    · rename_i h
      have h : i < 32 := by have := of_decide_eq_true h; omega
      have g := outL_get (fhK x M (M.length / 64)) h
      have f := fill (fromL x n p) hL h
      have d1 : ((i : Nat) : Int).tdiv 4 = ((i / 4 : Nat) : Int) := tdivN _ 4
      have d2 : ((i : Nat) : Int).tmod 4 = ((i % 4 : Nat) : Int) := tmodN _ 4
      have d3 : IntKind.i64.wrap ((i / 4 : Nat) : Int) = ((i / 4 : Nat) : Int) := by rw [wi (by omega) (by omega)]
      have d4 : IntKind.i64.wrap (24 - IntKind.i64.wrap (8 * ((i % 4 : Nat) : Int))) = ((8 * (3 - i % 4) : Nat) : Int) := by
        rw [wi (n := 8 * ((i % 4 : Nat) : Int)) (by omega) (by omega), wi (by omega) (by omega)]; omega
      have d5 : IntKind.i64.wrap ((i : Int) + 1) = ((i + 1 : Nat) : Int) := by rw [wi (by omega) (by omega)]; omega
      have d6 : (fhK x M (M.length / 64)).l.length = 8 := rfl
      have b := btw (fhK x M (M.length / 64)) (j := i / 4) (by omega) (k := 3 - i % 4) (by omega)
      rw [hfr, g] at f
      rw [hfr]
      simp only [d1, d2, d3, d4, d5, d6, Int.toNat_natCast, b, f]
      and_intros <;> first | rfl | omega | trivial
    · rename_i h
      obtain rfl : i = 32 := by have := of_decide_eq_false h; omega
      rw [List.take_of_length_le (by omega)]
      show d32 (fromL x n p ++ []) = d32 (fromL x n p)
      rw [List.append_nil]

end Go.Proofs.YtcdjhhepgkcabaaDoor
