/- digests: blocks written one by one are blocks taken in a row (no program in sight). -/
import Derived.Test.YtkicjckhkefnpaaDoorZb12
namespace Go.Proofs.YtkicjckhkefnpaaDoor
open Go Go.Vg
def fhK (h : R8) (m : List Int) : Nat → R8
 | 0 => h
 | k + 1 => pr (fhK h m k) ((m.drop (64 * k)).take 64)
def bt (l : List Int) (j k : Nat) : Int := ((l.getD j 0).toNat / 256 ^ k % 256 : Nat)
def outL (x : R8) : List Int := (List.range 32).map fun i => bt x.l (i / 4) (3 - i % 4)
def sumL (s : HS) : List Int := outL (wrS s (padL s.n)).h
def iv : R8 := ⟨0x6a09e667, 0xbb67ae85, 0x3c6ef372, 0xa54ff53a, 0x510e527f, 0x9b05688c, 0x1f83d9ab, 0x5be0cd19⟩
def st0 : HS := ⟨iv, 0, List.replicate 64 0⟩
def fromL (x : R8) (n : Nat) (p : List Int) : List Int :=
 outL (fhK x (p ++ padL ((n + p.length) % 18446744073709551616)) ((p ++ padL ((n + p.length) % 18446744073709551616)).length / 64))
def digL (p : List Int) : List Int := fromL iv 0 p
theorem set_take (L : List Int) (r : Nat) (b : Int) (h : r < L.length) : (L.set r b).take (r + 1) = L.take r ++ [b] := by
 rw [take_snoc (p := L.set r b) (by rw [List.length_set]; exact h), List.take_set, List.set_eq_of_length_le (by rw [List.length_take]; omega)]
 rw [List.getD_eq_getElem?_getD, List.getElem?_set_self h]
 rfl
theorem wr_fh (h : R8) (n : Nat) (l : List Int) (hl : l.length = 64) (hn : n % 64 = 0) (hn2 : n < 18446744073709551616) (m : List Int) :
  ∀ k, k ≤ m.length → ∃ L : List Int, L.length = 64 ∧ wrS ⟨h, n, l⟩ (m.take k) = ⟨fhK h m (k / 64), (n + k) % 18446744073709551616, L⟩ ∧ L.take (k % 64) = (m.take k).drop (64 * (k / 64))
 | 0, _ => ⟨l, hl, by
   show HS.mk h n l = ⟨h, (n + 0) % 18446744073709551616, l⟩
   rw [show (n + 0) % 18446744073709551616 = n by omega], rfl⟩
 | k + 1, hk => by
  obtain ⟨L, h1, h2, h3⟩ := wr_fh h n l hl hn hn2 m k (by omega)
  have hlt : k % 64 < L.length := by omega
  have e1 : (n + k) % 18446744073709551616 % 64 = k % 64 := by omega
  have e2 : ((n + k) % 18446744073709551616 + 1) % 18446744073709551616 = (n + (k + 1)) % 18446744073709551616 := by omega
  have e3 : (L.set (k % 64) (m.getD k 0)).take (k % 64 + 1) = (m.take (k + 1)).drop (64 * (k / 64)) := by
   rw [set_take _ _ _ hlt, h3, take_snoc (show k < m.length by omega), List.drop_append_of_le_length (by rw [List.length_take]; omega)]
  rw [wr_snoc _ (show k < m.length by omega), h2]
  refine ⟨L.set (k % 64) (m.getD k 0), by rw [List.length_set]; exact h1, ?_⟩
  unfold stp
  simp only [e1, e2]
  by_cases hc : (n + (k + 1)) % 18446744073709551616 % 64 = 0
  ·have hc2 : (k + 1) % 64 = 0 := by omega
   have q : (k + 1) / 64 = k / 64 + 1 := by omega
   have r : k % 64 + 1 = 64 := by omega
   rw [if_pos hc, q, hc2]
   rw [r, List.take_of_length_le (by rw [List.length_set]; omega), List.drop_take, show k + 1 - 64 * (k / 64) = 64 by omega] at e3
   refine ⟨?_, ?_⟩
   ·rw [e3]
    rfl
   ·rw [List.drop_eq_nil_of_le (by rw [List.length_take]; omega)]
    rfl
  ·have q : (k + 1) / 64 = k / 64 := by omega
   have r : (k + 1) % 64 = k % 64 + 1 := by omega
   rw [if_neg hc, q, r]
   exact ⟨rfl, e3⟩
theorem padL_len (n : Nat) : (padL n).length = 9 + zc n := by
 unfold padL
 rw [List.length_cons, List.length_append, List.length_replicate, tl_len]
 omega
theorem wr_full (h : R8) (n : Nat) (l : List Int) (hl : l.length = 64) (hn : n % 64 = 0) (hn2 : n < 18446744073709551616) (m : List Int) :
  (wrS ⟨h, n, l⟩ m).h = fhK h m (m.length / 64) ∧ (wrS ⟨h, n, l⟩ m).n = (n + m.length) % 18446744073709551616 := by
 obtain ⟨L, _, h2, _⟩ := wr_fh h n l hl hn hn2 m m.length (Nat.le_refl _)
 rw [List.take_length] at h2
 rw [h2]
 exact ⟨rfl, rfl⟩
theorem sum_from (h : R8) (n : Nat) (l : List Int) (hl : l.length = 64) (hn : n % 64 = 0) (hn2 : n < 18446744073709551616) (p : List Int) :
  sumL (wrS ⟨h, n, l⟩ p) = fromL h n p := by
 unfold sumL fromL
 rw [(wr_full h n l hl hn hn2 p).2, ← wr_app, (wr_full h n l hl hn hn2 _).1]
theorem sum_st0 (p : List Int) : sumL (wrS st0 p) = digL p := sum_from iv 0 _ (by simp) rfl (by decide) p
theorem mul64 (n : Nat) (p : List Int) (hn : n % 64 = 0) : (p ++ padL ((n + p.length) % 18446744073709551616)).length % 64 = 0 := by
 rw [List.length_append, padL_len]
 unfold zc
 omega
theorem outL_len (x : R8) : (outL x).length = 32 := by unfold outL; simp
theorem outL_bytes (x : R8) : isBytes (outL x) := by
 intro y hy
 unfold outL at hy
 obtain ⟨i, _, rfl⟩ := List.mem_map.1 hy
 unfold bt
 omega
theorem outL_get (x : R8) {i : Nat} (h : i < 32) : (outL x).getD i 0 = bt x.l (i / 4) (3 - i % 4) := by
 unfold outL
 rw [List.getD_eq_getElem?_getD, List.getElem?_map, List.getElem?_range h]
 rfl
theorem fill (L : List Int) {k n : Nat} (hn : L.length = n) (h : k < n) : (L.take k ++ List.replicate (n - k) 0).set k (L.getD k 0) = L.take (k + 1) ++ List.replicate (n - (k + 1)) 0 := by
 have e : n - k = (n - (k + 1)) + 1 := by omega
 have el : (L.take k).length = k := by rw [List.length_take]; omega
 rw [e, List.replicate_succ, List.set_append_right _ _ (by omega), el, Nat.sub_self, List.set_cons_zero, take_snoc (by omega), List.append_assoc]
 rfl
theorem st0_ok : okS st0 := ⟨rfl, by intro x hx; rw [show st0.l = List.replicate 64 0 from rfl] at hx; have := List.eq_of_mem_replicate hx; omega, by decide⟩
theorem xl_get (x : R8) {j : Nat} (h : j < 8) : ∃ w : W, x.l.getD j 0 = ((w.toNat : Nat) : Int) := by
 rcases (by omega : j = 0 ∨ j = 1 ∨ j = 2 ∨ j = 3 ∨ j = 4 ∨ j = 5 ∨ j = 6 ∨ j = 7) with rfl | rfl | rfl | rfl | rfl | rfl | rfl | rfl <;> exact ⟨_, rfl⟩
end Go.Proofs.YtkicjckhkefnpaaDoor
namespace Go.Proofs.YtkicjckhkefnpaaDoor
open Go Go.Vg
abbrev d32 (l : List Int) : D := .arr .u8 32 l
def isD (l : List Int) : Prop := isBytes l ∧ l.length = 32
def big : Nat := 1000000000000000
def sp75 : Go.Vg.Spec := ⟨fun ds => ds.length = 0, fun _ => stD st0, true, []⟩
def sp77 : Go.Vg.Spec := ⟨fun ds => ∃ s, ds = [stD s] ∧ okS s, fun ds => d32 (sumL (ofS (ds.headD default))), true, [117]⟩
def sp116 : Go.Vg.Spec := ⟨fun ds => ds.length = 0, fun _ => .ints .u32 iv.l, false, []⟩
def sp115 : Go.Vg.Spec := ⟨fun ds => ∃ (x : R8) (n : Nat) (p : List Int), ds = [.ints .u32 x.l, u64 (n : Int), .str p] ∧ isBytes p ∧ p.length ≤ 1000000000000000 ∧ n % 64 = 0 ∧ n < 18446744073709551616,
 fun ds => d32 (fromL (ofR (intsOf (ds.headD default))) (numOf (ds.getD 1 default)).toNat (strOf (ds.getD 2 default))), true, [170, 73, 9]⟩
def sp70 : Go.Vg.Spec := ⟨fun ds => ∃ p, ds = [.ints .u8 p] ∧ isBytes p ∧ p.length ≤ 1000000000000000, fun ds => d32 (digL (intsOf (ds.headD default))), true, [26]⟩
def sp71 : Go.Vg.Spec := ⟨fun ds => ∃ p, ds = [.str p] ∧ isBytes p ∧ p.length ≤ 1000000000000000, fun ds => d32 (digL (strOf (ds.headD default))), true, [9]⟩
def c77 : Ctx := ⟨tab, lkS [(76, sp76), (118, sp118)], [], []⟩
def c115 : Ctx := ⟨tab, lkS [(127, sp127), (128, sp128)], [], []⟩
def c70 : Ctx := ⟨tab, lkS [(75, sp75), (76, sp76), (77, sp77)], [], []⟩
def c71 : Ctx := ⟨tab, lkS [(116, sp116), (115, sp115)], [], []⟩
def inv77 (s : HS) : Nat → Option Inv
 | 4 => some ⟨Nat, fun i => [(13, .d (i64 i))], fun i => [(3, .fix (d32 ((sumL s).take (4 * i) ++ List.replicate (32 - 4 * i) 0)))], fun s => (slotN s 13).toNat, fun _ i => i ≤ 8, fun i => 8 - i⟩
 | _ => none
def fullL (n : Nat) (p : List Int) : List Int := p ++ padL ((n + p.length) % 18446744073709551616)
def inv115 (x : R8) (n : Nat) (p : List Int) : Nat → Option Inv
 | 3 => some ⟨Nat, fun k => [(7, .d (i64 ((64 * k : Nat) : Int))), (0, .d (.ints .u32 (fhK x (fullL n p) k).l))], fun _ => [], fun s => (slotN s 7).toNat / 64, fun _ k => k ≤ (fullL n p).length / 64, fun k => (fullL n p).length / 64 - k⟩
 | 8 => some ⟨Nat, fun i => [(31, .d (i64 i))], fun i => [(8, .fix (d32 ((fromL x n p).take i ++ List.replicate (32 - i) 0)))], fun s => (slotN s 31).toNat, fun _ i => i ≤ 32, fun i => 32 - i⟩
 | _ => none
set_option maxRecDepth 100000 in
theorem vc75  (F : D)  :
    (owed c0 (fun _ => none) Tryd.f75 [] F) = (
 (True ∧ 73 ≠ 0) ∧ (1 = 1 ∧ false = false ∧ (0 < 8 ∧ ([] : List Nat) = [] ∧ true = true) ∧ false = false ∧ (1 < 8 ∧ ([] : List Nat) = [] ∧ true = true) ∧ false = false ∧ (2 < 8 ∧ ([] : List Nat) = [] ∧ true = true) ∧ false = false ∧ (3 < 8 ∧ ([] : List Nat) = [] ∧ true = true) ∧ false = false ∧ (4 < 8 ∧ ([] : List Nat) = [] ∧ true = true) ∧ false = false ∧ (5 < 8 ∧ ([] : List Nat) = [] ∧ true = true) ∧ false = false ∧ (6 < 8 ∧ ([] : List Nat) = [] ∧ true = true) ∧ false = false ∧ (7 < 8 ∧ ([] : List Nat) = [] ∧ true = true) ∧ True) ∧ (false = false ∧ (0 < 3 ∧ Sk.arr 8 = Sk.arr 8) ∧ True) ∧ (Sk.st [Sk.arr 8, Sk.one, Sk.arr 64] = Sk.st [Sk.arr 8, Sk.one, Sk.arr 64] ∧ 73 ≠ 0 ∧ 73 = 73 ∧ false = false) ∧ ((73 ≠ 0 ∧ 73 = 73 ∧ true = true) ∧ True) ∧ D.st [D.arr .u32 8 [(1779033703 : Int), (3144134277 : Int), (1013904242 : Int), (2773480762 : Int), (1359893119 : Int), (2600822924 : Int), (528734635 : Int), (1541459225 : Int)], D.val (.int .u64 0), D.arr .u8 64 (List.replicate 64 (0 : Int))] = F) := by kernel_rfl
set_option maxRecDepth 100000 in
theorem vc77  (s : HS) (F : D)  :
    (owed c77 (inv77 s) Tryd.f77 [stD s] F) = (
 (True ∧ false = false) ∧ (True ∧ 32 ≠ 0) ∧ (73 ≠ 0 ∧ 73 = 73 ∧ true = true) ∧ (Sk.st [Sk.arr 8, Sk.one, Sk.arr 64] = Sk.st [Sk.arr 8, Sk.one, Sk.arr 64] ∧ 1 < 3) ∧ (1 ≠ 0 ∧ 1 = 1 ∧ false = false) ∧ (∃ (n : Nat), [D.val (.int .u64 (↑s.n : Int))] = [D.val (.int .u64 (↑n : Int))] ∧ n < 18446744073709551616) ∧ (∃ (s_1 : HS), ∃ (p : List Int), [D.st [D.arr .u32 8 s.h.l, D.val (.int .u64 (↑s.n : Int)), D.arr .u8 64 s.l], D.ints .u8 (padL (↑s.n : Int).toNat)] = [D.st [D.arr .u32 8 s_1.h.l, D.val (.int .u64 (↑s_1.n : Int)), D.arr .u8 64 s_1.l], D.ints .u8 p] ∧ okS s_1 ∧ isBytes p ∧ p.length ≤ 1000000000000000) ∧ (Sk.st [Sk.arr 8, Sk.one, Sk.arr 64] = Sk.st [Sk.arr 8, Sk.one, Sk.arr 64] ∧ 73 ≠ 0 ∧ 73 = 73 ∧ false = false) ∧ (True ∧ 32 ≠ 0) ∧ (Sk.st [Sk.arr 8, Sk.one, Sk.arr 64] = Sk.st [Sk.arr 8, Sk.one, Sk.arr 64] ∧ 0 < 3) ∧ (8 ≠ 0 ∧ 8 = 8 ∧ true = true) ∧ True ∧ (((AV.d (D.val (.int .i64 0)) = AV.d (D.val (.int .i64 (↑(Int.toNat (0 : Int)) : Int))) ∧ True) ∧ (sm (some (Blk.fix (D.st [D.arr .u32 8 (wrS (ofS (D.st [D.arr .u32 8 s.h.l, D.val (.int .u64 (↑s.n : Int)), D.arr .u8 64 s.l])) (padL (↑s.n : Int).toNat)).h.l, D.val (.int .u64 (↑(wrS (ofS (D.st [D.arr .u32 8 s.h.l, D.val (.int .u64 (↑s.n : Int)), D.arr .u8 64 s.l])) (padL (↑s.n : Int).toNat)).n : Int)), D.arr .u8 64 (wrS (ofS (D.st [D.arr .u32 8 s.h.l, D.val (.int .u64 (↑s.n : Int)), D.arr .u8 64 s.l])) (padL (↑s.n : Int).toNat)).l]))) ∧ sm (some (Blk.fix (D.arr .u8 32 [(0 : Int), (0 : Int), (0 : Int), (0 : Int), (0 : Int), (0 : Int), (0 : Int), (0 : Int), (0 : Int), (0 : Int), (0 : Int), (0 : Int), (0 : Int), (0 : Int), (0 : Int), (0 : Int), (0 : Int), (0 : Int), (0 : Int), (0 : Int), (0 : Int), (0 : Int), (0 : Int), (0 : Int), (0 : Int), (0 : Int), (0 : Int), (0 : Int), (0 : Int), (0 : Int), (0 : Int), (0 : Int)]))) ∧ some (Blk.fix (D.arr .u8 32 [(0 : Int), (0 : Int), (0 : Int), (0 : Int), (0 : Int), (0 : Int), (0 : Int), (0 : Int), (0 : Int), (0 : Int), (0 : Int), (0 : Int), (0 : Int), (0 : Int), (0 : Int), (0 : Int), (0 : Int), (0 : Int), (0 : Int), (0 : Int), (0 : Int), (0 : Int), (0 : Int), (0 : Int), (0 : Int), (0 : Int), (0 : Int), (0 : Int), (0 : Int), (0 : Int), (0 : Int), (0 : Int)])) = some (Blk.fix (D.arr .u8 32 (List.take 0 (sumL s) ++ [(0 : Int), (0 : Int), (0 : Int), (0 : Int), (0 : Int), (0 : Int), (0 : Int), (0 : Int), (0 : Int), (0 : Int), (0 : Int), (0 : Int), (0 : Int), (0 : Int), (0 : Int), (0 : Int), (0 : Int), (0 : Int), (0 : Int), (0 : Int), (0 : Int), (0 : Int), (0 : Int), (0 : Int), (0 : Int), (0 : Int), (0 : Int), (0 : Int), (0 : Int), (0 : Int), (0 : Int), (0 : Int)]))) ∧ True) ∧ true = true) ∧ Int.toNat (0 : Int) ≤ 8) ∧ ∀ (x : Nat), x ≤ 8 → true = true ∧ True ∧ match decide ((↑x : Int) < (8 : Int)) with
 | true => True ∧ ((0 : Int) ≤ (↑x : Int) ∧ (↑x : Int) < (↑(8 : Nat) : Int) ∧ 8 = 8 ∧ Ty.int IntKind.u32 = Ty.int IntKind.u32 ∧ 1 = 1) ∧ True ∧ True ∧ True ∧ True ∧ True ∧ True ∧ True ∧ True ∧ True ∧ True ∧ True ∧ True ∧ True ∧ True ∧ (0 : Int) ≤ 24 ∧ True ∧ True ∧ (0 : Int) ≤ 16 ∧ True ∧ True ∧ (0 : Int) ≤ 8 ∧ True ∧ True ∧ True ∧ ((0 : Int) ≤ IntKind.i64.wrap ((4 : Int) * (↑x : Int)) ∧ IntKind.i64.wrap ((4 : Int) * (↑x : Int)) < (↑(32 : Nat) : Int) ∧ 32 = 32 ∧ 1 = 1) ∧ (((IntKind.i64.wrap ((4 : Int) * (↑x : Int))).toNat < 32 ∧ ([] : List Nat) = [] ∧ true = true) ∧ 1 ≠ 0 ∧ 1 = 1 ∧ false = false) ∧ ((0 : Int) ≤ IntKind.i64.wrap (IntKind.i64.wrap ((4 : Int) * (↑x : Int)) + (1 : Int)) ∧ IntKind.i64.wrap (IntKind.i64.wrap ((4 : Int) * (↑x : Int)) + (1 : Int)) < (↑(32 : Nat) : Int) ∧ 32 = 32 ∧ 1 = 1) ∧ (((IntKind.i64.wrap (IntKind.i64.wrap ((4 : Int) * (↑x : Int)) + (1 : Int))).toNat < 32 ∧ ([] : List Nat) = [] ∧ true = true) ∧ 1 ≠ 0 ∧ 1 = 1 ∧ false = false) ∧ ((0 : Int) ≤ IntKind.i64.wrap (IntKind.i64.wrap ((4 : Int) * (↑x : Int)) + (2 : Int)) ∧ IntKind.i64.wrap (IntKind.i64.wrap ((4 : Int) * (↑x : Int)) + (2 : Int)) < (↑(32 : Nat) : Int) ∧ 32 = 32 ∧ 1 = 1) ∧ (((IntKind.i64.wrap (IntKind.i64.wrap ((4 : Int) * (↑x : Int)) + (2 : Int))).toNat < 32 ∧ ([] : List Nat) = [] ∧ true = true) ∧ 1 ≠ 0 ∧ 1 = 1 ∧ false = false) ∧ ((0 : Int) ≤ IntKind.i64.wrap (IntKind.i64.wrap ((4 : Int) * (↑x : Int)) + (3 : Int)) ∧ IntKind.i64.wrap (IntKind.i64.wrap ((4 : Int) * (↑x : Int)) + (3 : Int)) < (↑(32 : Nat) : Int) ∧ 32 = 32 ∧ 1 = 1) ∧ (((IntKind.i64.wrap (IntKind.i64.wrap ((4 : Int) * (↑x : Int)) + (3 : Int))).toNat < 32 ∧ ([] : List Nat) = [] ∧ true = true) ∧ 1 ≠ 0 ∧ 1 = 1 ∧ false = false) ∧ True ∧ True ∧ ((AV.d (D.val (.int .i64 (IntKind.i64.wrap ((↑x : Int) + (1 : Int))))) = AV.d (D.val (.int .i64 (↑(IntKind.i64.wrap ((↑x : Int) + (1 : Int))).toNat : Int))) ∧ True) ∧ (sm (some (Blk.fix (D.st [D.arr .u32 8 (wrS (ofS (D.st [D.arr .u32 8 s.h.l, D.val (.int .u64 (↑s.n : Int)), D.arr .u8 64 s.l])) (padL (↑s.n : Int).toNat)).h.l, D.val (.int .u64 (↑(wrS (ofS (D.st [D.arr .u32 8 s.h.l, D.val (.int .u64 (↑s.n : Int)), D.arr .u8 64 s.l])) (padL (↑s.n : Int).toNat)).n : Int)), D.arr .u8 64 (wrS (ofS (D.st [D.arr .u32 8 s.h.l, D.val (.int .u64 (↑s.n : Int)), D.arr .u8 64 s.l])) (padL (↑s.n : Int).toNat)).l]))) ∧ sm (some (Blk.fix (D.arr .u8 32 [(0 : Int), (0 : Int), (0 : Int), (0 : Int), (0 : Int), (0 : Int), (0 : Int), (0 : Int), (0 : Int), (0 : Int), (0 : Int), (0 : Int), (0 : Int), (0 : Int), (0 : Int), (0 : Int), (0 : Int), (0 : Int), (0 : Int), (0 : Int), (0 : Int), (0 : Int), (0 : Int), (0 : Int), (0 : Int), (0 : Int), (0 : Int), (0 : Int), (0 : Int), (0 : Int), (0 : Int), (0 : Int)]))) ∧ some (Blk.fix (D.arr .u8 32 (((((List.take (4 * x) (sumL s) ++ List.replicate (32 - 4 * x) (0 : Int)).set (IntKind.i64.wrap ((4 : Int) * (↑x : Int))).toNat (IntKind.u8.wrap (ishr IntKind.u32 ((wrS (ofS (D.st [D.arr .u32 8 s.h.l, D.val (.int .u64 (↑s.n : Int)), D.arr .u8 64 s.l])) (padL (↑s.n : Int).toNat)).h.l.getD (↑x : Int).toNat (0 : Int)) (24 : Int)))).set
  (IntKind.i64.wrap (IntKind.i64.wrap ((4 : Int) * (↑x : Int)) + (1 : Int))).toNat (IntKind.u8.wrap (ishr IntKind.u32 ((wrS (ofS (D.st [D.arr .u32 8 s.h.l, D.val (.int .u64 (↑s.n : Int)), D.arr .u8 64 s.l])) (padL (↑s.n : Int).toNat)).h.l.getD (↑x : Int).toNat (0 : Int)) (16 : Int)))).set (IntKind.i64.wrap (IntKind.i64.wrap ((4 : Int) * (↑x : Int)) + (2 : Int))).toNat (IntKind.u8.wrap (ishr IntKind.u32 ((wrS (ofS (D.st [D.arr .u32 8 s.h.l, D.val (.int .u64 (↑s.n : Int)), D.arr .u8 64 s.l])) (padL (↑s.n : Int).toNat)).h.l.getD (↑x : Int).toNat (0 : Int)) (8 : Int)))).set (IntKind.i64.wrap (IntKind.i64.wrap ((4 : Int) * (↑x : Int)) + (3 : Int))).toNat (IntKind.u8.wrap ((wrS (ofS (D.st [D.arr .u32 8 s.h.l, D.val (.int .u64 (↑s.n : Int)), D.arr .u8 64 s.l])) (padL (↑s.n : Int).toNat)).h.l.getD (↑x : Int).toNat (0 : Int)))))) = some (Blk.fix (D.arr .u8 32 (List.take (4 * (IntKind.i64.wrap ((↑x : Int) + (1 : Int))).toNat) (sumL s) ++ List.replicate (32 - 4 * (IntKind.i64.wrap ((↑x : Int) + (1 : Int))).toNat) (0 : Int)))) ∧ True) ∧ true = true) ∧ (IntKind.i64.wrap ((↑x : Int) + (1 : Int))).toNat ≤ 8 ∧ 8 - (IntKind.i64.wrap ((↑x : Int) + (1 : Int))).toNat < 8 - x
 | false => (32 ≠ 0 ∧ 32 = 32 ∧ true = true) ∧ (Sk.arr 32 = Sk.arr 32 ∧ 32 ≠ 0 ∧ 32 = 32 ∧ false = false) ∧ ((32 ≠ 0 ∧ 32 = 32 ∧ true = true) ∧ True) ∧ D.arr .u8 32 (List.take (4 * x) (sumL s) ++ List.replicate (32 - 4 * x) (0 : Int)) = F) := by kernel_rfl
set_option maxRecDepth 100000 in
theorem vc116  (F : D)  :
    (owed c0 (fun _ => none) Tryd.f116 [] F) = (
 True ∧ (1 = 1 ∧ 8 ≤ 4096) ∧ True ∧ (false = false ∧ True) ∧ D.ints .u32 [(1779033703 : Int), (3144134277 : Int), (1013904242 : Int), (2773480762 : Int), (1359893119 : Int), (2600822924 : Int), (528734635 : Int), (1541459225 : Int)] = F) := by kernel_rfl
set_option maxRecDepth 100000 in
theorem vc115  (x : R8) (n : Nat) (p : List Int) (F : D)  :
    (owed c115 (inv115 x n p) Tryd.f115 [.ints .u32 x.l, u64 (n : Int), .str p] F) = (
 (True ∧ 32 ≠ 0) ∧ True ∧ True ∧ True ∧ True ∧ True ∧ True ∧ (∃ (n_1 : Nat), [D.val (.int .u64 (IntKind.u64.wrap ((↑n : Int) + IntKind.u64.wrap (↑p.length : Int))))] = [D.val (.int .u64 (↑n_1 : Int))] ∧ n_1 < 18446744073709551616) ∧ (↑(p.length + (padL (IntKind.u64.wrap ((↑n : Int) + IntKind.u64.wrap (↑p.length : Int))).toNat).length) : Int) ≤ (9223372036854775807 : Int) ∧ True ∧ True ∧ (((AV.d (D.val (.int .i64 0)) = AV.d (D.val (.int .i64 (↑(0 : Nat) : Int))) ∧ AV.d (D.ints .u32 x.l) = AV.d (D.ints .u32 (fhK x (fullL n p) (0 / 64 : Nat)).l) ∧ True) ∧ (sm (some (Blk.fix (D.arr .u8 32 [(0 : Int), (0 : Int), (0 : Int), (0 : Int), (0 : Int), (0 : Int), (0 : Int), (0 : Int), (0 : Int), (0 : Int), (0 : Int), (0 : Int), (0 : Int), (0 : Int), (0 : Int), (0 : Int), (0 : Int), (0 : Int), (0 : Int), (0 : Int), (0 : Int), (0 : Int), (0 : Int), (0 : Int), (0 : Int), (0 : Int), (0 : Int), (0 : Int), (0 : Int), (0 : Int), (0 : Int), (0 : Int)]))) ∧ True) ∧ true = true) ∧ (0 / 64 : Nat) ≤ (fullL n p).length / 64) ∧ ∀ (x_1 : Nat), x_1 ≤ (fullL n p).length / 64 → true = true ∧ True ∧ True ∧ True ∧ True ∧ match decide ((↑(64 * x_1) : Int) < (↑(p ++ padL (IntKind.u64.wrap ((↑n : Int) + IntKind.u64.wrap (↑p.length : Int))).toNat).length : Int)) with
 | true => True ∧ True ∧ True ∧ True ∧ True ∧ ((0 : Int) ≤ (↑(64 * x_1) : Int) ∧ (↑(64 * x_1) : Int) ≤ IntKind.i64.wrap ((↑(64 * x_1) : Int) + (64 : Int)) ∧ IntKind.i64.wrap ((↑(64 * x_1) : Int) + (64 : Int)) ≤ (↑(p ++ padL (IntKind.u64.wrap ((↑n : Int) + IntKind.u64.wrap (↑p.length : Int))).toNat).length : Int)) ∧ (∃ (x_2 : R8), ∃ (l : List Int), [D.ints .u32 (fhK x (fullL n p) x_1).l, D.str (List.drop (↑(64 * x_1) : Int).toNat (List.take (IntKind.i64.wrap ((↑(64 * x_1) : Int) + (64 : Int))).toNat (p ++ padL (IntKind.u64.wrap ((↑n : Int) + IntKind.u64.wrap (↑p.length : Int))).toNat)))] = [D.ints .u32 x_2.l, D.str l] ∧ isBytes l ∧ l.length = 64) ∧ True ∧ True ∧ True ∧ True ∧ ((AV.d (D.val (.int .i64 (IntKind.i64.wrap ((↑(64 * x_1) : Int) + (64 : Int))))) = AV.d (D.val (.int .i64 (↑(64 * ((IntKind.i64.wrap ((↑(64 * x_1) : Int) + (64 : Int))).toNat / 64)) : Int))) ∧ AV.d (D.ints .u32 (prL (fhK x (fullL n p) x_1).l (List.drop (↑(64 * x_1) : Int).toNat (List.take (IntKind.i64.wrap ((↑(64 * x_1) : Int) + (64 : Int))).toNat (p ++ padL (IntKind.u64.wrap ((↑n : Int) + IntKind.u64.wrap (↑p.length : Int))).toNat))))) = AV.d (D.ints .u32 (fhK x (fullL n p) ((IntKind.i64.wrap ((↑(64 * x_1) : Int) + (64 : Int))).toNat / 64)).l) ∧ True) ∧ (sm (some (Blk.fix (D.arr .u8 32 [(0 : Int), (0 : Int), (0 : Int), (0 : Int), (0 : Int), (0 : Int), (0 : Int), (0 : Int), (0 : Int), (0 : Int), (0 : Int), (0 : Int), (0 : Int), (0 : Int), (0 : Int), (0 : Int), (0 : Int), (0 : Int), (0 : Int), (0 : Int), (0 : Int), (0 : Int), (0 : Int), (0 : Int), (0 : Int), (0 : Int), (0 : Int), (0 : Int), (0 : Int), (0 : Int), (0 : Int), (0 : Int)]))) ∧ True) ∧ true = true) ∧ (IntKind.i64.wrap ((↑(64 * x_1) : Int) + (64 : Int))).toNat / 64 ≤ (fullL n p).length / 64 ∧ (fullL n p).length / 64 - (IntKind.i64.wrap ((↑(64 * x_1) : Int) + (64 : Int))).toNat / 64 < (fullL n p).length / 64 - x_1
 | false => (True ∧ 32 ≠ 0) ∧ True ∧ (((AV.d (D.val (.int .i64 0)) = AV.d (D.val (.int .i64 (↑(Int.toNat (0 : Int)) : Int))) ∧ True) ∧ (sm (some (Blk.fix (D.arr .u8 32 [(0 : Int), (0 : Int), (0 : Int), (0 : Int), (0 : Int), (0 : Int), (0 : Int), (0 : Int), (0 : Int), (0 : Int), (0 : Int), (0 : Int), (0 : Int), (0 : Int), (0 : Int), (0 : Int), (0 : Int), (0 : Int), (0 : Int), (0 : Int), (0 : Int), (0 : Int), (0 : Int), (0 : Int), (0 : Int), (0 : Int), (0 : Int), (0 : Int), (0 : Int), (0 : Int), (0 : Int), (0 : Int)]))) ∧ some (Blk.fix (D.arr .u8 32 [(0 : Int), (0 : Int), (0 : Int), (0 : Int), (0 : Int), (0 : Int), (0 : Int), (0 : Int), (0 : Int), (0 : Int), (0 : Int), (0 : Int), (0 : Int), (0 : Int), (0 : Int), (0 : Int), (0 : Int), (0 : Int), (0 : Int), (0 : Int), (0 : Int), (0 : Int), (0 : Int), (0 : Int), (0 : Int), (0 : Int), (0 : Int), (0 : Int), (0 : Int), (0 : Int), (0 : Int), (0 : Int)])) = some (Blk.fix (D.arr .u8 32 (List.take (Int.toNat (0 : Int)) (fromL x n p) ++ [(0 : Int), (0 : Int), (0 : Int), (0 : Int), (0 : Int), (0 : Int), (0 : Int), (0 : Int), (0 : Int), (0 : Int), (0 : Int), (0 : Int), (0 : Int), (0 : Int), (0 : Int), (0 : Int), (0 : Int), (0 : Int), (0 : Int), (0 : Int), (0 : Int), (0 : Int), (0 : Int), (0 : Int), (0 : Int), (0 : Int), (0 : Int), (0 : Int), (0 : Int), (0 : Int), (0 : Int), (0 : Int)]))) ∧ True) ∧ true = true) ∧ Int.toNat (0 : Int) ≤ 32) ∧ ∀ (x_2 : Nat), x_2 ≤ 32 → true = true ∧ True ∧ match decide ((↑x_2 : Int) < (32 : Int)) with
  | true => True ∧ True ∧ True ∧ True ∧ True ∧ (4 : Int) ≠ 0 ∧ ((0 : Int) ≤ IntKind.i64.wrap ((↑x_2 : Int).tdiv (4 : Int)) ∧ IntKind.i64.wrap ((↑x_2 : Int).tdiv (4 : Int)) < (↑(fhK x (fullL n p) x_1).l.length : Int) ∧ 1 = 1) ∧ (1 ≠ 0 ∧ 1 = 1 ∧ false = false) ∧ True ∧ (4 : Int) ≠ 0 ∧ True ∧ True ∧ (0 : Int) ≤ IntKind.i64.wrap ((24 : Int) - IntKind.i64.wrap ((8 : Int) * (↑x_2 : Int).tmod (4 : Int))) ∧ True ∧ ((0 : Int) ≤ (↑x_2 : Int) ∧ (↑x_2 : Int) < (↑(32 : Nat) : Int) ∧ 32 = 32 ∧ 1 = 1) ∧ (((↑x_2 : Int).toNat < 32 ∧ ([] : List Nat) = [] ∧ true = true) ∧ 1 ≠ 0 ∧ 1 = 1 ∧ false = false) ∧ True ∧ True ∧ ((AV.d (D.val (.int .i64 (IntKind.i64.wrap ((↑x_2 : Int) + (1 : Int))))) = AV.d (D.val (.int .i64 (↑(IntKind.i64.wrap ((↑x_2 : Int) + (1 : Int))).toNat : Int))) ∧ True) ∧ (sm (some (Blk.fix (D.arr .u8 32 [(0 : Int), (0 : Int), (0 : Int), (0 : Int), (0 : Int), (0 : Int), (0 : Int), (0 : Int), (0 : Int), (0 : Int), (0 : Int), (0 : Int), (0 : Int), (0 : Int), (0 : Int), (0 : Int), (0 : Int), (0 : Int), (0 : Int), (0 : Int), (0 : Int), (0 : Int), (0 : Int), (0 : Int), (0 : Int), (0 : Int), (0 : Int), (0 : Int), (0 : Int), (0 : Int), (0 : Int), (0 : Int)]))) ∧ some (Blk.fix (D.arr .u8 32 ((List.take x_2 (fromL x n p) ++ List.replicate (32 - x_2) (0 : Int)).set (↑x_2 : Int).toNat (IntKind.u8.wrap (ishr IntKind.u32 ((fhK x (fullL n p) x_1).l.getD (IntKind.i64.wrap ((↑x_2 : Int).tdiv (4 : Int))).toNat (0 : Int)) (IntKind.i64.wrap ((24 : Int) - IntKind.i64.wrap ((8 : Int) * (↑x_2 : Int).tmod (4 : Int))))))))) = some (Blk.fix (D.arr .u8 32 (List.take (IntKind.i64.wrap ((↑x_2 : Int) + (1 : Int))).toNat (fromL x n p) ++ List.replicate (32 - (IntKind.i64.wrap ((↑x_2 : Int) + (1 : Int))).toNat) (0 : Int)))) ∧ True) ∧ true = true) ∧ (IntKind.i64.wrap ((↑x_2 : Int) + (1 : Int))).toNat ≤ 32 ∧ 32 - (IntKind.i64.wrap ((↑x_2 : Int) + (1 : Int))).toNat < 32 - x_2
  | false => (32 ≠ 0 ∧ 32 = 32 ∧ true = true) ∧ (Sk.arr 32 = Sk.arr 32 ∧ 32 ≠ 0 ∧ 32 = 32 ∧ false = false) ∧ ((32 ≠ 0 ∧ 32 = 32 ∧ true = true) ∧ True) ∧ D.arr .u8 32 (List.take x_2 (fromL x n p) ++ List.replicate (32 - x_2) (0 : Int)) = F) := by kernel_rfl
set_option maxRecDepth 100000 in
theorem vc70  (p : List Int) (F : D)  :
    (owed c70 (fun _ => none) Tryd.f70 [.ints .u8 p] F) = (
 (True ∧ 32 ≠ 0) ∧ 0 = 0 ∧ True ∧ (∃ (s : HS), ∃ (p_1 : List Int), [D.st [D.arr .u32 8 st0.h.l, D.val (.int .u64 (↑st0.n : Int)), D.arr .u8 64 st0.l], D.ints .u8 p] = [D.st [D.arr .u32 8 s.h.l, D.val (.int .u64 (↑s.n : Int)), D.arr .u8 64 s.l], D.ints .u8 p_1] ∧ okS s ∧ isBytes p_1 ∧ p_1.length ≤ 1000000000000000) ∧ (∃ (s : HS), [D.st [D.arr .u32 8 (wrS (ofS (D.st [D.arr .u32 8 st0.h.l, D.val (.int .u64 (↑st0.n : Int)), D.arr .u8 64 st0.l])) p).h.l, D.val (.int .u64 (↑(wrS (ofS (D.st [D.arr .u32 8 st0.h.l, D.val (.int .u64 (↑st0.n : Int)), D.arr .u8 64 st0.l])) p).n : Int)), D.arr .u8 64 (wrS (ofS (D.st [D.arr .u32 8 st0.h.l, D.val (.int .u64 (↑st0.n : Int)), D.arr .u8 64 st0.l])) p).l]] = [D.st [D.arr .u32 8 s.h.l, D.val (.int .u64 (↑s.n : Int)), D.arr .u8 64 s.l]] ∧ okS s) ∧ (Sk.arr 32 = Sk.arr 32 ∧ 32 ≠ 0 ∧ 32 = 32 ∧ false = false) ∧ ((32 ≠ 0 ∧ 32 = 32 ∧ true = true) ∧ True) ∧ D.arr .u8 32 (sumL (ofS (D.st [D.arr .u32 8 (wrS (ofS (D.st [D.arr .u32 8 st0.h.l, D.val (.int .u64 (↑st0.n : Int)), D.arr .u8 64 st0.l])) p).h.l, D.val (.int .u64 (↑(wrS (ofS (D.st [D.arr .u32 8 st0.h.l, D.val (.int .u64 (↑st0.n : Int)), D.arr .u8 64 st0.l])) p).n : Int)), D.arr .u8 64 (wrS (ofS (D.st [D.arr .u32 8 st0.h.l, D.val (.int .u64 (↑st0.n : Int)), D.arr .u8 64 st0.l])) p).l]))) = F) := by kernel_rfl
set_option maxRecDepth 100000 in
theorem vc71  (p : List Int) (F : D)  :
    (owed c71 (fun _ => none) Tryd.f71 [.str p] F) = (
 (True ∧ 32 ≠ 0) ∧ 0 = 0 ∧ True ∧ (∃ (x : R8), ∃ (n : Nat), ∃ (p_1 : List Int), [D.ints .u32 iv.l, D.val (.int .u64 0), D.str p] = [D.ints .u32 x.l, D.val (.int .u64 (↑n : Int)), D.str p_1] ∧ isBytes p_1 ∧ p_1.length ≤ 1000000000000000 ∧ n % 64 = 0 ∧ n < 18446744073709551616) ∧ (Sk.arr 32 = Sk.arr 32 ∧ 32 ≠ 0 ∧ 32 = 32 ∧ false = false) ∧ ((32 ≠ 0 ∧ 32 = 32 ∧ true = true) ∧ True) ∧ D.arr .u8 32 (fromL (ofR iv.l) 0 p) = F) := by kernel_rfl
end Go.Proofs.YtkicjckhkefnpaaDoor
namespace Go.Proofs.YtkicjckhkefnpaaDoor
open Go Go.Vg
theorem btw (x : R8) {j : Nat} (h : j < 8) {k : Nat} (hk : k ≤ 3) : IntKind.u8.wrap (ishr .u32 (x.l.getD j 0) ((8 * k : Nat) : Int)) = bt x.l j k := by
 obtain ⟨w, e⟩ := xl_get x h
 unfold bt
 rw [e, ishrN .u32 (show 8 * k ≤ 32 by omega), wN8, Int.toNat_natCast, Nat.pow_mul]
theorem btw0 (x : R8) {j : Nat} (h : j < 8) : IntKind.u8.wrap (x.l.getD j 0) = bt x.l j 0 := by
 obtain ⟨w, e⟩ := xl_get x h
 unfold bt
 rw [e, wN8, Int.toNat_natCast, Nat.pow_zero, Nat.div_one]
theorem tl_bytes (b : Nat) : ∀ k, isBytes (tl b k)
 | 0 => fun x hx => by cases hx
 | k + 1 => fun x hx => by
  rcases List.mem_cons.1 hx with rfl | h
  ·omega
  ·exact tl_bytes b k x h
theorem padL_bytes (n : Nat) : isBytes (padL n) := by
 intro x hx
 unfold padL at hx
 rcases List.mem_cons.1 hx with rfl | h
 ·omega
 ·rcases List.mem_append.1 h with h | h
  ·have := List.eq_of_mem_replicate h
   omega
  ·exact tl_bytes _ _ x h
theorem bytes_app {a b : List Int} (ha : isBytes a) (hb : isBytes b) : isBytes (a ++ b) := by
 intro x hx
 rcases List.mem_append.1 hx with h | h
 ·exact ha x h
 ·exact hb x h
theorem bytes_drop {l : List Int} (h : isBytes l) (n : Nat) : isBytes (l.drop n) := fun x hx => h x (List.mem_of_mem_drop hx)
set_option maxRecDepth 100000 in
theorem m75 : Meets Tryd.prog 75 sp75 := by
 refine meets_of_owed (C := c0) ⟨tab_ok, fun f s h => by cases h⟩ (by kernel_rfl) (by kernel_rfl : Tryd.prog.funcs[75]? = some Tryd.f75) (by kernel_rfl) (by kernel_rfl) (by kernel_rfl) _ ?_
 rintro ds hds
 have hds : ds.length = 0 := hds
 obtain rfl := List.eq_nil_of_length_eq_zero hds
 refine ⟨fun _ => rfl, fun _ => none, ?_⟩
 show owed c0 (fun _ => none) Tryd.f75 [] (stD st0)
 rw [vc75]
 and_intros <;> first | rfl | decide | trivial
set_option maxRecDepth 100000 in
theorem m116 : Meets Tryd.prog 116 sp116 := by
 refine meets_of_owed (C := c0) ⟨tab_ok, fun f s h => by cases h⟩ (by kernel_rfl) (by kernel_rfl : Tryd.prog.funcs[116]? = some Tryd.f116) (by kernel_rfl) (by kernel_rfl) (by kernel_rfl) _ ?_
 rintro ds hds
 have hds : ds.length = 0 := hds
 obtain rfl := List.eq_nil_of_length_eq_zero hds
 refine ⟨(fun h => by cases h), fun _ => none, ?_⟩
 show owed c0 (fun _ => none) Tryd.f116 [] (.ints .u32 iv.l)
 rw [vc116]
 and_intros <;> first | rfl | decide | trivial
set_option maxRecDepth 100000 in
theorem m77 : Meets Tryd.prog 77 sp77 := by
 refine meets_of_owed (C := c77) ⟨tab_ok, lkS_ok ⟨m76, m118, trivial⟩⟩ (by kernel_rfl) (by kernel_rfl : Tryd.prog.funcs[77]? = some Tryd.f77) (by kernel_rfl) (by kernel_rfl) (by kernel_rfl) _ ?_
 rintro _ ⟨s, rfl, hs⟩
 refine ⟨fun _ => rfl, inv77 s, ?_⟩
 show owed c77 (inv77 s) Tryd.f77 [stD s] (d32 (sumL (ofS (stD s))))
 have e : ofS (D.st [D.arr .u32 8 s.h.l, D.val (.int .u64 (s.n : Int)), D.arr .u8 64 s.l]) = s := ofS_eq s
 rw [vc77]
 simp (decide := true) only [e, eq_self, true_and, and_true, ne_eq, not_false_eq_true, Int.toNat_natCast]
 have hz := zc_lt s.n
 have hl := padL_len s.n
 have hy : sumL s = outL (wrS s (padL s.n)).h := rfl
 refine ⟨⟨s.n, rfl, hs.2.2⟩, ⟨s, padL s.n, rfl, hs, padL_bytes _, by omega⟩, (by and_intros <;> first | rfl | trivial | omega), fun x hx => ?_⟩
 generalize wrS s (padL s.n) = y at *
 have hL : (sumL s).length = 32 := by rw [hy]; exact outL_len _
 have g : ∀ j, j ≤ 3 → 4 * x + j < 32 → (sumL s).getD (4 * x + j) 0 = bt y.h.l x (3 - j) := by
  intro j hj hlt
  rw [hy, outL_get _ hlt, show (4 * x + j) / 4 = x by omega, show (4 * x + j) % 4 = j by omega]
 generalize sumL s = L at *
 split
 ·rename_i h
  have h : x < 8 := by have := of_decide_eq_true h; omega
  have ew : IntKind.i64.wrap ((x : Int) + 1) = ((x + 1 : Nat) : Int) := by rw [wi (by omega) (by omega)]; omega
  have e4 : IntKind.i64.wrap (4 * (x : Int)) = ((4 * x : Nat) : Int) := by rw [wi (by omega) (by omega)]; omega
  have e1 : ∀ j : Nat, j ≤ 3 → IntKind.i64.wrap (((4 * x : Nat) : Int) + (j : Int)) = ((4 * x + j : Nat) : Int) := fun j hj => by rw [wi (by omega) (by omega)]; omega
  have e41 := e1 1 (by decide)
  have e42 := e1 2 (by decide)
  have e43 := e1 3 (by decide)
  have b3 := btw y.h h (k := 3) (by decide)
  have b2 := btw y.h h (k := 2) (by decide)
  have b1 := btw y.h h (k := 1) (by decide)
  have b0 := btw0 y.h h
  have g0 := g 0 (by decide) (by omega)
  have g1 := g 1 (by decide) (by omega)
  have g2 := g 2 (by decide) (by omega)
  have g3 := g 3 (by decide) (by omega)
  have f0 := fill L (n := 32) (k := 4 * x + 0) hL (by omega)
  have f1 := fill L (n := 32) (k := 4 * x + 1) hL (by omega)
  have f2 := fill L (n := 32) (k := 4 * x + 2) hL (by omega)
  have f3 := fill L (n := 32) (k := 4 * x + 3) hL (by omega)
  rw [g0] at f0
  rw [g1] at f1
  rw [g2] at f2
  rw [g3] at f3
  change IntKind.u8.wrap (ishr .u32 (y.h.l.getD x 0) 24) = _ at b3
  change IntKind.u8.wrap (ishr .u32 (y.h.l.getD x 0) 16) = _ at b2
  change IntKind.u8.wrap (ishr .u32 (y.h.l.getD x 0) 8) = _ at b1
  change IntKind.i64.wrap (((4 * x : Nat) : Int) + 1) = _ at e41
  change IntKind.i64.wrap (((4 * x : Nat) : Int) + 2) = _ at e42
  change IntKind.i64.wrap (((4 * x : Nat) : Int) + 3) = _ at e43
  simp only [Nat.add_zero, Nat.sub_zero, Nat.sub_self, show 3 - 1 = 2 from rfl, show 3 - 2 = 1 from rfl] at f0 f1 f2 f3
  simp only [ew, e4, e41, e42, e43, Int.toNat_natCast, b3, b2, b1, b0, f0, f1, f2, f3]
  and_intros <;> first | rfl | omega | trivial
 ·rename_i h
  obtain rfl : x = 8 := by have := of_decide_eq_false h; omega
  rw [List.take_of_length_le (by omega)]
  show d32 (L ++ []) = d32 L
  rw [List.append_nil]
set_option maxRecDepth 100000 in
theorem m115 : Meets Tryd.prog 115 sp115 := by
 refine meets_of_owed (C := c115) ⟨tab_ok, lkS_ok ⟨m127, m128, trivial⟩⟩ (by kernel_rfl) (by kernel_rfl : Tryd.prog.funcs[115]? = some Tryd.f115) (by kernel_rfl) (by kernel_rfl) (by kernel_rfl) _ ?_
 rintro _ ⟨x, n, p, rfl, hb, hl, hn, hn2⟩
 refine ⟨fun _ => rfl, inv115 x n p, ?_⟩
 show owed c115 (inv115 x n p) Tryd.f115 [.ints .u32 x.l, u64 (n : Int), .str p] (d32 (fromL (ofR x.l) ((n : Int)).toNat p))
 rw [vc115, ofR_l, Int.toNat_natCast]
 have ew : IntKind.u64.wrap ((n : Int) + IntKind.u64.wrap (p.length : Int)) = (((n + p.length) % 18446744073709551616 : Nat) : Int) := by
  rw [w64, w64]; omega
 have ef : p ++ padL ((n + p.length) % 18446744073709551616) = fullL n p := rfl
 have hm : (fullL n p).length % 64 = 0 := mul64 n p hn
 have hmb : isBytes (fullL n p) := bytes_app hb (padL_bytes _)
 have hz := zc_lt ((n + p.length) % 18446744073709551616)
 have hpl := padL_len ((n + p.length) % 18446744073709551616)
 have hml : (fullL n p).length = p.length + (padL ((n + p.length) % 18446744073709551616)).length := List.length_append
 have hfr : fromL x n p = outL (fhK x (fullL n p) ((fullL n p).length / 64)) := rfl
 simp (decide := true) only [ew, ef, eq_self, true_and, and_true, ne_eq, not_false_eq_true, Int.toNat_natCast]
 have hk0 : fhK x (fullL n p) (0 / 64) = x := rfl
 rw [hk0]
 generalize hM : fullL n p = M at *
 refine ⟨⟨_, rfl, Nat.mod_lt _ (by decide)⟩, by omega, (by and_intros <;> first | rfl | trivial | omega), fun k hk => ?_⟩
 split
 ·rename_i h
  have h : 64 * k < M.length := by have := of_decide_eq_true h; omega
  have e1 : IntKind.i64.wrap (((64 * k : Nat) : Int) + 64) = ((64 * k + 64 : Nat) : Int) := by rw [wi (by omega) (by omega)]; omega
  have e2 : (64 * k + 64) / 64 = k + 1 := by omega
  have e3 : prL (fhK x M k).l (List.take 64 (List.drop (64 * k) M)) = (fhK x M (k + 1)).l := by
   unfold prL
   rw [ofR_l]
   rfl
  have e4 : List.drop (64 * k) (List.take (64 * k + 64) M) = List.take 64 (List.drop (64 * k) M) := by
   rw [List.drop_take, show 64 * k + 64 - 64 * k = 64 by omega]
  simp only [e1, Int.toNat_natCast, e2, e4, e3]
  refine ⟨by omega, ⟨_, _, rfl, bytes_take (bytes_drop hmb _) _, by rw [List.length_take, List.length_drop]; omega⟩, ?_, by omega, by omega⟩
  rw [show 64 * (k + 1) = 64 * k + 64 by omega]
  and_intros <;> first | rfl | trivial
 ·rename_i h
  obtain rfl : k = M.length / 64 := by have := of_decide_eq_false h; omega
  have hL : (fromL x n p).length = 32 := by rw [hfr]; exact outL_len _
  refine ⟨(by and_intros <;> first | rfl | trivial | omega), fun i hi => ?_⟩
  split
  ·rename_i h
   have h : i < 32 := by have := of_decide_eq_true h; omega
   have g := outL_get (fhK x M (M.length / 64)) h
   have f := fill (fromL x n p) hL h
   have d1 : ((i : Nat) : Int).tdiv 4 = ((i / 4 : Nat) : Int) := tdivN _ 4
   have d2 : ((i : Nat) : Int).tmod 4 = ((i % 4 : Nat) : Int) := tmodN _ 4
   have d3 : IntKind.i64.wrap ((i / 4 : Nat) : Int) = ((i / 4 : Nat) : Int) := by rw [wi (by omega) (by omega)]
   have d4 : IntKind.i64.wrap (24 - IntKind.i64.wrap (8 * ((i % 4 : Nat) : Int))) = ((8 * (3 - i % 4) : Nat) : Int) := by
    rw [wi (n := 8 * ((i % 4 : Nat) : Int)) (by omega) (by omega), wi (by omega) (by omega)]; omega
   have d5 : IntKind.i64.wrap ((i : Int) + 1) = ((i + 1 : Nat) : Int) := by rw [wi (by omega) (by omega)]; omega
   have d6 : (fhK x M (M.length / 64)).l.length = 8 := rfl
   have b := btw (fhK x M (M.length / 64)) (j := i / 4) (by omega) (k := 3 - i % 4) (by omega)
   rw [hfr, g] at f
   rw [hfr]
   simp only [d1, d2, d3, d4, d5, d6, Int.toNat_natCast, b, f]
   and_intros <;> first | rfl | omega | trivial
  ·rename_i h
   obtain rfl : i = 32 := by have := of_decide_eq_false h; omega
   rw [List.take_of_length_le (by omega)]
   show d32 (fromL x n p ++ []) = d32 (fromL x n p)
   rw [List.append_nil]
end Go.Proofs.YtkicjckhkefnpaaDoor
namespace Go.Proofs.YtkicjckhkefnpaaDoor
open Go Go.Vg
set_option maxRecDepth 100000 in
theorem m70 : Meets Tryd.prog 70 sp70 := by
 refine meets_of_owed (C := c70) ⟨tab_ok, lkS_ok ⟨m75, m76, m77, trivial⟩⟩ (by kernel_rfl) (by kernel_rfl : Tryd.prog.funcs[70]? = some Tryd.f70) (by kernel_rfl) (by kernel_rfl) (by kernel_rfl) _ ?_
 rintro _ ⟨p, rfl, hb, hl⟩
 refine ⟨fun _ => rfl, fun _ => none, ?_⟩
 show owed c70 (fun _ => none) Tryd.f70 [.ints .u8 p] (d32 (digL p))
 have e : ∀ s : HS, ofS (D.st [D.arr .u32 8 s.h.l, D.val (.int .u64 (s.n : Int)), D.arr .u8 64 s.l]) = s := ofS_eq
 rw [vc70]
 simp (decide := true) only [e, eq_self, true_and, and_true, ne_eq, not_false_eq_true, Int.toNat_natCast, sum_st0]
 exact ⟨⟨st0, p, rfl, st0_ok, hb, hl⟩, ⟨_, rfl, wr_ok p st0_ok hb⟩⟩
set_option maxRecDepth 100000 in
theorem m71 : Meets Tryd.prog 71 sp71 := by
 refine meets_of_owed (C := c71) ⟨tab_ok, lkS_ok ⟨m116, m115, trivial⟩⟩ (by kernel_rfl) (by kernel_rfl : Tryd.prog.funcs[71]? = some Tryd.f71) (by kernel_rfl) (by kernel_rfl) (by kernel_rfl) _ ?_
 rintro _ ⟨p, rfl, hb, hl⟩
 refine ⟨fun _ => rfl, fun _ => none, ?_⟩
 show owed c71 (fun _ => none) Tryd.f71 [.str p] (d32 (digL p))
 rw [vc71, ofR_l]
 simp (decide := true) only [eq_self, true_and, and_true, ne_eq, not_false_eq_true, Int.toNat_natCast]
 exact ⟨⟨iv, 0, p, rfl, hb, hl, rfl, by decide⟩, rfl⟩
end Go.Proofs.YtkicjckhkefnpaaDoor
namespace Go.Proofs.YtkicjckhkefnpaaDoor
open Go Go.Vg
set_option maxRecDepth 100000 in
theorem ok26  (d : D)  :
    (OkT tab 8 26 d) = (
 ∃ (l : List Int), d = D.ints .u8 l ∧ (∀ (z : Int), z ∈ l → (0 : Int) ≤ z ∧ z ≤ IntKind.u8.max) ∧ l.length ≤ 9223372036854775807 ∧ l.length * 1 ≤ 140737488351232) := by kernel_rfl
theorem eqB_refl (l : List Int) : eqB l l = true := eqB_iff.2 rfl
theorem ofS' (s : HS) : ofS (D.st [D.arr .u32 8 s.h.l, D.val (.int .u64 (s.n : Int)), D.arr .u8 64 s.l]) = s := ofS_eq s
theorem digL_len (p : List Int) : (digL p).length = 32 := outL_len _
theorem digL_bytes (p : List Int) : isBytes (digL p) := outL_bytes _
end Go.Proofs.YtkicjckhkefnpaaDoor
namespace Go.Proofs.YtkicjckhkefnpaaDoor
open Go Go.Vg
noncomputable def dgF (l : List Int) : List Int := opq (dg (vB 256 l))
noncomputable def rsF (l m : List Int) : List Int := opq (dg (vD l % vD m))
noncomputable def sp51o : Go.Vg.Spec := ⟨sp51.pre, fun ds => dgs (rsF (intsOf (ds.headD default)) (intsOf (ds.getD 1 default))), false, [89, 89]⟩
end Go.Proofs.YtkicjckhkefnpaaDoor
namespace Go.Proofs.YtkicjckhkefnpaaDoor
open Go Go.Vg
theorem wordG {l : List Int} (h : isBytes l) (n : Nat) (hl : l.length ≤ 8 * n) (x : Nat) (hx : x < l.length) :
  (nB 18446744073709551616 n (vB 256 (l.take x))).set (x / 8) (ior IntKind.u64 ((nB 18446744073709551616 n (vB 256 (l.take x))).getD (x / 8) 0) (ishl IntKind.u64 (l.getD x 0) ((x % 8 * 8 : Nat) : Int))) = nB 18446744073709551616 n (vB 256 (l.take (x + 1))) := by
 have hs := h _ (getD_mem (l := l) (n := x) hx)
 obtain ⟨s, e⟩ := Int.eq_ofNat_of_zero_le hs.1
 have hlt : vB 256 (l.take x) < 256 ^ x := by
  have := vB_lt (b := 256) (l := l.take x) fun y hy => h y (List.mem_of_mem_take hy)
  rwa [List.length_take, show min x l.length = x by omega] at this
 obtain ⟨g1, g2, g3⟩ := nB_grow 256 8 n (vB 256 (l.take x)) x s (by decide) (by decide) hlt (by omega) (by omega)
 rw [show (256 ^ 8 : Nat) = 18446744073709551616 by decide] at g1 g2 g3
 rw [vB_take1 x (by omega), e, Int.toNat_natCast, g1, nB_get _ _ _ _ (by omega)]
 generalize vB 256 (l.take x) / 18446744073709551616 ^ (x / 8) % 18446744073709551616 = o at g2 g3 ⊢
 have g4 : 256 ^ (x % 8 + 1) ≤ 256 ^ 8 := Nat.pow_le_pow_right (by decide) (by omega)
 rw [show (256 ^ 8 : Nat) = 18446744073709551616 by decide] at g4
 have g5 : o ≤ o + 256 ^ (x % 8) * s := Nat.le_add_right _ _
 have e2 : ishl IntKind.u64 (s : Int) ((x % 8 * 8 : Nat) : Int) = ((256 ^ (x % 8) * s : Nat) : Int) := by
  unfold ishl
  rw [Int.toNat_natCast, show min (x % 8 * 8) IntKind.u64.bits = x % 8 * 8 by simp only [IntKind.bits]; omega]
  have e3 : (s : Int) * 2 ^ (x % 8 * 8) = ((256 ^ (x % 8) * s : Nat) : Int) := by
   rw [show (256 : Nat) = 2 ^ 8 from rfl, ← Nat.pow_mul, Nat.mul_comm 8, Nat.mul_comm _ s]
   simp
  rw [e3]
  generalize 256 ^ (x % 8) * s = q at g3 ⊢
  exact wu (by omega) (by omega)
 rw [e2, ior_nat (by omega) (by omega)]
 congr 2
 have e4 : (256 : Nat) ^ (x % 8) = 2 ^ (8 * (x % 8)) := by rw [show (256 : Nat) = 2 ^ 8 from rfl, ← Nat.pow_mul]
 rw [e4] at g2 ⊢
 rw [Nat.or_comm, ← Nat.two_pow_add_eq_or_of_lt g2, Nat.add_comm]
theorem b64 {l : List Int} (h : isBytes l) (hl : l.length ≤ 64) : vB 256 l < 256 ^ 64 := Nat.lt_of_lt_of_le (vB_lt (b := 256) h) (Nat.pow_le_pow_right (by decide) hl)
end Go.Proofs.YtkicjckhkefnpaaDoor
namespace Go.Proofs.YtkicjckhkefnpaaDoor
open Go Go.Vg
theorem m51o : Meets Tryd.prog 51 sp51o := by
 have e : sp51o = sp51 := by
  unfold sp51o rsF
  simp only [opq_eq]
  rfl
 rw [e]; exact m51
end Go.Proofs.YtkicjckhkefnpaaDoor
namespace Go.Proofs.YtkicjckhkefnpaaDoor
open Go Go.Vg
noncomputable def plF (l m : List Int) : List Int := opq (dg (vD l + vD m))
noncomputable def tmF (l m : List Int) : List Int := opq (dg (vD l * vD m))
noncomputable def toF (l : List Int) : List Int := opq (nB 18446744073709551616 4 (vD l))
noncomputable def sp53o : Go.Vg.Spec := ⟨sp53.pre, fun ds => dgs (plF (intsOf (ds.headD default)) (intsOf (ds.getD 1 default))), false, [89, 89]⟩
noncomputable def sp54o : Go.Vg.Spec := ⟨sp54.pre, fun ds => dgs (tmF (intsOf (ds.headD default)) (intsOf (ds.getD 1 default))), false, [89, 89]⟩
noncomputable def sp50o : Go.Vg.Spec := ⟨sp50.pre, fun ds => num4 (toF (intsOf (ds.headD default))), true, [89]⟩
end Go.Proofs.YtkicjckhkefnpaaDoor
namespace Go.Proofs.YtkicjckhkefnpaaDoor
open Go Go.Vg
theorem dgL_eq : dgL = dg LQ := opq_eq _
theorem vdd (n : Nat) : vD (dg n) = n := vl_dg n
theorem rs_eq (a b : Nat) : rsF (dg a) (dg b) = dg (a % b) := by unfold rsF; rw [opq_eq, vdd, vdd]
theorem pl_eq (a b : Nat) : plF (dg a) (dg b) = dg (a + b) := by unfold plF; rw [opq_eq, vdd, vdd]
theorem tm_eq (a b : Nat) : tmF (dg a) (dg b) = dg (a * b) := by unfold tmF; rw [opq_eq, vdd, vdd]
theorem to_eq (a : Nat) : toF (dg a) = nB 18446744073709551616 4 a := by unfold toF; rw [opq_eq, vdd]
theorem m53o : Meets Tryd.prog 53 sp53o := by
 have e : sp53o = sp53 := by
  unfold sp53o plF
  simp only [opq_eq]
  rfl
 rw [e]; exact m53
theorem m54o : Meets Tryd.prog 54 sp54o := by
 have e : sp54o = sp54 := by
  unfold sp54o tmF
  simp only [opq_eq]
  rfl
 rw [e]; exact m54
theorem m50o : Meets Tryd.prog 50 sp50o := by
 have e : sp50o = sp50 := by
  unfold sp50o toF
  simp only [opq_eq]
  rfl
 rw [e]; exact m50
end Go.Proofs.YtkicjckhkefnpaaDoor
namespace Go.Proofs.YtkicjckhkefnpaaDoor
open Go Go.Vg
structure MS where
 i : HS
 o : HS
abbrev stM (s : MS) : D := .st [stD s.i, stD s.o]
def ofM (d : D) : MS := ⟨ofS (fldOf d 0), ofS (fldOf d 1)⟩
def keyL (k : List Int) : List Int := if 64 < k.length then digL k else k
def padK (k : List Int) : List Int := keyL k ++ List.replicate (64 - (keyL k).length) 0
def xK (k : List Int) (c : Nat) : List Int := (padK k).map fun z => ((z.toNat ^^^ c : Nat) : Int)
def mNew (k : List Int) : MS := ⟨wrS st0 (xK k 54), wrS st0 (xK k 92)⟩
def mWr (s : MS) (p : List Int) : MS := ⟨wrS s.i p, s.o⟩
def mSum (s : MS) : List Int := sumL (wrS s.o (sumL s.i))
def mkL (k p : List Int) : List Int := digL (xK k 92 ++ digL (xK k 54 ++ p))
def okM (s : MS) : Prop := okS s.i ∧ okS s.o
def isB (p : List Int) : Prop := isBytes p ∧ p.length ≤ 1000000000000000
def sp82 : Go.Vg.Spec := ⟨fun ds => ∃ k, ds = [.ints .u8 k] ∧ isB k, fun ds => stM (mNew (intsOf (ds.headD default))), true, [26]⟩
def sp83 : Go.Vg.Spec := ⟨fun ds => ∃ s p, ds = [stM s, .ints .u8 p] ∧ okM s ∧ isB p, fun ds => stM (mWr (ofM (ds.headD default)) (intsOf (ds.getD 1 default))), true, [125, 26]⟩
def sp84 : Go.Vg.Spec := ⟨fun ds => ∃ s, ds = [stM s] ∧ okM s, fun ds => d32 (mSum (ofM (ds.headD default))), true, [125]⟩
def sp79 : Go.Vg.Spec := ⟨fun ds => ∃ k p, ds = [.str k, .str p] ∧ isB k ∧ isBytes p ∧ p.length ≤ 500000000000000, fun ds => d32 (mkL (strOf (ds.headD default)) (strOf (ds.getD 1 default))), true, [9, 9]⟩
def c82 : Ctx := ⟨tab, lkS [(75, sp75), (76, sp76), (70, sp70)], [], []⟩
def c83 : Ctx := ⟨tab, lkS [(76, sp76)], [], []⟩
def c84 : Ctx := ⟨tab, lkS [(76, sp76), (77, sp77)], [], []⟩
def c79 : Ctx := ⟨tab, lkS [(71, sp71)], [], []⟩
def mixK (k : List Int) (c i : Nat) : List Int := (xK k c).take i ++ (padK k).drop i
def inv82 (k : List Int) : Nat → Option Inv
 | 8 => some ⟨Nat, fun i => [(17, .d (i64 i))], fun i => [(4, .fix (.arr .u8 64 (mixK k 54 i))), (5, .fix (.arr .u8 64 (mixK k 92 i)))], fun s => (slotN s 17).toNat, fun _ i => i ≤ 64, fun i => 64 - i⟩
 | _ => none
def inv79 (k : List Int) : Nat → Option Inv
 | 6 => some ⟨Nat, fun i => [(18, .d (i64 i)), (6, .d (.str ((xK k 54).take i))), (7, .d (.str ((xK k 92).take i)))], fun _ => [], fun s => (slotN s 18).toNat, fun _ i => i ≤ 64, fun i => 64 - i⟩
 | _ => none
set_option maxRecDepth 100000 in
theorem vc82  (k : List Int) (F : D)  :
    (owed c82 (inv82 k) Tryd.f82 [.ints .u8 k] F) = (
 (True ∧ 146 ≠ 0) ∧ True ∧ True ∧ True ∧ match decide ((↑k.length : Int) > (64 : Int)) with
 | true => True ∧ (∃ (p : List Int), [D.ints .u8 k] = [D.ints .u8 p] ∧ isBytes p ∧ p.length ≤ 1000000000000000) ∧ (True ∧ 32 ≠ 0) ∧ (Sk.arr 32 = Sk.arr 32 ∧ 32 ≠ 0 ∧ 32 = 32 ∧ false = false) ∧ ((0 : Int) ≤ 0 ∧ (0 : Int) ≤ (↑(32 : Nat) : Int) ∧ (↑(32 : Nat) : Int) ≤ (↑(32 : Nat) : Int) ∧ 32 = 32 ∧ 1 = 1) ∧ True ∧ (True ∧ 64 ≠ 0) ∧ (True ∧ 64 ≠ 0) ∧ ((0 : Int) ≤ 0 ∧ (0 : Int) ≤ (↑(64 : Nat) : Int) ∧ (↑(64 : Nat) : Int) ≤ (↑(64 : Nat) : Int) ∧ 64 = 64 ∧ 1 = 1) ∧ True ∧ (IntKind.u8 = IntKind.u8 ∧ 1 = 1) ∧ (64 ≠ 0 ∧ 64 = 64 ∧ true = true) ∧ (Sk.arr 64 = Sk.arr 64 ∧ 64 ≠ 0 ∧ 64 = 64 ∧ false = false) ∧ True ∧ (((AV.d (D.val (.int .i64 0)) = AV.d (D.val (.int .i64 (↑(Int.toNat (0 : Int)) : Int))) ∧ True) ∧ (sm (some (Blk.fix (D.st [D.st [D.arr .u32 8 [(0 : Int), (0 : Int), (0 : Int), (0 : Int), (0 : Int), (0 : Int), (0 : Int), (0 : Int)], D.val (.int .u64 0), D.arr .u8 64 (List.replicate 64 (0 : Int))], D.st [D.arr .u32 8 [(0 : Int), (0 : Int), (0 : Int), (0 : Int), (0 : Int), (0 : Int), (0 : Int), (0 : Int)], D.val (.int .u64 0), D.arr .u8 64 (List.replicate 64 (0 : Int))]]))) ∧ sm (some (Blk.fix (D.arr .u8 32 (digL k)))) ∧ some (Blk.fix (D.arr .u8 64 (List.take ((List.take ((↑(32 : Nat) : Int).toNat - 0) (List.drop 0 (digL k))).length.min ((↑(64 : Nat) : Int).toNat - 0)) (List.take ((↑(32 : Nat) : Int).toNat - 0) (List.drop 0 (digL k))) ++ List.drop (0 + (List.take ((↑(32 : Nat) : Int).toNat - 0) (List.drop 0 (digL k))).length.min ((↑(64 : Nat) : Int).toNat - 0)) (List.replicate 64 (0 : Int))))) = some (Blk.fix (D.arr .u8 64 (mixK k 54 (Int.toNat (0 : Int))))) ∧ some (Blk.fix (D.arr .u8 64 (List.take ((List.take ((↑(32 : Nat) : Int).toNat - 0) (List.drop 0 (digL k))).length.min ((↑(64 : Nat) : Int).toNat - 0)) (List.take ((↑(32 : Nat) : Int).toNat - 0) (List.drop 0 (digL k))) ++ List.drop (0 + (List.take ((↑(32 : Nat) : Int).toNat - 0) (List.drop 0 (digL k))).length.min ((↑(64 : Nat) : Int).toNat - 0)) (List.replicate 64 (0 : Int))))) = some (Blk.fix (D.arr .u8 64 (mixK k 92 (Int.toNat (0 : Int))))) ∧ True) ∧ true = true) ∧ Int.toNat (0 : Int) ≤ 64) ∧ ∀ (x : Nat), x ≤ 64 → true = true ∧ True ∧ match decide ((↑x : Int) < (64 : Int)) with
  | true => True ∧ True ∧ True ∧ ((0 : Int) ≤ (↑x : Int) ∧ (↑x : Int) < (↑(64 : Nat) : Int) ∧ 64 = 64 ∧ 1 = 1) ∧ (1 ≠ 0 ∧ 1 = 1 ∧ false = false) ∧ True ∧ ((0 : Int) ≤ (↑x : Int) ∧ (↑x : Int) < (↑(64 : Nat) : Int) ∧ 64 = 64 ∧ 1 = 1) ∧ (((↑x : Int).toNat < 64 ∧ ([] : List Nat) = [] ∧ true = true) ∧ 1 ≠ 0 ∧ 1 = 1 ∧ false = false) ∧ True ∧ ((0 : Int) ≤ (↑x : Int) ∧ (↑x : Int) < (↑(64 : Nat) : Int) ∧ 64 = 64 ∧ 1 = 1) ∧ (1 ≠ 0 ∧ 1 = 1 ∧ false = false) ∧ True ∧ ((0 : Int) ≤ (↑x : Int) ∧ (↑x : Int) < (↑(64 : Nat) : Int) ∧ 64 = 64 ∧ 1 = 1) ∧ (((↑x : Int).toNat < 64 ∧ ([] : List Nat) = [] ∧ true = true) ∧ 1 ≠ 0 ∧ 1 = 1 ∧ false = false) ∧ True ∧ True ∧ ((AV.d (D.val (.int .i64 (IntKind.i64.wrap ((↑x : Int) + (1 : Int))))) = AV.d (D.val (.int .i64 (↑(IntKind.i64.wrap ((↑x : Int) + (1 : Int))).toNat : Int))) ∧ True) ∧ (sm (some (Blk.fix (D.st [D.st [D.arr .u32 8 [(0 : Int), (0 : Int), (0 : Int), (0 : Int), (0 : Int), (0 : Int), (0 : Int), (0 : Int)], D.val (.int .u64 0), D.arr .u8 64 (List.replicate 64 (0 : Int))], D.st [D.arr .u32 8 [(0 : Int), (0 : Int), (0 : Int), (0 : Int), (0 : Int), (0 : Int), (0 : Int), (0 : Int)], D.val (.int .u64 0), D.arr .u8 64 (List.replicate 64 (0 : Int))]]))) ∧ sm (some (Blk.fix (D.arr .u8 32 (digL k)))) ∧ some (Blk.fix (D.arr .u8 64 ((mixK k 54 x).set (↑x : Int).toNat (ixor IntKind.u8 ((mixK k 54 x).getD (↑x : Int).toNat (0 : Int)) (54 : Int))))) = some (Blk.fix (D.arr .u8 64 (mixK k 54 (IntKind.i64.wrap ((↑x : Int) + (1 : Int))).toNat))) ∧ some (Blk.fix (D.arr .u8 64 ((mixK k 92 x).set (↑x : Int).toNat (ixor IntKind.u8 ((mixK k 92 x).getD (↑x : Int).toNat (0 : Int)) (92 : Int))))) = some (Blk.fix (D.arr .u8 64 (mixK k 92 (IntKind.i64.wrap ((↑x : Int) + (1 : Int))).toNat))) ∧ True) ∧ true = true) ∧ (IntKind.i64.wrap ((↑x : Int) + (1 : Int))).toNat ≤ 64 ∧ 64 - (IntKind.i64.wrap ((↑x : Int) + (1 : Int))).toNat < 64 - x
  | false => 0 = 0 ∧ ((0 : Int) ≤ 0 ∧ (0 : Int) ≤ (↑(64 : Nat) : Int) ∧ (↑(64 : Nat) : Int) ≤ (↑(64 : Nat) : Int) ∧ 64 = 64 ∧ 1 = 1) ∧ (∃ (s : HS), ∃ (p : List Int), [D.st [D.arr .u32 8 st0.h.l, D.val (.int .u64 (↑st0.n : Int)), D.arr .u8 64 st0.l], D.ints .u8 (List.take ((↑(64 : Nat) : Int).toNat - 0) (List.drop 0 (mixK k 54 x)))] = [D.st [D.arr .u32 8 s.h.l, D.val (.int .u64 (↑s.n : Int)), D.arr .u8 64 s.l], D.ints .u8 p] ∧ okS s ∧ isBytes p ∧ p.length ≤ 1000000000000000) ∧ 0 = 0 ∧ ((0 : Int) ≤ 0 ∧ (0 : Int) ≤ (↑(64 : Nat) : Int) ∧ (↑(64 : Nat) : Int) ≤ (↑(64 : Nat) : Int) ∧ 64 = 64 ∧ 1 = 1) ∧ (∃ (s : HS), ∃ (p : List Int), [D.st [D.arr .u32 8 st0.h.l, D.val (.int .u64 (↑st0.n : Int)), D.arr .u8 64 st0.l], D.ints .u8 (List.take ((↑(64 : Nat) : Int).toNat - 0) (List.drop 0 (mixK k 92 x)))] = [D.st [D.arr .u32 8 s.h.l, D.val (.int .u64 (↑s.n : Int)), D.arr .u8 64 s.l], D.ints .u8 p] ∧ okS s ∧ isBytes p ∧ p.length ≤ 1000000000000000) ∧ (false = false ∧ (0 < 2 ∧ Sk.st [Sk.arr 8, Sk.one, Sk.arr 64] = Sk.st [Sk.arr 8, Sk.one, Sk.arr 64]) ∧ false = false ∧ (1 < 2 ∧ Sk.st [Sk.arr 8, Sk.one, Sk.arr 64] = Sk.st [Sk.arr 8, Sk.one, Sk.arr 64]) ∧ True) ∧ (Sk.st [Sk.st [Sk.arr 8, Sk.one, Sk.arr 64], Sk.st [Sk.arr 8, Sk.one, Sk.arr 64]] = Sk.st [Sk.st [Sk.arr 8, Sk.one, Sk.arr 64], Sk.st [Sk.arr 8, Sk.one, Sk.arr 64]] ∧ 146 ≠ 0 ∧ 146 = 146 ∧ false = false) ∧ ((146 ≠ 0 ∧ 146 = 146 ∧ true = true) ∧ True) ∧ D.st [D.st [D.arr .u32 8 (wrS (ofS (D.st [D.arr .u32 8 st0.h.l, D.val (.int .u64 (↑st0.n : Int)), D.arr .u8 64 st0.l])) (List.take ((↑(64 : Nat) : Int).toNat - 0) (List.drop 0 (mixK k 54 x)))).h.l, D.val (.int .u64 (↑(wrS (ofS (D.st [D.arr .u32 8 st0.h.l, D.val (.int .u64 (↑st0.n : Int)), D.arr .u8 64 st0.l])) (List.take ((↑(64 : Nat) : Int).toNat - 0) (List.drop 0 (mixK k 54 x)))).n : Int)), D.arr .u8 64 (wrS (ofS (D.st [D.arr .u32 8 st0.h.l, D.val (.int .u64 (↑st0.n : Int)), D.arr .u8 64 st0.l])) (List.take ((↑(64 : Nat) : Int).toNat - 0) (List.drop 0 (mixK k 54 x)))).l], D.st [D.arr .u32 8 (wrS (ofS (D.st [D.arr .u32 8 st0.h.l, D.val (.int .u64 (↑st0.n : Int)), D.arr .u8 64 st0.l])) (List.take ((↑(64 : Nat) : Int).toNat - 0) (List.drop 0 (mixK k 92 x)))).h.l, D.val (.int .u64 (↑(wrS (ofS (D.st [D.arr .u32 8 st0.h.l, D.val (.int .u64 (↑st0.n : Int)), D.arr .u8 64 st0.l])) (List.take ((↑(64 : Nat) : Int).toNat - 0) (List.drop 0 (mixK k 92 x)))).n : Int)), D.arr .u8 64 (wrS (ofS (D.st [D.arr .u32 8 st0.h.l, D.val (.int .u64 (↑st0.n : Int)), D.arr .u8 64 st0.l])) (List.take ((↑(64 : Nat) : Int).toNat - 0) (List.drop 0 (mixK k 92 x)))).l]] = F
 | false => (True ∧ 64 ≠ 0) ∧ (True ∧ 64 ≠ 0) ∧ ((0 : Int) ≤ 0 ∧ (0 : Int) ≤ (↑(64 : Nat) : Int) ∧ (↑(64 : Nat) : Int) ≤ (↑(64 : Nat) : Int) ∧ 64 = 64 ∧ 1 = 1) ∧ True ∧ (IntKind.u8 = IntKind.u8 ∧ 1 = 1) ∧ (64 ≠ 0 ∧ 64 = 64 ∧ true = true) ∧ (Sk.arr 64 = Sk.arr 64 ∧ 64 ≠ 0 ∧ 64 = 64 ∧ false = false) ∧ True ∧ (((AV.d (D.val (.int .i64 0)) = AV.d (D.val (.int .i64 (↑(Int.toNat (0 : Int)) : Int))) ∧ True) ∧ (sm (some (Blk.fix (D.st [D.st [D.arr .u32 8 [(0 : Int), (0 : Int), (0 : Int), (0 : Int), (0 : Int), (0 : Int), (0 : Int), (0 : Int)], D.val (.int .u64 0), D.arr .u8 64 (List.replicate 64 (0 : Int))], D.st [D.arr .u32 8 [(0 : Int), (0 : Int), (0 : Int), (0 : Int), (0 : Int), (0 : Int), (0 : Int), (0 : Int)], D.val (.int .u64 0), D.arr .u8 64 (List.replicate 64 (0 : Int))]]))) ∧ some (Blk.fix (D.arr .u8 64 (List.take (k.length.min ((↑(64 : Nat) : Int).toNat - 0)) k ++ List.drop (0 + k.length.min ((↑(64 : Nat) : Int).toNat - 0)) (List.replicate 64 (0 : Int))))) = some (Blk.fix (D.arr .u8 64 (mixK k 54 (Int.toNat (0 : Int))))) ∧ some (Blk.fix (D.arr .u8 64 (List.take (k.length.min ((↑(64 : Nat) : Int).toNat - 0)) k ++ List.drop (0 + k.length.min ((↑(64 : Nat) : Int).toNat - 0)) (List.replicate 64 (0 : Int))))) = some (Blk.fix (D.arr .u8 64 (mixK k 92 (Int.toNat (0 : Int))))) ∧ True) ∧ true = true) ∧ Int.toNat (0 : Int) ≤ 64) ∧ ∀ (x : Nat), x ≤ 64 → true = true ∧ True ∧ match decide ((↑x : Int) < (64 : Int)) with
  | true => True ∧ True ∧ True ∧ ((0 : Int) ≤ (↑x : Int) ∧ (↑x : Int) < (↑(64 : Nat) : Int) ∧ 64 = 64 ∧ 1 = 1) ∧ (1 ≠ 0 ∧ 1 = 1 ∧ false = false) ∧ True ∧ ((0 : Int) ≤ (↑x : Int) ∧ (↑x : Int) < (↑(64 : Nat) : Int) ∧ 64 = 64 ∧ 1 = 1) ∧ (((↑x : Int).toNat < 64 ∧ ([] : List Nat) = [] ∧ true = true) ∧ 1 ≠ 0 ∧ 1 = 1 ∧ false = false) ∧ True ∧ ((0 : Int) ≤ (↑x : Int) ∧ (↑x : Int) < (↑(64 : Nat) : Int) ∧ 64 = 64 ∧ 1 = 1) ∧ (1 ≠ 0 ∧ 1 = 1 ∧ false = false) ∧ True ∧ ((0 : Int) ≤ (↑x : Int) ∧ (↑x : Int) < (↑(64 : Nat) : Int) ∧ 64 = 64 ∧ 1 = 1) ∧ (((↑x : Int).toNat < 64 ∧ ([] : List Nat) = [] ∧ true = true) ∧ 1 ≠ 0 ∧ 1 = 1 ∧ false = false) ∧ True ∧ True ∧ ((AV.d (D.val (.int .i64 (IntKind.i64.wrap ((↑x : Int) + (1 : Int))))) = AV.d (D.val (.int .i64 (↑(IntKind.i64.wrap ((↑x : Int) + (1 : Int))).toNat : Int))) ∧ True) ∧ (sm (some (Blk.fix (D.st [D.st [D.arr .u32 8 [(0 : Int), (0 : Int), (0 : Int), (0 : Int), (0 : Int), (0 : Int), (0 : Int), (0 : Int)], D.val (.int .u64 0), D.arr .u8 64 (List.replicate 64 (0 : Int))], D.st [D.arr .u32 8 [(0 : Int), (0 : Int), (0 : Int), (0 : Int), (0 : Int), (0 : Int), (0 : Int), (0 : Int)], D.val (.int .u64 0), D.arr .u8 64 (List.replicate 64 (0 : Int))]]))) ∧ some (Blk.fix (D.arr .u8 64 ((mixK k 54 x).set (↑x : Int).toNat (ixor IntKind.u8 ((mixK k 54 x).getD (↑x : Int).toNat (0 : Int)) (54 : Int))))) = some (Blk.fix (D.arr .u8 64 (mixK k 54 (IntKind.i64.wrap ((↑x : Int) + (1 : Int))).toNat))) ∧ some (Blk.fix (D.arr .u8 64 ((mixK k 92 x).set (↑x : Int).toNat (ixor IntKind.u8 ((mixK k 92 x).getD (↑x : Int).toNat (0 : Int)) (92 : Int))))) = some (Blk.fix (D.arr .u8 64 (mixK k 92 (IntKind.i64.wrap ((↑x : Int) + (1 : Int))).toNat))) ∧ True) ∧ true = true) ∧ (IntKind.i64.wrap ((↑x : Int) + (1 : Int))).toNat ≤ 64 ∧ 64 - (IntKind.i64.wrap ((↑x : Int) + (1 : Int))).toNat < 64 - x
  | false => 0 = 0 ∧ ((0 : Int) ≤ 0 ∧ (0 : Int) ≤ (↑(64 : Nat) : Int) ∧ (↑(64 : Nat) : Int) ≤ (↑(64 : Nat) : Int) ∧ 64 = 64 ∧ 1 = 1) ∧ (∃ (s : HS), ∃ (p : List Int), [D.st [D.arr .u32 8 st0.h.l, D.val (.int .u64 (↑st0.n : Int)), D.arr .u8 64 st0.l], D.ints .u8 (List.take ((↑(64 : Nat) : Int).toNat - 0) (List.drop 0 (mixK k 54 x)))] = [D.st [D.arr .u32 8 s.h.l, D.val (.int .u64 (↑s.n : Int)), D.arr .u8 64 s.l], D.ints .u8 p] ∧ okS s ∧ isBytes p ∧ p.length ≤ 1000000000000000) ∧ 0 = 0 ∧ ((0 : Int) ≤ 0 ∧ (0 : Int) ≤ (↑(64 : Nat) : Int) ∧ (↑(64 : Nat) : Int) ≤ (↑(64 : Nat) : Int) ∧ 64 = 64 ∧ 1 = 1) ∧ (∃ (s : HS), ∃ (p : List Int), [D.st [D.arr .u32 8 st0.h.l, D.val (.int .u64 (↑st0.n : Int)), D.arr .u8 64 st0.l], D.ints .u8 (List.take ((↑(64 : Nat) : Int).toNat - 0) (List.drop 0 (mixK k 92 x)))] = [D.st [D.arr .u32 8 s.h.l, D.val (.int .u64 (↑s.n : Int)), D.arr .u8 64 s.l], D.ints .u8 p] ∧ okS s ∧ isBytes p ∧ p.length ≤ 1000000000000000) ∧ (false = false ∧ (0 < 2 ∧ Sk.st [Sk.arr 8, Sk.one, Sk.arr 64] = Sk.st [Sk.arr 8, Sk.one, Sk.arr 64]) ∧ false = false ∧ (1 < 2 ∧ Sk.st [Sk.arr 8, Sk.one, Sk.arr 64] = Sk.st [Sk.arr 8, Sk.one, Sk.arr 64]) ∧ True) ∧ (Sk.st [Sk.st [Sk.arr 8, Sk.one, Sk.arr 64], Sk.st [Sk.arr 8, Sk.one, Sk.arr 64]] = Sk.st [Sk.st [Sk.arr 8, Sk.one, Sk.arr 64], Sk.st [Sk.arr 8, Sk.one, Sk.arr 64]] ∧ 146 ≠ 0 ∧ 146 = 146 ∧ false = false) ∧ ((146 ≠ 0 ∧ 146 = 146 ∧ true = true) ∧ True) ∧ D.st [D.st [D.arr .u32 8 (wrS (ofS (D.st [D.arr .u32 8 st0.h.l, D.val (.int .u64 (↑st0.n : Int)), D.arr .u8 64 st0.l])) (List.take ((↑(64 : Nat) : Int).toNat - 0) (List.drop 0 (mixK k 54 x)))).h.l, D.val (.int .u64 (↑(wrS (ofS (D.st [D.arr .u32 8 st0.h.l, D.val (.int .u64 (↑st0.n : Int)), D.arr .u8 64 st0.l])) (List.take ((↑(64 : Nat) : Int).toNat - 0) (List.drop 0 (mixK k 54 x)))).n : Int)), D.arr .u8 64 (wrS (ofS (D.st [D.arr .u32 8 st0.h.l, D.val (.int .u64 (↑st0.n : Int)), D.arr .u8 64 st0.l])) (List.take ((↑(64 : Nat) : Int).toNat - 0) (List.drop 0 (mixK k 54 x)))).l], D.st [D.arr .u32 8 (wrS (ofS (D.st [D.arr .u32 8 st0.h.l, D.val (.int .u64 (↑st0.n : Int)), D.arr .u8 64 st0.l])) (List.take ((↑(64 : Nat) : Int).toNat - 0) (List.drop 0 (mixK k 92 x)))).h.l, D.val (.int .u64 (↑(wrS (ofS (D.st [D.arr .u32 8 st0.h.l, D.val (.int .u64 (↑st0.n : Int)), D.arr .u8 64 st0.l])) (List.take ((↑(64 : Nat) : Int).toNat - 0) (List.drop 0 (mixK k 92 x)))).n : Int)), D.arr .u8 64 (wrS (ofS (D.st [D.arr .u32 8 st0.h.l, D.val (.int .u64 (↑st0.n : Int)), D.arr .u8 64 st0.l])) (List.take ((↑(64 : Nat) : Int).toNat - 0) (List.drop 0 (mixK k 92 x)))).l]] = F) := by kernel_rfl
set_option maxRecDepth 100000 in
theorem vc83  (s : MS) (p : List Int) (F : D)  :
    (owed c83 (fun _ => none) Tryd.f83 [stM s, .ints .u8 p] F) = (
 (True ∧ false = false) ∧ (True ∧ 146 ≠ 0) ∧ (Sk.st [Sk.st [Sk.arr 8, Sk.one, Sk.arr 64], Sk.st [Sk.arr 8, Sk.one, Sk.arr 64]] = Sk.st [Sk.st [Sk.arr 8, Sk.one, Sk.arr 64], Sk.st [Sk.arr 8, Sk.one, Sk.arr 64]] ∧ 0 < 2) ∧ (73 ≠ 0 ∧ 73 = 73 ∧ true = true) ∧ True ∧ (∃ (s_1 : HS), ∃ (p_1 : List Int), [D.st [D.arr .u32 8 s.i.h.l, D.val (.int .u64 (↑s.i.n : Int)), D.arr .u8 64 s.i.l], D.ints .u8 p] = [D.st [D.arr .u32 8 s_1.h.l, D.val (.int .u64 (↑s_1.n : Int)), D.arr .u8 64 s_1.l], D.ints .u8 p_1] ∧ okS s_1 ∧ isBytes p_1 ∧ p_1.length ≤ 1000000000000000) ∧ (Sk.st [Sk.st [Sk.arr 8, Sk.one, Sk.arr 64], Sk.st [Sk.arr 8, Sk.one, Sk.arr 64]] = Sk.st [Sk.st [Sk.arr 8, Sk.one, Sk.arr 64], Sk.st [Sk.arr 8, Sk.one, Sk.arr 64]] ∧ 0 < 2) ∧ ((0 < 2 ∧ Sk.st [Sk.arr 8, Sk.one, Sk.arr 64] = Sk.st [Sk.arr 8, Sk.one, Sk.arr 64]) ∧ 73 ≠ 0 ∧ 73 = 73 ∧ false = false) ∧ (146 ≠ 0 ∧ 146 = 146 ∧ true = true) ∧ (Sk.st [Sk.st [Sk.arr 8, Sk.one, Sk.arr 64], Sk.st [Sk.arr 8, Sk.one, Sk.arr 64]] = Sk.st [Sk.st [Sk.arr 8, Sk.one, Sk.arr 64], Sk.st [Sk.arr 8, Sk.one, Sk.arr 64]] ∧ 146 ≠ 0 ∧ 146 = 146 ∧ false = false) ∧ ((146 ≠ 0 ∧ 146 = 146 ∧ true = true) ∧ True) ∧ D.st [D.st [D.arr .u32 8 (wrS (ofS (D.st [D.arr .u32 8 s.i.h.l, D.val (.int .u64 (↑s.i.n : Int)), D.arr .u8 64 s.i.l])) p).h.l, D.val (.int .u64 (↑(wrS (ofS (D.st [D.arr .u32 8 s.i.h.l, D.val (.int .u64 (↑s.i.n : Int)), D.arr .u8 64 s.i.l])) p).n : Int)), D.arr .u8 64 (wrS (ofS (D.st [D.arr .u32 8 s.i.h.l, D.val (.int .u64 (↑s.i.n : Int)), D.arr .u8 64 s.i.l])) p).l], D.st [D.arr .u32 8 s.o.h.l, D.val (.int .u64 (↑s.o.n : Int)), D.arr .u8 64 s.o.l]] = F) := by kernel_rfl
set_option maxRecDepth 100000 in
theorem vc84  (s : MS) (F : D)  :
    (owed c84 (fun _ => none) Tryd.f84 [stM s] F) = (
 (True ∧ false = false) ∧ (True ∧ 32 ≠ 0) ∧ (Sk.st [Sk.st [Sk.arr 8, Sk.one, Sk.arr 64], Sk.st [Sk.arr 8, Sk.one, Sk.arr 64]] = Sk.st [Sk.st [Sk.arr 8, Sk.one, Sk.arr 64], Sk.st [Sk.arr 8, Sk.one, Sk.arr 64]] ∧ 0 < 2) ∧ (73 ≠ 0 ∧ 73 = 73 ∧ true = true) ∧ (∃ (s_1 : HS), [D.st [D.arr .u32 8 s.i.h.l, D.val (.int .u64 (↑s.i.n : Int)), D.arr .u8 64 s.i.l]] = [D.st [D.arr .u32 8 s_1.h.l, D.val (.int .u64 (↑s_1.n : Int)), D.arr .u8 64 s_1.l]] ∧ okS s_1) ∧ (True ∧ 32 ≠ 0) ∧ (Sk.arr 32 = Sk.arr 32 ∧ 32 ≠ 0 ∧ 32 = 32 ∧ false = false) ∧ (Sk.st [Sk.st [Sk.arr 8, Sk.one, Sk.arr 64], Sk.st [Sk.arr 8, Sk.one, Sk.arr 64]] = Sk.st [Sk.st [Sk.arr 8, Sk.one, Sk.arr 64], Sk.st [Sk.arr 8, Sk.one, Sk.arr 64]] ∧ 1 < 2) ∧ (73 ≠ 0 ∧ 73 = 73 ∧ true = true) ∧ ((0 : Int) ≤ 0 ∧ (0 : Int) ≤ (↑(32 : Nat) : Int) ∧ (↑(32 : Nat) : Int) ≤ (↑(32 : Nat) : Int) ∧ 32 = 32 ∧ 1 = 1) ∧ (∃ (s_1 : HS), ∃ (p : List Int), [D.st [D.arr .u32 8 s.o.h.l, D.val (.int .u64 (↑s.o.n : Int)), D.arr .u8 64 s.o.l], D.ints .u8 (List.take ((↑(32 : Nat) : Int).toNat - 0) (List.drop 0 (sumL (ofS (D.st [D.arr .u32 8 s.i.h.l, D.val (.int .u64 (↑s.i.n : Int)), D.arr .u8 64 s.i.l])))))] = [D.st [D.arr .u32 8 s_1.h.l, D.val (.int .u64 (↑s_1.n : Int)), D.arr .u8 64 s_1.l], D.ints .u8 p] ∧ okS s_1 ∧ isBytes p ∧ p.length ≤ 1000000000000000) ∧ (∃ (s_1 : HS), [D.st [D.arr .u32 8 (wrS (ofS (D.st [D.arr .u32 8 s.o.h.l, D.val (.int .u64 (↑s.o.n : Int)), D.arr .u8 64 s.o.l])) (List.take ((↑(32 : Nat) : Int).toNat - 0) (List.drop 0 (sumL (ofS (D.st [D.arr .u32 8 s.i.h.l, D.val (.int .u64 (↑s.i.n : Int)), D.arr .u8 64 s.i.l])))))).h.l, D.val (Value.int IntKind.u64 (↑(wrS (ofS (D.st [D.arr .u32 8 s.o.h.l, D.val (.int .u64 (↑s.o.n : Int)), D.arr .u8 64 s.o.l])) (List.take ((↑(32 : Nat) : Int).toNat - 0) (List.drop 0 (sumL (ofS (D.st [D.arr .u32 8 s.i.h.l, D.val (.int .u64 (↑s.i.n : Int)), D.arr .u8 64 s.i.l])))))).n : Int)), D.arr .u8 64 (wrS (ofS (D.st [D.arr .u32 8 s.o.h.l, D.val (.int .u64 (↑s.o.n : Int)), D.arr .u8 64 s.o.l])) (List.take ((↑(32 : Nat) : Int).toNat - 0) (List.drop 0 (sumL (ofS (D.st [D.arr .u32 8 s.i.h.l, D.val (.int .u64 (↑s.i.n : Int)), D.arr .u8 64 s.i.l])))))).l]] = [D.st [D.arr .u32 8 s_1.h.l, D.val (.int .u64 (↑s_1.n : Int)), D.arr .u8 64 s_1.l]] ∧ okS s_1) ∧ (Sk.arr 32 = Sk.arr 32 ∧ 32 ≠ 0 ∧ 32 = 32 ∧ false = false) ∧ ((32 ≠ 0 ∧ 32 = 32 ∧ true = true) ∧ True) ∧ D.arr .u8 32 (sumL (ofS (D.st [D.arr .u32 8 (wrS (ofS (D.st [D.arr .u32 8 s.o.h.l, D.val (.int .u64 (↑s.o.n : Int)), D.arr .u8 64 s.o.l])) (List.take ((↑(32 : Nat) : Int).toNat - 0) (List.drop 0 (sumL (ofS (D.st [D.arr .u32 8 s.i.h.l, D.val (.int .u64 (↑s.i.n : Int)), D.arr .u8 64 s.i.l])))))).h.l, D.val (Value.int IntKind.u64 (↑(wrS (ofS (D.st [D.arr .u32 8 s.o.h.l, D.val (.int .u64 (↑s.o.n : Int)), D.arr .u8 64 s.o.l])) (List.take ((↑(32 : Nat) : Int).toNat - 0) (List.drop 0 (sumL (ofS (D.st [D.arr .u32 8 s.i.h.l, D.val (.int .u64 (↑s.i.n : Int)), D.arr .u8 64 s.i.l])))))).n : Int)), D.arr .u8 64 (wrS (ofS (D.st [D.arr .u32 8 s.o.h.l, D.val (.int .u64 (↑s.o.n : Int)), D.arr .u8 64 s.o.l]))
 (List.take ((↑(32 : Nat) : Int).toNat - 0) (List.drop 0 (sumL (ofS (D.st [D.arr .u32 8 s.i.h.l, D.val (.int .u64 (↑s.i.n : Int)), D.arr .u8 64 s.i.l])))))).l]))) = F) := by kernel_rfl
set_option maxRecDepth 100000 in
theorem vc79  (k p : List Int) (F : D)  :
    (owed c79 (inv79 k) Tryd.f79 [.str k, .str p] F) = (
 (True ∧ 32 ≠ 0) ∧ True ∧ True ∧ True ∧ match decide ((↑k.length : Int) > (64 : Int)) with
 | true => True ∧ (∃ (p : List Int), [D.str k] = [D.str p] ∧ isBytes p ∧ p.length ≤ 1000000000000000) ∧ (True ∧ 32 ≠ 0) ∧ (Sk.arr 32 = Sk.arr 32 ∧ 32 ≠ 0 ∧ 32 = 32 ∧ false = false) ∧ ((0 : Int) ≤ 0 ∧ (0 : Int) ≤ (↑(32 : Nat) : Int) ∧ (↑(32 : Nat) : Int) ≤ (↑(32 : Nat) : Int) ∧ 32 = 32 ∧ 1 = 1) ∧ isBytes (List.take ((↑(32 : Nat) : Int).toNat - 0) (List.drop 0 (digL k))) ∧ True ∧ True ∧ True ∧ True ∧ (((AV.d (D.val (.int .i64 0)) = AV.d (D.val (.int .i64 (↑(Int.toNat (0 : Int)) : Int))) ∧ AV.d (D.str (ints { data := { toList := [] } })) = AV.d (D.str (List.take (Int.toNat (0 : Int)) (xK k 54))) ∧ AV.d (D.str (ints { data := { toList := [] } })) = AV.d (D.str (List.take (Int.toNat (0 : Int)) (xK k 92))) ∧ True) ∧ (sm (some (Blk.fix (D.arr .u8 32 [(0 : Int), (0 : Int), (0 : Int), (0 : Int), (0 : Int), (0 : Int), (0 : Int), (0 : Int), (0 : Int), (0 : Int), (0 : Int), (0 : Int), (0 : Int), (0 : Int), (0 : Int), (0 : Int), (0 : Int), (0 : Int), (0 : Int), (0 : Int), (0 : Int), (0 : Int), (0 : Int), (0 : Int), (0 : Int), (0 : Int), (0 : Int), (0 : Int), (0 : Int), (0 : Int), (0 : Int), (0 : Int)]))) ∧ sm (some (Blk.fix (D.arr .u8 32 (digL k)))) ∧ True) ∧ true = true) ∧ Int.toNat (0 : Int) ≤ 64) ∧ ∀ (x : Nat), x ≤ 64 → true = true ∧ True ∧ match decide ((↑x : Int) < (64 : Int)) with
  | true => True ∧ True ∧ True ∧ True ∧ True ∧ True ∧ True ∧ match decide ((↑x : Int) < (↑(List.take ((↑(32 : Nat) : Int).toNat - 0) (List.drop 0 (digL k))).length : Int)) with
   | true => True ∧ True ∧ ((0 : Int) ≤ (↑x : Int) ∧ (↑x : Int) < (↑(List.take ((↑(32 : Nat) : Int).toNat - 0) (List.drop 0 (digL k))).length : Int)) ∧ True ∧ True ∧ True ∧ True ∧ (1 = 1 ∧ 1 ≤ 4096) ∧ isBytes [ixor IntKind.u8 ((List.take ((↑(32 : Nat) : Int).toNat - 0) (List.drop 0 (digL k))).getD (↑x : Int).toNat (0 : Int)) (54 : Int)] ∧ (↑((List.take x (xK k 54)).length + 1) : Int) ≤ (9223372036854775807 : Int) ∧ True ∧ True ∧ True ∧ True ∧ (1 = 1 ∧ 1 ≤ 4096) ∧ isBytes [ixor IntKind.u8 ((List.take ((↑(32 : Nat) : Int).toNat - 0) (List.drop 0 (digL k))).getD (↑x : Int).toNat (0 : Int)) (92 : Int)] ∧ (↑((List.take x (xK k 92)).length + 1) : Int) ≤ (9223372036854775807 : Int) ∧ True ∧ True ∧ True ∧ ((AV.d (D.val (.int .i64 (IntKind.i64.wrap ((↑x : Int) + (1 : Int))))) = AV.d (D.val (.int .i64 (↑(IntKind.i64.wrap ((↑x : Int) + (1 : Int))).toNat : Int))) ∧ AV.d (D.str (List.take x (xK k 54) ++ [ixor IntKind.u8 ((List.take ((↑(32 : Nat) : Int).toNat - 0) (List.drop 0 (digL k))).getD (↑x : Int).toNat (0 : Int)) (54 : Int)])) = AV.d (D.str (List.take (IntKind.i64.wrap ((↑x : Int) + (1 : Int))).toNat (xK k 54))) ∧ AV.d (D.str (List.take x (xK k 92) ++ [ixor IntKind.u8 ((List.take ((↑(32 : Nat) : Int).toNat - 0) (List.drop 0 (digL k))).getD (↑x : Int).toNat (0 : Int)) (92 : Int)])) = AV.d (D.str (List.take (IntKind.i64.wrap ((↑x : Int) + (1 : Int))).toNat (xK k 92))) ∧ True) ∧ (sm (some (Blk.fix (D.arr .u8 32 [(0 : Int), (0 : Int), (0 : Int), (0 : Int), (0 : Int), (0 : Int), (0 : Int), (0 : Int), (0 : Int), (0 : Int), (0 : Int), (0 : Int), (0 : Int), (0 : Int), (0 : Int), (0 : Int), (0 : Int), (0 : Int), (0 : Int), (0 : Int), (0 : Int), (0 : Int), (0 : Int), (0 : Int), (0 : Int), (0 : Int), (0 : Int), (0 : Int), (0 : Int), (0 : Int), (0 : Int), (0 : Int)]))) ∧ sm (some (Blk.fix (D.arr .u8 32 (digL k)))) ∧ True) ∧ true = true) ∧ (IntKind.i64.wrap ((↑x : Int) + (1 : Int))).toNat ≤ 64 ∧ 64 - (IntKind.i64.wrap ((↑x : Int) + (1 : Int))).toNat < 64 - x
   | false => True ∧ True ∧ True ∧ (1 = 1 ∧ 1 ≤ 4096) ∧ isBytes [ixor IntKind.u8 (0 : Int) (54 : Int)] ∧ (↑((List.take x (xK k 54)).length + 1) : Int) ≤ (9223372036854775807 : Int) ∧ True ∧ True ∧ True ∧ True ∧ (1 = 1 ∧ 1 ≤ 4096) ∧ isBytes [ixor IntKind.u8 (0 : Int) (92 : Int)] ∧ (↑((List.take x (xK k 92)).length + 1) : Int) ≤ (9223372036854775807 : Int) ∧ True ∧ True ∧ True ∧ ((AV.d (D.val (.int .i64 (IntKind.i64.wrap ((↑x : Int) + (1 : Int))))) = AV.d (D.val (.int .i64 (↑(IntKind.i64.wrap ((↑x : Int) + (1 : Int))).toNat : Int))) ∧ AV.d (D.str (List.take x (xK k 54) ++ [ixor IntKind.u8 (0 : Int) (54 : Int)])) = AV.d (D.str (List.take (IntKind.i64.wrap ((↑x : Int) + (1 : Int))).toNat (xK k 54))) ∧ AV.d (D.str (List.take x (xK k 92) ++ [ixor IntKind.u8 (0 : Int) (92 : Int)])) = AV.d (D.str (List.take (IntKind.i64.wrap ((↑x : Int) + (1 : Int))).toNat (xK k 92))) ∧ True) ∧ (sm (some (Blk.fix (D.arr .u8 32 [(0 : Int), (0 : Int), (0 : Int), (0 : Int), (0 : Int), (0 : Int), (0 : Int), (0 : Int), (0 : Int), (0 : Int), (0 : Int), (0 : Int), (0 : Int), (0 : Int), (0 : Int), (0 : Int), (0 : Int), (0 : Int), (0 : Int), (0 : Int), (0 : Int), (0 : Int), (0 : Int), (0 : Int), (0 : Int), (0 : Int), (0 : Int), (0 : Int), (0 : Int), (0 : Int), (0 : Int), (0 : Int)]))) ∧ sm (some (Blk.fix (D.arr .u8 32 (digL k)))) ∧ True) ∧ true = true) ∧ (IntKind.i64.wrap ((↑x : Int) + (1 : Int))).toNat ≤ 64 ∧ 64 - (IntKind.i64.wrap ((↑x : Int) + (1 : Int))).toNat < 64 - x
  | false => True ∧ True ∧ (↑((List.take x (xK k 54)).length + p.length) : Int) ≤ (9223372036854775807 : Int) ∧ (∃ (p_1 : List Int), [D.str (List.take x (xK k 54) ++ p)] = [D.str p_1] ∧ isBytes p_1 ∧ p_1.length ≤ 1000000000000000) ∧ (True ∧ 32 ≠ 0) ∧ (Sk.arr 32 = Sk.arr 32 ∧ 32 ≠ 0 ∧ 32 = 32 ∧ false = false) ∧ True ∧ ((0 : Int) ≤ 0 ∧ (0 : Int) ≤ (↑(32 : Nat) : Int) ∧ (↑(32 : Nat) : Int) ≤ (↑(32 : Nat) : Int) ∧ 32 = 32 ∧ 1 = 1) ∧ isBytes (List.take ((↑(32 : Nat) : Int).toNat - 0) (List.drop 0 (digL (List.take x (xK k 54) ++ p)))) ∧ (↑((List.take x (xK k 92)).length + (List.take ((↑(32 : Nat) : Int).toNat - 0) (List.drop 0 (digL (List.take x (xK k 54) ++ p)))).length) : Int) ≤ (9223372036854775807 : Int) ∧ (∃ (p_1 : List Int), [D.str (List.take x (xK k 92) ++ List.take ((↑(32 : Nat) : Int).toNat - 0) (List.drop 0 (digL (List.take x (xK k 54) ++ p))))] = [D.str p_1] ∧ isBytes p_1 ∧ p_1.length ≤ 1000000000000000) ∧ (Sk.arr 32 = Sk.arr 32 ∧ 32 ≠ 0 ∧ 32 = 32 ∧ false = false) ∧ ((32 ≠ 0 ∧ 32 = 32 ∧ true = true) ∧ True) ∧ D.arr .u8 32 (digL (List.take x (xK k 92) ++ List.take ((↑(32 : Nat) : Int).toNat - 0) (List.drop 0 (digL (List.take x (xK k 54) ++ p))))) = F
 | false => True ∧ True ∧ True ∧ (((AV.d (D.val (.int .i64 0)) = AV.d (D.val (.int .i64 (↑(Int.toNat (0 : Int)) : Int))) ∧ AV.d (D.str (ints { data := { toList := [] } })) = AV.d (D.str (List.take (Int.toNat (0 : Int)) (xK k 54))) ∧ AV.d (D.str (ints { data := { toList := [] } })) = AV.d (D.str (List.take (Int.toNat (0 : Int)) (xK k 92))) ∧ True) ∧ (sm (some (Blk.fix (D.arr .u8 32 [(0 : Int), (0 : Int), (0 : Int), (0 : Int), (0 : Int), (0 : Int), (0 : Int), (0 : Int), (0 : Int), (0 : Int), (0 : Int), (0 : Int), (0 : Int), (0 : Int), (0 : Int), (0 : Int), (0 : Int), (0 : Int), (0 : Int), (0 : Int), (0 : Int), (0 : Int), (0 : Int), (0 : Int), (0 : Int), (0 : Int), (0 : Int), (0 : Int), (0 : Int), (0 : Int), (0 : Int), (0 : Int)]))) ∧ True) ∧ true = true) ∧ Int.toNat (0 : Int) ≤ 64) ∧ ∀ (x : Nat), x ≤ 64 → true = true ∧ True ∧ match decide ((↑x : Int) < (64 : Int)) with
  | true => True ∧ True ∧ True ∧ True ∧ True ∧ True ∧ True ∧ match decide ((↑x : Int) < (↑k.length : Int)) with
   | true => True ∧ True ∧ ((0 : Int) ≤ (↑x : Int) ∧ (↑x : Int) < (↑k.length : Int)) ∧ True ∧ True ∧ True ∧ True ∧ (1 = 1 ∧ 1 ≤ 4096) ∧ isBytes [ixor IntKind.u8 (k.getD (↑x : Int).toNat (0 : Int)) (54 : Int)] ∧ (↑((List.take x (xK k 54)).length + 1) : Int) ≤ (9223372036854775807 : Int) ∧ True ∧ True ∧ True ∧ True ∧ (1 = 1 ∧ 1 ≤ 4096) ∧ isBytes [ixor IntKind.u8 (k.getD (↑x : Int).toNat (0 : Int)) (92 : Int)] ∧ (↑((List.take x (xK k 92)).length + 1) : Int) ≤ (9223372036854775807 : Int) ∧ True ∧ True ∧ True ∧ ((AV.d (D.val (.int .i64 (IntKind.i64.wrap ((↑x : Int) + (1 : Int))))) = AV.d (D.val (.int .i64 (↑(IntKind.i64.wrap ((↑x : Int) + (1 : Int))).toNat : Int))) ∧ AV.d (D.str (List.take x (xK k 54) ++ [ixor IntKind.u8 (k.getD (↑x : Int).toNat (0 : Int)) (54 : Int)])) = AV.d (D.str (List.take (IntKind.i64.wrap ((↑x : Int) + (1 : Int))).toNat (xK k 54))) ∧ AV.d (D.str (List.take x (xK k 92) ++ [ixor IntKind.u8 (k.getD (↑x : Int).toNat (0 : Int)) (92 : Int)])) = AV.d (D.str (List.take (IntKind.i64.wrap ((↑x : Int) + (1 : Int))).toNat (xK k 92))) ∧ True) ∧ (sm (some (Blk.fix (D.arr .u8 32 [(0 : Int), (0 : Int), (0 : Int), (0 : Int), (0 : Int), (0 : Int), (0 : Int), (0 : Int), (0 : Int), (0 : Int), (0 : Int), (0 : Int), (0 : Int), (0 : Int), (0 : Int), (0 : Int), (0 : Int), (0 : Int), (0 : Int), (0 : Int), (0 : Int), (0 : Int), (0 : Int), (0 : Int), (0 : Int), (0 : Int), (0 : Int), (0 : Int), (0 : Int), (0 : Int), (0 : Int), (0 : Int)]))) ∧ True) ∧ true = true) ∧ (IntKind.i64.wrap ((↑x : Int) + (1 : Int))).toNat ≤ 64 ∧ 64 - (IntKind.i64.wrap ((↑x : Int) + (1 : Int))).toNat < 64 - x
   | false => True ∧ True ∧ True ∧ (1 = 1 ∧ 1 ≤ 4096) ∧ isBytes [ixor IntKind.u8 (0 : Int) (54 : Int)] ∧ (↑((List.take x (xK k 54)).length + 1) : Int) ≤ (9223372036854775807 : Int) ∧ True ∧ True ∧ True ∧ True ∧ (1 = 1 ∧ 1 ≤ 4096) ∧ isBytes [ixor IntKind.u8 (0 : Int) (92 : Int)] ∧ (↑((List.take x (xK k 92)).length + 1) : Int) ≤ (9223372036854775807 : Int) ∧ True ∧ True ∧ True ∧ ((AV.d (D.val (.int .i64 (IntKind.i64.wrap ((↑x : Int) + (1 : Int))))) = AV.d (D.val (.int .i64 (↑(IntKind.i64.wrap ((↑x : Int) + (1 : Int))).toNat : Int))) ∧ AV.d (D.str (List.take x (xK k 54) ++ [ixor IntKind.u8 (0 : Int) (54 : Int)])) = AV.d (D.str (List.take (IntKind.i64.wrap ((↑x : Int) + (1 : Int))).toNat (xK k 54))) ∧ AV.d (D.str (List.take x (xK k 92) ++ [ixor IntKind.u8 (0 : Int) (92 : Int)])) = AV.d (D.str (List.take (IntKind.i64.wrap ((↑x : Int) + (1 : Int))).toNat (xK k 92))) ∧ True) ∧ (sm (some (Blk.fix (D.arr .u8 32 [(0 : Int), (0 : Int), (0 : Int), (0 : Int), (0 : Int), (0 : Int), (0 : Int), (0 : Int), (0 : Int), (0 : Int), (0 : Int), (0 : Int), (0 : Int), (0 : Int), (0 : Int), (0 : Int), (0 : Int), (0 : Int), (0 : Int), (0 : Int), (0 : Int), (0 : Int), (0 : Int), (0 : Int), (0 : Int), (0 : Int), (0 : Int), (0 : Int), (0 : Int), (0 : Int), (0 : Int), (0 : Int)]))) ∧ True) ∧ true = true) ∧ (IntKind.i64.wrap ((↑x : Int) + (1 : Int))).toNat ≤ 64 ∧ 64 - (IntKind.i64.wrap ((↑x : Int) + (1 : Int))).toNat < 64 - x
  | false => True ∧ True ∧ (↑((List.take x (xK k 54)).length + p.length) : Int) ≤ (9223372036854775807 : Int) ∧ (∃ (p_1 : List Int), [D.str (List.take x (xK k 54) ++ p)] = [D.str p_1] ∧ isBytes p_1 ∧ p_1.length ≤ 1000000000000000) ∧ (True ∧ 32 ≠ 0) ∧ (Sk.arr 32 = Sk.arr 32 ∧ 32 ≠ 0 ∧ 32 = 32 ∧ false = false) ∧ True ∧ ((0 : Int) ≤ 0 ∧ (0 : Int) ≤ (↑(32 : Nat) : Int) ∧ (↑(32 : Nat) : Int) ≤ (↑(32 : Nat) : Int) ∧ 32 = 32 ∧ 1 = 1) ∧ isBytes (List.take ((↑(32 : Nat) : Int).toNat - 0) (List.drop 0 (digL (List.take x (xK k 54) ++ p)))) ∧ (↑((List.take x (xK k 92)).length + (List.take ((↑(32 : Nat) : Int).toNat - 0) (List.drop 0 (digL (List.take x (xK k 54) ++ p)))).length) : Int) ≤ (9223372036854775807 : Int) ∧ (∃ (p_1 : List Int), [D.str (List.take x (xK k 92) ++ List.take ((↑(32 : Nat) : Int).toNat - 0) (List.drop 0 (digL (List.take x (xK k 54) ++ p))))] = [D.str p_1] ∧ isBytes p_1 ∧ p_1.length ≤ 1000000000000000) ∧ (Sk.arr 32 = Sk.arr 32 ∧ 32 ≠ 0 ∧ 32 = 32 ∧ false = false) ∧ ((32 ≠ 0 ∧ 32 = 32 ∧ true = true) ∧ True) ∧ D.arr .u8 32 (digL (List.take x (xK k 92) ++ List.take ((↑(32 : Nat) : Int).toNat - 0) (List.drop 0 (digL (List.take x (xK k 54) ++ p))))) = F) := by kernel_rfl
end Go.Proofs.YtkicjckhkefnpaaDoor
namespace Go.Proofs.YtkicjckhkefnpaaDoor
open Go Go.Vg
theorem ofM_eq (s : MS) : ofM (stM s) = s := by
 show MS.mk (ofS (stD s.i)) (ofS (stD s.o)) = s
 rw [ofS_eq, ofS_eq]
theorem ofM' (s : MS) : ofM (D.st [D.st [D.arr .u32 8 s.i.h.l, D.val (.int .u64 (s.i.n : Int)), D.arr .u8 64 s.i.l], D.st [D.arr .u32 8 s.o.h.l, D.val (.int .u64 (s.o.n : Int)), D.arr .u8 64 s.o.l]]) = s := ofM_eq s
theorem keyL_ok {k : List Int} (h : isB k) : isBytes (keyL k) ∧ (keyL k).length ≤ 64 := by
 unfold keyL
 split
 ·exact ⟨digL_bytes k, by rw [digL_len]; omega⟩
 ·exact ⟨h.1, by omega⟩
theorem padK_len {k : List Int} (h : isB k) : (padK k).length = 64 := by
 have := (keyL_ok h).2
 unfold padK
 rw [List.length_append, List.length_replicate]
 omega
theorem padK_bytes {k : List Int} (h : isB k) : isBytes (padK k) := by
 refine bytes_app (keyL_ok h).1 fun x hx => ?_
 have := List.eq_of_mem_replicate hx
 omega
theorem xK_len {k : List Int} (h : isB k) (c : Nat) : (xK k c).length = 64 := by unfold xK; rw [List.length_map, padK_len h]
theorem xK_bytes {k : List Int} (h : isB k) {c : Nat} (hc : c < 256) : isBytes (xK k c) := by
 intro x hx
 unfold xK at hx
 obtain ⟨z, hz, rfl⟩ := List.mem_map.1 hx
 have := padK_bytes h z hz
 have h2 : z.toNat ^^^ c < 2 ^ 8 := Nat.xor_lt_two_pow (by omega) hc
 omega
theorem xK_get {k : List Int} (h : isB k) {c i : Nat} (hc : c < 256) (hi : i < 64) : ixor .u8 ((padK k).getD i 0) (c : Int) = (xK k c).getD i 0 := by
 obtain ⟨n, e, hn⟩ := byte_at (padK_bytes h) (i := i) (by rw [padK_len h]; exact hi)
 unfold xK
 rw [List.getD_eq_getElem?_getD, List.getD_eq_getElem?_getD, List.getElem?_map] at *
 have hi2 : i < (padK k).length := by rw [padK_len h]; exact hi
 have hs : (padK k)[i]? = some (padK k)[i] := List.getElem?_eq_getElem hi2
 rw [hs] at e ⊢
 simp only [Option.getD_some, Option.map_some] at e ⊢
 rw [e, Int.toNat_natCast, ixorN .u8 (show n < 256 from hn) (show c < 256 from hc)]
theorem mix_get {L P : List Int} {x : Nat} (hL : L.length = P.length) (h : x < P.length) : (L.take x ++ P.drop x).getD x 0 = P.getD x 0 := by
 rw [List.getD_eq_getElem?_getD, List.getElem?_append_right (by rw [List.length_take]; omega), List.length_take, List.getElem?_drop, List.getD_eq_getElem?_getD]
 congr 2
 omega
theorem mix_set {L P : List Int} {x : Nat} (hL : L.length = P.length) (h : x < P.length) : (L.take x ++ P.drop x).set x (L.getD x 0) = L.take (x + 1) ++ P.drop (x + 1) := by
 have e : (L.take x).length = x := by rw [List.length_take]; omega
 rw [List.set_append_right _ _ (by omega), e, Nat.sub_self, List.drop_eq_getElem_cons h, List.set_cons_zero, take_snoc (by omega), List.append_assoc]
 rfl
theorem mixK_set {k : List Int} (h : isB k) {c x : Nat} (hc : c < 256) (hx : x < 64) : (mixK k c x).set x (ixor .u8 ((mixK k c x).getD x 0) (c : Int)) = mixK k c (x + 1) := by
 have hl : (xK k c).length = (padK k).length := by rw [xK_len h, padK_len h]
 unfold mixK
 rw [mix_get hl (by rw [padK_len h]; exact hx), xK_get h hc hx, mix_set hl (by rw [padK_len h]; exact hx)]
theorem mixK_end {k : List Int} (h : isB k) (c : Nat) : mixK k c 64 = xK k c := by
 unfold mixK
 rw [List.take_of_length_le (by rw [xK_len h]; omega), List.drop_eq_nil_of_le (by rw [padK_len h]; omega), List.append_nil]
theorem mixK_zero (k : List Int) (c : Nat) : mixK k c 0 = padK k := rfl
theorem mNew_ok {k : List Int} (h : isB k) : okM (mNew k) := ⟨wr_ok _ st0_ok (xK_bytes h (by decide)), wr_ok _ st0_ok (xK_bytes h (by decide))⟩
theorem mWr_ok {s : MS} (h : okM s) {p : List Int} (hp : isBytes p) : okM (mWr s p) := ⟨wr_ok p h.1 hp, h.2⟩
theorem sumL_len (s : HS) : (sumL s).length = 32 := outL_len _
theorem sumL_bytes (s : HS) : isBytes (sumL s) := outL_bytes _
theorem mac_eq (k p : List Int) : mSum (mWr (mNew k) p) = mkL k p := by
 unfold mSum mWr mNew mkL
 simp only [← wr_app, sum_st0]
set_option maxRecDepth 100000 in
theorem m82 : Meets Tryd.prog 82 sp82 := by
 refine meets_of_owed (C := c82) ⟨tab_ok, lkS_ok ⟨m75, m76, m70, trivial⟩⟩ (by kernel_rfl) (by kernel_rfl : Tryd.prog.funcs[82]? = some Tryd.f82) (by kernel_rfl) (by kernel_rfl) (by kernel_rfl) _ ?_
 rintro _ ⟨k, rfl, hk⟩
 refine ⟨fun _ => rfl, inv82 k, ?_⟩
 show owed c82 (inv82 k) Tryd.f82 [.ints .u8 k] (stM (mNew k))
 rw [vc82]
 have kl := keyL_ok hk
 have t32 : List.take 32 (digL k) = digL k := List.take_of_length_le (by rw [digL_len]; omega)
 simp (decide := true) only [Int.toNat_natCast, show Int.toNat 32 = 32 from rfl, show Int.toNat 64 = 64 from rfl, show Int.toNat 0 = 0 from rfl, List.drop_zero, Nat.sub_zero, Nat.zero_add, t32, digL_len, mixK_zero, ofS', eq_self, true_and, and_true, ne_eq, not_false_eq_true]
 split
 ·rename_i h
  have h : 64 < k.length := by have := of_decide_eq_true h; omega
  have kk : keyL k = digL k := by unfold keyL; rw [if_pos h]
  have e0 : List.take (Nat.min 32 64) (digL k) ++ List.drop (Nat.min 32 64) (List.replicate 64 0) = padK k := by
   unfold padK
   rw [kk, digL_len, show Nat.min 32 64 = 32 from rfl, t32]
   rfl
  rw [e0]
  refine ⟨⟨k, rfl, hk⟩, by and_intros <;> first | rfl | trivial | omega, fun x hx => ?_⟩
  split
  ·rename_i h2
   have h2 : x < 64 := by have := of_decide_eq_true h2; omega
   have ew : IntKind.i64.wrap ((x : Int) + 1) = ((x + 1 : Nat) : Int) := by rw [wi (by omega) (by omega)]; omega
   have s1 := mixK_set hk (c := 54) (by decide) h2
   have s2 := mixK_set hk (c := 92) (by decide) h2
   change (mixK k 54 x).set x (ixor .u8 ((mixK k 54 x).getD x 0) 54) = _ at s1
   change (mixK k 92 x).set x (ixor .u8 ((mixK k 92 x).getD x 0) 92) = _ at s2
   simp only [ew, Int.toNat_natCast, s1, s2]
   and_intros <;> first | rfl | omega | trivial
  ·rename_i h2
   obtain rfl : x = 64 := by have := of_decide_eq_false h2; omega
   have t1 : List.take 64 (xK k 54) = xK k 54 := List.take_of_length_le (by rw [xK_len hk]; omega)
   have t2 : List.take 64 (xK k 92) = xK k 92 := List.take_of_length_le (by rw [xK_len hk]; omega)
   simp only [mixK_end hk, t1, t2]
   exact ⟨⟨st0, _, rfl, st0_ok, xK_bytes hk (by decide), by rw [xK_len hk]; omega⟩, ⟨st0, _, rfl, st0_ok, xK_bytes hk (by decide), by rw [xK_len hk]; omega⟩, rfl⟩
 ·rename_i h
  have h : k.length ≤ 64 := by have := of_decide_eq_false h; omega
  have kk : keyL k = k := by unfold keyL; rw [if_neg (by omega)]
  have em : Nat.min k.length 64 = k.length := Nat.min_eq_left h
  have e0 : List.take (Nat.min k.length 64) k ++ List.drop (Nat.min k.length 64) (List.replicate 64 0) = padK k := by
   unfold padK
   rw [kk, em, List.take_length, List.drop_replicate]
  rw [e0]
  refine ⟨by and_intros <;> first | rfl | trivial | omega, fun x hx => ?_⟩
  split
  ·rename_i h2
   have h2 : x < 64 := by have := of_decide_eq_true h2; omega
   have ew : IntKind.i64.wrap ((x : Int) + 1) = ((x + 1 : Nat) : Int) := by rw [wi (by omega) (by omega)]; omega
   have s1 := mixK_set hk (c := 54) (by decide) h2
   have s2 := mixK_set hk (c := 92) (by decide) h2
   change (mixK k 54 x).set x (ixor .u8 ((mixK k 54 x).getD x 0) 54) = _ at s1
   change (mixK k 92 x).set x (ixor .u8 ((mixK k 92 x).getD x 0) 92) = _ at s2
   simp only [ew, Int.toNat_natCast, s1, s2]
   and_intros <;> first | rfl | omega | trivial
  ·rename_i h2
   obtain rfl : x = 64 := by have := of_decide_eq_false h2; omega
   have t1 : List.take 64 (xK k 54) = xK k 54 := List.take_of_length_le (by rw [xK_len hk]; omega)
   have t2 : List.take 64 (xK k 92) = xK k 92 := List.take_of_length_le (by rw [xK_len hk]; omega)
   simp only [mixK_end hk, t1, t2]
   exact ⟨⟨st0, _, rfl, st0_ok, xK_bytes hk (by decide), by rw [xK_len hk]; omega⟩, ⟨st0, _, rfl, st0_ok, xK_bytes hk (by decide), by rw [xK_len hk]; omega⟩, rfl⟩
set_option maxRecDepth 100000 in
theorem m83 : Meets Tryd.prog 83 sp83 := by
 refine meets_of_owed (C := c83) ⟨tab_ok, lkS_ok ⟨m76, trivial⟩⟩ (by kernel_rfl) (by kernel_rfl : Tryd.prog.funcs[83]? = some Tryd.f83) (by kernel_rfl) (by kernel_rfl) (by kernel_rfl) _ ?_
 rintro _ ⟨s, p, rfl, ⟨h1, h2⟩, hp, hl⟩
 refine ⟨fun _ => rfl, fun _ => none, ?_⟩
 show owed c83 (fun _ => none) Tryd.f83 [stM s, .ints .u8 p] (stM (mWr (ofM (stM s)) p))
 rw [vc83, ofM_eq]
 simp (decide := true) only [ofS', eq_self, true_and, and_true, ne_eq, not_false_eq_true]
 exact ⟨⟨_, p, rfl, h1, hp, hl⟩, rfl⟩
set_option maxRecDepth 100000 in
theorem m84 : Meets Tryd.prog 84 sp84 := by
 refine meets_of_owed (C := c84) ⟨tab_ok, lkS_ok ⟨m76, m77, trivial⟩⟩ (by kernel_rfl) (by kernel_rfl : Tryd.prog.funcs[84]? = some Tryd.f84) (by kernel_rfl) (by kernel_rfl) (by kernel_rfl) _ ?_
 rintro _ ⟨s, rfl, h1, h2⟩
 refine ⟨fun _ => rfl, fun _ => none, ?_⟩
 show owed c84 (fun _ => none) Tryd.f84 [stM s] (d32 (mSum (ofM (stM s))))
 rw [vc84, ofM_eq]
 have t32 : ∀ z : HS, List.take 32 (sumL z) = sumL z := fun z => List.take_of_length_le (by rw [sumL_len]; omega)
 simp (decide := true) only [Int.toNat_natCast, show Int.toNat 32 = 32 from rfl, show Int.toNat 0 = 0 from rfl, List.drop_zero, Nat.sub_zero, t32, ofS', eq_self, true_and, and_true, ne_eq, not_false_eq_true]
 exact ⟨⟨_, rfl, h1⟩, ⟨_, _, rfl, h2, sumL_bytes _, by rw [sumL_len]; omega⟩, ⟨_, rfl, wr_ok _ h2 (sumL_bytes _)⟩, rfl⟩
set_option maxRecDepth 100000 in
theorem m79 : Meets Tryd.prog 79 sp79 := by
 refine meets_of_owed (C := c79) ⟨tab_ok, lkS_ok ⟨m71, trivial⟩⟩ (by kernel_rfl) (by kernel_rfl : Tryd.prog.funcs[79]? = some Tryd.f79) (by kernel_rfl) (by kernel_rfl) (by kernel_rfl) _ ?_
 rintro _ ⟨k, p, rfl, hk, hp, hpl⟩
 refine ⟨fun _ => rfl, inv79 k, ?_⟩
 show owed c79 (inv79 k) Tryd.f79 [.str k, .str p] (d32 (mkL k p))
 rw [vc79]
 have kl := keyL_ok hk
 have t32 : ∀ q : List Int, List.take 32 (digL q) = digL q := fun q => List.take_of_length_le (by rw [digL_len]; omega)
 have ie : ints { data := { toList := [] } } = [] := rfl
 have l1 : ∀ x, (List.take x (xK k 54)).length ≤ 64 := fun x => by rw [List.length_take, xK_len hk]; omega
 have l2 : ∀ x, (List.take x (xK k 92)).length ≤ 64 := fun x => by rw [List.length_take, xK_len hk]; omega
 simp (decide := true) only [Int.toNat_natCast, show Int.toNat 32 = 32 from rfl, show Int.toNat 0 = 0 from rfl, List.drop_zero, Nat.sub_zero, Nat.zero_add, t32, digL_len, ie, eq_self, true_and, and_true, ne_eq, not_false_eq_true]
 split
 ·rename_i h
  have h : 64 < k.length := by have := of_decide_eq_true h; omega
  have kk : keyL k = digL k := by unfold keyL; rw [if_pos h]
  have ql := digL_len k
  rw [kk] at kl
  generalize hq : digL k = q at *
  refine ⟨⟨k, rfl, hk⟩, kl.1, by and_intros <;> first | rfl | trivial | omega, fun x hx => ?_⟩
  split
  ·rename_i h2
   have h2 : x < 64 := by have := of_decide_eq_true h2; omega
   have ew : IntKind.i64.wrap ((x : Int) + 1) = ((x + 1 : Nat) : Int) := by rw [wi (by omega) (by omega)]; omega
   have s1 := xK_get hk (c := 54) (by decide) h2
   have s2 := xK_get hk (c := 92) (by decide) h2
   change ixor .u8 _ 54 = _ at s1
   change ixor .u8 _ 92 = _ at s2
   have q1 := take_snoc (p := xK k 54) (i := x) (by rw [xK_len hk]; exact h2)
   have q2 := take_snoc (p := xK k 92) (i := x) (by rw [xK_len hk]; exact h2)
   have b1 : isBytes [(xK k 54).getD x 0] := fun z hz => by
    rw [List.mem_singleton.1 hz]
    obtain ⟨n, e, hn⟩ := byte_at (xK_bytes hk (c := 54) (by decide)) (i := x) (by rw [xK_len hk]; exact h2)
    omega
   have b2 : isBytes [(xK k 92).getD x 0] := fun z hz => by
    rw [List.mem_singleton.1 hz]
    obtain ⟨n, e, hn⟩ := byte_at (xK_bytes hk (c := 92) (by decide)) (i := x) (by rw [xK_len hk]; exact h2)
    omega
   have l1x := l1 x
   have l2x := l2 x
   unfold padK at s1 s2
   rw [kk] at s1 s2
   split
   ·rename_i h3
    have h3 : x < q.length := by have := of_decide_eq_true h3; omega
    rw [List.getD_eq_getElem?_getD, List.getElem?_append_left h3, ← List.getD_eq_getElem?_getD] at s1 s2
    simp only [ew, Int.toNat_natCast, s1, s2, ← q1, ← q2]
    refine ⟨by omega, b1, by omega, b2, by omega, ?_, by omega, by omega⟩
    and_intros <;> first | rfl | trivial
   ·rename_i h3
    have h3 : q.length ≤ x := by have := of_decide_eq_false h3; omega
    rw [List.getD_eq_getElem?_getD, List.getElem?_append_right h3, List.getElem?_replicate, if_pos (by omega)] at s1 s2
    change ixor .u8 0 54 = _ at s1
    change ixor .u8 0 92 = _ at s2
    simp only [ew, Int.toNat_natCast, s1, s2, ← q1, ← q2]
    refine ⟨b1, by omega, b2, by omega, ?_, by omega, by omega⟩
    and_intros <;> first | rfl | trivial
  ·rename_i h2
   obtain rfl : x = 64 := by have := of_decide_eq_false h2; omega
   have t1 : List.take 64 (xK k 54) = xK k 54 := List.take_of_length_le (by rw [xK_len hk]; omega)
   have t2 : List.take 64 (xK k 92) = xK k 92 := List.take_of_length_le (by rw [xK_len hk]; omega)
   have n1 := xK_len hk 54
   have n2 := xK_len hk 92
   have bb := xK_bytes hk (c := 54) (by decide)
   have bc := xK_bytes hk (c := 92) (by decide)
   simp only [t1, t2]
   refine ⟨by omega, ⟨_, rfl, bytes_app bb hp, by rw [List.length_append]; omega⟩, digL_bytes _, by omega, ⟨_, rfl, bytes_app bc (digL_bytes _), by rw [List.length_append, digL_len]; omega⟩, rfl⟩
 ·rename_i h
  have h : k.length ≤ 64 := by have := of_decide_eq_false h; omega
  have kk : keyL k = k := by unfold keyL; rw [if_neg (by omega)]
  generalize hq : k = q at kk ⊢
  subst hq
  refine ⟨by and_intros <;> first | rfl | trivial | omega, fun x hx => ?_⟩
  split
  ·rename_i h2
   have h2 : x < 64 := by have := of_decide_eq_true h2; omega
   have ew : IntKind.i64.wrap ((x : Int) + 1) = ((x + 1 : Nat) : Int) := by rw [wi (by omega) (by omega)]; omega
   have s1 := xK_get hk (c := 54) (by decide) h2
   have s2 := xK_get hk (c := 92) (by decide) h2
   change ixor .u8 _ 54 = _ at s1
   change ixor .u8 _ 92 = _ at s2
   have q1 := take_snoc (p := xK k 54) (i := x) (by rw [xK_len hk]; exact h2)
   have q2 := take_snoc (p := xK k 92) (i := x) (by rw [xK_len hk]; exact h2)
   have b1 : isBytes [(xK k 54).getD x 0] := fun z hz => by
    rw [List.mem_singleton.1 hz]
    obtain ⟨n, e, hn⟩ := byte_at (xK_bytes hk (c := 54) (by decide)) (i := x) (by rw [xK_len hk]; exact h2)
    omega
   have b2 : isBytes [(xK k 92).getD x 0] := fun z hz => by
    rw [List.mem_singleton.1 hz]
    obtain ⟨n, e, hn⟩ := byte_at (xK_bytes hk (c := 92) (by decide)) (i := x) (by rw [xK_len hk]; exact h2)
    omega
   have l1x := l1 x
   have l2x := l2 x
   unfold padK at s1 s2
   rw [kk] at s1 s2
   split
   ·rename_i h3
    have h3 : x < k.length := by have := of_decide_eq_true h3; omega
    rw [List.getD_eq_getElem?_getD, List.getElem?_append_left h3, ← List.getD_eq_getElem?_getD] at s1 s2
    simp only [ew, Int.toNat_natCast, s1, s2, ← q1, ← q2]
    refine ⟨by omega, b1, by omega, b2, by omega, ?_, by omega, by omega⟩
    and_intros <;> first | rfl | trivial
   ·rename_i h3
    have h3 : k.length ≤ x := by have := of_decide_eq_false h3; omega
    rw [List.getD_eq_getElem?_getD, List.getElem?_append_right h3, List.getElem?_replicate, if_pos (by omega)] at s1 s2
    change ixor .u8 0 54 = _ at s1
    change ixor .u8 0 92 = _ at s2
    simp only [ew, Int.toNat_natCast, s1, s2, ← q1, ← q2]
    refine ⟨b1, by omega, b2, by omega, ?_, by omega, by omega⟩
    and_intros <;> first | rfl | trivial
  ·rename_i h2
   obtain rfl : x = 64 := by have := of_decide_eq_false h2; omega
   have t1 : List.take 64 (xK k 54) = xK k 54 := List.take_of_length_le (by rw [xK_len hk]; omega)
   have t2 : List.take 64 (xK k 92) = xK k 92 := List.take_of_length_le (by rw [xK_len hk]; omega)
   have n1 := xK_len hk 54
   have n2 := xK_len hk 92
   have bb := xK_bytes hk (c := 54) (by decide)
   have bc := xK_bytes hk (c := 92) (by decide)
   simp only [t1, t2]
   refine ⟨by omega, ⟨_, rfl, bytes_app bb hp, by rw [List.length_append]; omega⟩, digL_bytes _, by omega, ⟨_, rfl, bytes_app bc (digL_bytes _), by rw [List.length_append, digL_len]; omega⟩, rfl⟩
theorem or_zero {a b : Nat} : a ||| b = 0 ↔ a = 0 ∧ b = 0 := by
 constructor
 ·intro h
  have h1 : a ≤ a ||| b := Nat.left_le_or
  have h2 : b ≤ a ||| b := Nat.right_le_or
  omega
 ·rintro ⟨rfl, rfl⟩
  rfl
end Go.Proofs.YtkicjckhkefnpaaDoor
namespace Go.Proofs.YtkicjckhkefnpaaDoor
open Go Go.Vg
structure SR where
 k : MS
 p : Nat
 b : List Int
 m : Bool
abbrev stR (s : SR) : D := .st [stM s.k, .val (.int .u64 (s.p : Int)), .arr .u8 32 s.b, .val (.bool s.m)]
def srOf (d : D) : SR := ⟨ofM (fldOf d 0), (numOf (fldOf d 1)).toNat, arrOf (fldOf d 2), boolOf (fldOf d 3)⟩
def bE (q i : Nat) : Int := ((q / 2 ^ (56 - 8 * i) % 256 : Nat) : Int)
def be8 (q : Nat) : List Int := (List.range 8).map (bE q)
def be8N (q i : Nat) : List Int := (List.range i).map (bE q) ++ List.replicate (8 - i) 0
def blkS (k : MS) (q : Nat) : List Int := mSum (mWr k (be8 q))
def nxB (s : SR) : List Int := if s.p % 32 = 0 ∨ s.m = false then blkS s.k (s.p / 32) else s.b
def nxS (s : SR) : SR := ⟨s.k, (s.p + 1) % 18446744073709551616, nxB s, true⟩
def nxV (s : SR) : Int := (nxB s).getD (s.p % 32) 0
def okR (s : SR) : Prop := okM s.k ∧ s.p < 18446744073709551616 ∧ isBytes s.b ∧ s.b.length = 32
def fitE (n : Int) : Int := if n < 0 then 1 else if n > 4096 then 2 else 0
def skS (s : SR) (n : Int) : SR := if fitE n = 0 then ⟨s.k, (s.p + n.toNat) % 18446744073709551616, s.b, false⟩ else s
def itS (s : SR) : Nat → SR
 | 0 => s
 | n + 1 => nxS (itS s n)
def itV (s : SR) (n : Nat) : List Int := (List.range n).map fun i => nxV (itS s i)
def bysS (s : SR) (n : Int) : SR := if fitE n = 0 then itS s n.toNat else s
def sr0 (k : List Int) (p : Nat) : SR := ⟨mNew k, p, List.replicate 32 0, false⟩
def sp92 : Go.Vg.Spec := ⟨fun ds => ∃ k, ∃ p : Nat, ds = [.ints .u8 k, u64 p] ∧ isB k, fun ds => .tup [stR (sr0 (intsOf (ds.headD default)) (numOf (ds.getD 1 default)).toNat)], true, [26, 73, 8000000]⟩
def sp40 : Go.Vg.Spec := ⟨fun ds => ∃ k, ds = [.ints .u8 k] ∧ isB k, fun ds => .tup [stR (sr0 (intsOf (ds.headD default)) 0)], true, [26, 8000000]⟩
def sp95 : Go.Vg.Spec := ⟨fun ds => ∃ s, ds = [stR s] ∧ okR s, fun ds => .tup [u8 (nxV (srOf (ds.headD default))), stR (nxS (srOf (ds.headD default)))], true, [9000000]⟩
def c92 : Ctx := ⟨tab, lkS [(82, sp82)], [], []⟩
def c40 : Ctx := ⟨tab, lkS [(92, sp92)], [], []⟩
def c95 : Ctx := ⟨tab, lkS [(83, sp83), (84, sp84)], [], []⟩
def inv95 (s : SR) : Nat → Option Inv
 | 4 => some ⟨Nat, fun i => [(19, .d (i64 i))], fun i => [(3, .fix (.arr .u8 8 (be8N (s.p / 32) i)))], fun t => (slotN t 19).toNat, fun _ i => i ≤ 8, fun i => 8 - i⟩
 | 100002 => some ⟨Nat, fun _ => [], fun _ => [(1000, .fix (stR ⟨s.k, s.p, nxB s, true⟩))], fun _ => 0, fun _ _ => True, fun _ => 0⟩
 | _ => none
set_option maxRecDepth 100000 in
theorem vc92  (k : List Int) (p : Nat) (F : D)  :
    (owedNew c92 (fun _ => none) Tryd.f92 [.ints .u8 k, u64 p] F) = (
 True ∧ True ∧ (∃ (k_1 : List Int), [D.ints .u8 k] = [D.ints .u8 k_1] ∧ isB k_1) ∧ True ∧ (false = false ∧ (0 < 4 ∧ Sk.st [Sk.st [Sk.arr 8, Sk.one, Sk.arr 64], Sk.st [Sk.arr 8, Sk.one, Sk.arr 64]] = Sk.st [Sk.st [Sk.arr 8, Sk.one, Sk.arr 64], Sk.st [Sk.arr 8, Sk.one, Sk.arr 64]]) ∧ false = false ∧ (1 < 4 ∧ Sk.one = Sk.one) ∧ True) ∧ (True ∧ false = false) ∧ True ∧ True ∧ True ∧ D.tup [D.st [D.st [D.st [D.arr .u32 8 (mNew k).i.h.l, D.val (.int .u64 (↑(mNew k).i.n : Int)), D.arr .u8 64 (mNew k).i.l], D.st [D.arr .u32 8 (mNew k).o.h.l, D.val (.int .u64 (↑(mNew k).o.n : Int)), D.arr .u8 64 (mNew k).o.l]], D.val (.int .u64 (↑p : Int)), D.arr .u8 32 [(0 : Int), (0 : Int), (0 : Int), (0 : Int), (0 : Int), (0 : Int), (0 : Int), (0 : Int), (0 : Int), (0 : Int), (0 : Int), (0 : Int), (0 : Int), (0 : Int), (0 : Int), (0 : Int), (0 : Int), (0 : Int), (0 : Int), (0 : Int), (0 : Int), (0 : Int), (0 : Int), (0 : Int), (0 : Int), (0 : Int), (0 : Int), (0 : Int), (0 : Int), (0 : Int), (0 : Int), (0 : Int)], D.val (Value.bool false)]] = F) := by kernel_rfl
set_option maxRecDepth 100000 in
theorem vc40  (k : List Int) (F : D)  :
    (owedNew c40 (fun _ => none) Tryd.f40 [.ints .u8 k] F) = (
 True ∧ True ∧ ((∃ (k_1 : List Int), ∃ (p : Nat), [D.ints .u8 k, D.val (.int .u64 0)] = [D.ints .u8 k_1, D.val (.int .u64 (↑p : Int))] ∧ isB k_1) ∧ True) ∧ True ∧ True ∧ True ∧ D.tup [D.st [D.st [D.st [D.arr .u32 8 (mNew k).i.h.l, D.val (.int .u64 (↑(mNew k).i.n : Int)), D.arr .u8 64 (mNew k).i.l], D.st [D.arr .u32 8 (mNew k).o.h.l, D.val (.int .u64 (↑(mNew k).o.n : Int)), D.arr .u8 64 (mNew k).o.l]], D.val (.int .u64 (↑(0 : Nat) : Int)), D.arr .u8 32 [(0 : Int), (0 : Int), (0 : Int), (0 : Int), (0 : Int), (0 : Int), (0 : Int), (0 : Int), (0 : Int), (0 : Int), (0 : Int), (0 : Int), (0 : Int), (0 : Int), (0 : Int), (0 : Int), (0 : Int), (0 : Int), (0 : Int), (0 : Int), (0 : Int), (0 : Int), (0 : Int), (0 : Int), (0 : Int), (0 : Int), (0 : Int), (0 : Int), (0 : Int), (0 : Int), (0 : Int), (0 : Int)], D.val (Value.bool false)]] = F) := by kernel_rfl
set_option maxRecDepth 100000 in
theorem vc95  (s : SR) (F : D)  :
    (owedIo c95 (inv95 s) Tryd.f95 (stR s) [] F) = (
 True ∧ True ∧ True ∧ (Sk.st [Sk.st [Sk.st [Sk.arr 8, Sk.one, Sk.arr 64], Sk.st [Sk.arr 8, Sk.one, Sk.arr 64]], Sk.one, Sk.arr 32, Sk.one] = Sk.st [Sk.st [Sk.st [Sk.arr 8, Sk.one, Sk.arr 64], Sk.st [Sk.arr 8, Sk.one, Sk.arr 64]], Sk.one, Sk.arr 32, Sk.one] ∧ 1 < 4) ∧ (1 ≠ 0 ∧ 1 = 1 ∧ false = false) ∧ (32 : Int) ≠ 0 ∧ True ∧ True ∧ match (↑s.p : Int).tmod (32 : Int) == (0 : Int) with
 | true => True ∧ ((True ∧ 8 ≠ 0) ∧ True ∧ (((AV.d (D.val (.int .i64 0)) = AV.d (D.val (.int .i64 (↑(Int.toNat (0 : Int)) : Int))) ∧ True) ∧ (some (Blk.fix (D.arr .u8 8 [(0 : Int), (0 : Int), (0 : Int), (0 : Int), (0 : Int), (0 : Int), (0 : Int), (0 : Int)])) = some (Blk.fix (D.arr .u8 8 (be8N (s.p / 32) (Int.toNat (0 : Int))))) ∧ sm (some (Blk.fix (D.st [D.st [D.st [D.arr .u32 8 s.k.i.h.l, D.val (.int .u64 (↑s.k.i.n : Int)), D.arr .u8 64 s.k.i.l], D.st [D.arr .u32 8 s.k.o.h.l, D.val (.int .u64 (↑s.k.o.n : Int)), D.arr .u8 64 s.k.o.l]], D.val (.int .u64 (↑s.p : Int)), D.arr .u8 32 s.b, D.val (Value.bool s.m)]))) ∧ True) ∧ true = true) ∧ Int.toNat (0 : Int) ≤ 8) ∧ ∀ (x : Nat), x ≤ 8 → true = true ∧ True ∧ match decide ((↑x : Int) < (8 : Int)) with
  | true => True ∧ True ∧ True ∧ True ∧ True ∧ (Sk.st [Sk.st [Sk.st [Sk.arr 8, Sk.one, Sk.arr 64], Sk.st [Sk.arr 8, Sk.one, Sk.arr 64]], Sk.one, Sk.arr 32, Sk.one] = Sk.st [Sk.st [Sk.st [Sk.arr 8, Sk.one, Sk.arr 64], Sk.st [Sk.arr 8, Sk.one, Sk.arr 64]], Sk.one, Sk.arr 32, Sk.one] ∧ 1 < 4) ∧ (1 ≠ 0 ∧ 1 = 1 ∧ false = false) ∧ (32 : Int) ≠ 0 ∧ True ∧ True ∧ True ∧ True ∧ (0 : Int) ≤ IntKind.u64.wrap (IntKind.i64.wrap ((56 : Int) - IntKind.i64.wrap ((8 : Int) * (↑x : Int)))) ∧ True ∧ ((0 : Int) ≤ (↑x : Int) ∧ (↑x : Int) < (↑(8 : Nat) : Int) ∧ 8 = 8 ∧ 1 = 1) ∧ (((↑x : Int).toNat < 8 ∧ ([] : List Nat) = [] ∧ true = true) ∧ 1 ≠ 0 ∧ 1 = 1 ∧ false = false) ∧ True ∧ True ∧ ((AV.d (D.val (.int .i64 (IntKind.i64.wrap ((↑x : Int) + (1 : Int))))) = AV.d (D.val (.int .i64 (↑(IntKind.i64.wrap ((↑x : Int) + (1 : Int))).toNat : Int))) ∧ True) ∧ (some (Blk.fix (D.arr .u8 8 ((be8N (s.p / 32) x).set (↑x : Int).toNat (IntKind.u8.wrap (ishr IntKind.u64 (IntKind.u64.wrap ((↑s.p : Int).tdiv (32 : Int))) (IntKind.u64.wrap (IntKind.i64.wrap ((56 : Int) - IntKind.i64.wrap ((8 : Int) * (↑x : Int)))))))))) = some (Blk.fix (D.arr .u8 8 (be8N (s.p / 32) (IntKind.i64.wrap ((↑x : Int) + (1 : Int))).toNat))) ∧ sm (some (Blk.fix (D.st [D.st [D.st [D.arr .u32 8 s.k.i.h.l, D.val (.int .u64 (↑s.k.i.n : Int)), D.arr .u8 64 s.k.i.l], D.st [D.arr .u32 8 s.k.o.h.l, D.val (.int .u64 (↑s.k.o.n : Int)), D.arr .u8 64 s.k.o.l]], D.val (.int .u64 (↑s.p : Int)), D.arr .u8 32 s.b, D.val (Value.bool s.m)]))) ∧ True) ∧ true = true) ∧ (IntKind.i64.wrap ((↑x : Int) + (1 : Int))).toNat ≤ 8 ∧ 8 - (IntKind.i64.wrap ((↑x : Int) + (1 : Int))).toNat < 8 - x
  | false => True ∧ True ∧ True ∧ True ∧ (Sk.st [Sk.st [Sk.st [Sk.arr 8, Sk.one, Sk.arr 64], Sk.st [Sk.arr 8, Sk.one, Sk.arr 64]], Sk.one, Sk.arr 32, Sk.one] = Sk.st [Sk.st [Sk.st [Sk.arr 8, Sk.one, Sk.arr 64], Sk.st [Sk.arr 8, Sk.one, Sk.arr 64]], Sk.one, Sk.arr 32, Sk.one] ∧ 0 < 4) ∧ (146 ≠ 0 ∧ 146 = 146 ∧ true = true) ∧ ((0 : Int) ≤ 0 ∧ (0 : Int) ≤ (↑(8 : Nat) : Int) ∧ (↑(8 : Nat) : Int) ≤ (↑(8 : Nat) : Int) ∧ 8 = 8 ∧ 1 = 1) ∧ (∃ (s_1 : MS), ∃ (p : List Int), [D.st [D.st [D.arr .u32 8 s.k.i.h.l, D.val (.int .u64 (↑s.k.i.n : Int)), D.arr .u8 64 s.k.i.l], D.st [D.arr .u32 8 s.k.o.h.l, D.val (.int .u64 (↑s.k.o.n : Int)), D.arr .u8 64 s.k.o.l]], D.ints .u8 (List.take ((↑(8 : Nat) : Int).toNat - Int.toNat (0 : Int)) (List.drop 0 (be8N (s.p / 32) x)))] = [D.st [D.st [D.arr .u32 8 s_1.i.h.l, D.val (.int .u64 (↑s_1.i.n : Int)), D.arr .u8 64 s_1.i.l], D.st [D.arr .u32 8 s_1.o.h.l, D.val (.int .u64 (↑s_1.o.n : Int)), D.arr .u8 64 s_1.o.l]], D.ints .u8 p] ∧ okM s_1 ∧ isB p) ∧ (∃ (s_1 : MS), [D.st [D.st [D.arr .u32 8 (mWr (ofM (D.st [D.st [D.arr .u32 8 s.k.i.h.l, D.val (.int .u64 (↑s.k.i.n : Int)), D.arr .u8 64 s.k.i.l], D.st [D.arr .u32 8 s.k.o.h.l, D.val (.int .u64 (↑s.k.o.n : Int)), D.arr .u8 64 s.k.o.l]])) (List.take ((↑(8 : Nat) : Int).toNat - Int.toNat (0 : Int)) (List.drop 0 (be8N (s.p / 32) x)))).i.h.l, D.val (Value.int IntKind.u64 (↑(mWr (ofM (D.st [D.st [D.arr .u32 8 s.k.i.h.l, D.val (.int .u64 (↑s.k.i.n : Int)), D.arr .u8 64 s.k.i.l], D.st [D.arr .u32 8 s.k.o.h.l, D.val (.int .u64 (↑s.k.o.n : Int)), D.arr .u8 64 s.k.o.l]])) (List.take ((↑(8 : Nat) : Int).toNat - Int.toNat (0 : Int)) (List.drop 0 (be8N (s.p / 32) x)))).i.n : Int)), D.arr .u8 64 (mWr (ofM (D.st [D.st [D.arr .u32 8 s.k.i.h.l, D.val (.int .u64 (↑s.k.i.n : Int)), D.arr .u8 64 s.k.i.l], D.st [D.arr .u32 8 s.k.o.h.l, D.val (.int .u64 (↑s.k.o.n : Int)), D.arr .u8 64 s.k.o.l]])) (List.take ((↑(8 : Nat) : Int).toNat - Int.toNat (0 : Int)) (List.drop 0 (be8N (s.p / 32) x)))).i.l], D.st [D.arr .u32 8 (mWr (ofM (D.st [D.st [D.arr .u32 8 s.k.i.h.l, D.val (.int .u64 (↑s.k.i.n : Int)), D.arr .u8 64 s.k.i.l], D.st [D.arr .u32 8 s.k.o.h.l, D.val (.int .u64 (↑s.k.o.n : Int)), D.arr .u8 64 s.k.o.l]])) (List.take ((↑(8 : Nat) : Int).toNat - Int.toNat (0 : Int)) (List.drop 0 (be8N (s.p / 32) x)))).o.h.l, D.val (Value.int IntKind.u64 (↑(mWr (ofM (D.st [D.st [D.arr .u32 8 s.k.i.h.l, D.val (.int .u64 (↑s.k.i.n : Int)), D.arr .u8 64 s.k.i.l], D.st [D.arr .u32 8 s.k.o.h.l, D.val (.int .u64 (↑s.k.o.n : Int)), D.arr .u8 64 s.k.o.l]])) (List.take ((↑(8 : Nat) : Int).toNat - Int.toNat (0 : Int)) (List.drop 0 (be8N (s.p / 32) x)))).o.n : Int)), D.arr .u8 64 (mWr (ofM (D.st [D.st [D.arr .u32 8 s.k.i.h.l, D.val (.int .u64 (↑s.k.i.n : Int)), D.arr .u8 64 s.k.i.l], D.st [D.arr .u32 8 s.k.o.h.l, D.val (.int .u64 (↑s.k.o.n : Int)), D.arr .u8 64 s.k.o.l]])) (List.take ((↑(8 : Nat) : Int).toNat - Int.toNat (0 : Int)) (List.drop 0 (be8N (s.p / 32) x)))).o.l]]] = [D.st [D.st [D.arr .u32 8 s_1.i.h.l, D.val (.int .u64 (↑s_1.i.n : Int)), D.arr .u8 64 s_1.i.l], D.st [D.arr .u32 8 s_1.o.h.l, D.val (.int .u64 (↑s_1.o.n : Int)), D.arr .u8 64 s_1.o.l]]] ∧
   okM s_1) ∧ True ∧ (Sk.st [Sk.st [Sk.st [Sk.arr 8, Sk.one, Sk.arr 64], Sk.st [Sk.arr 8, Sk.one, Sk.arr 64]], Sk.one, Sk.arr 32, Sk.one] = Sk.st [Sk.st [Sk.st [Sk.arr 8, Sk.one, Sk.arr 64], Sk.st [Sk.arr 8, Sk.one, Sk.arr 64]], Sk.one, Sk.arr 32, Sk.one] ∧ 2 < 4) ∧ ((2 < 4 ∧ Sk.arr 32 = Sk.arr 32) ∧ 32 ≠ 0 ∧ 32 = 32 ∧ false = false) ∧ True ∧ (Sk.st [Sk.st [Sk.st [Sk.arr 8, Sk.one, Sk.arr 64], Sk.st [Sk.arr 8, Sk.one, Sk.arr 64]], Sk.one, Sk.arr 32, Sk.one] = Sk.st [Sk.st [Sk.st [Sk.arr 8, Sk.one, Sk.arr 64], Sk.st [Sk.arr 8, Sk.one, Sk.arr 64]], Sk.one, Sk.arr 32, Sk.one] ∧ 3 < 4) ∧ ((3 < 4 ∧ Sk.one = Sk.one) ∧ 1 ≠ 0 ∧ 1 = 1 ∧ false = false) ∧ (True ∧ (some (Blk.fix (D.st [D.st [D.st [D.arr .u32 8 s.k.i.h.l, D.val (.int .u64 (↑s.k.i.n : Int)), D.arr .u8 64 s.k.i.l], D.st [D.arr .u32 8 s.k.o.h.l, D.val (.int .u64 (↑s.k.o.n : Int)), D.arr .u8 64 s.k.o.l]], D.val (.int .u64 (↑s.p : Int)), D.arr .u8 32 (mSum (ofM (D.st [D.st [D.arr .u32 8 (mWr (ofM (D.st [D.st [D.arr .u32 8 s.k.i.h.l, D.val (.int .u64 (↑s.k.i.n : Int)), D.arr .u8 64 s.k.i.l], D.st [D.arr .u32 8 s.k.o.h.l, D.val (.int .u64 (↑s.k.o.n : Int)), D.arr .u8 64 s.k.o.l]])) (List.take ((↑(8 : Nat) : Int).toNat - Int.toNat (0 : Int)) (List.drop 0 (be8N (s.p / 32) x)))).i.h.l, D.val (Value.int IntKind.u64 (↑(mWr (ofM (D.st [D.st [D.arr .u32 8 s.k.i.h.l, D.val (.int .u64 (↑s.k.i.n : Int)), D.arr .u8 64 s.k.i.l], D.st [D.arr .u32 8 s.k.o.h.l, D.val (.int .u64 (↑s.k.o.n : Int)), D.arr .u8 64 s.k.o.l]])) (List.take ((↑(8 : Nat) : Int).toNat - Int.toNat (0 : Int)) (List.drop 0 (be8N (s.p / 32) x)))).i.n : Int)), D.arr .u8 64 (mWr (ofM (D.st [D.st [D.arr .u32 8 s.k.i.h.l, D.val (.int .u64 (↑s.k.i.n : Int)), D.arr .u8 64 s.k.i.l], D.st [D.arr .u32 8 s.k.o.h.l, D.val (.int .u64 (↑s.k.o.n : Int)), D.arr .u8 64 s.k.o.l]])) (List.take ((↑(8 : Nat) : Int).toNat - Int.toNat (0 : Int)) (List.drop 0 (be8N (s.p / 32) x)))).i.l], D.st [D.arr .u32 8 (mWr (ofM (D.st [D.st [D.arr .u32 8 s.k.i.h.l, D.val (.int .u64 (↑s.k.i.n : Int)), D.arr .u8 64 s.k.i.l], D.st [D.arr .u32 8 s.k.o.h.l, D.val (.int .u64 (↑s.k.o.n : Int)), D.arr .u8 64 s.k.o.l]])) (List.take ((↑(8 : Nat) : Int).toNat - Int.toNat (0 : Int)) (List.drop 0 (be8N (s.p / 32) x)))).o.h.l, D.val (Value.int IntKind.u64 (↑(mWr (ofM (D.st [D.st [D.arr .u32 8 s.k.i.h.l, D.val (.int .u64 (↑s.k.i.n : Int)), D.arr .u8 64 s.k.i.l], D.st [D.arr .u32 8 s.k.o.h.l, D.val (.int .u64 (↑s.k.o.n : Int)), D.arr .u8 64 s.k.o.l]])) (List.take ((↑(8 : Nat) : Int).toNat - Int.toNat (0 : Int)) (List.drop 0 (be8N (s.p / 32) x)))).o.n : Int)), D.arr .u8 64 (mWr (ofM (D.st [D.st [D.arr .u32 8 s.k.i.h.l, D.val (.int .u64 (↑s.k.i.n : Int)), D.arr .u8 64 s.k.i.l], D.st [D.arr .u32 8 s.k.o.h.l, D.val (.int .u64 (↑s.k.o.n : Int)), D.arr .u8 64 s.k.o.l]])) (List.take ((↑(8 : Nat) : Int).toNat - Int.toNat (0 : Int)) (List.drop 0 (be8N (s.p / 32) x)))).o.l]]))), D.val (Value.bool true)])) = some (Blk.fix (D.st [D.st [D.st [D.arr .u32 8 s.k.i.h.l, D.val (.int .u64 (↑s.k.i.n : Int)), D.arr .u8 64 s.k.i.l], D.st [D.arr .u32 8 s.k.o.h.l, D.val (.int .u64 (↑s.k.o.n : Int)), D.arr .u8 64 s.k.o.l]], D.val (.int .u64 (↑s.p : Int)),
   D.arr .u8 32 (nxB s), D.val (Value.bool true)])) ∧ True) ∧ true = true) ∧ True) ∧ ∀ (z : Nat), True → true = true ∧ True ∧ True ∧ True ∧ (Sk.st [Sk.st [Sk.st [Sk.arr 8, Sk.one, Sk.arr 64], Sk.st [Sk.arr 8, Sk.one, Sk.arr 64]], Sk.one, Sk.arr 32, Sk.one] = Sk.st [Sk.st [Sk.st [Sk.arr 8, Sk.one, Sk.arr 64], Sk.st [Sk.arr 8, Sk.one, Sk.arr 64]], Sk.one, Sk.arr 32, Sk.one] ∧ 1 < 4) ∧ (1 ≠ 0 ∧ 1 = 1 ∧ false = false) ∧ (32 : Int) ≠ 0 ∧ True ∧ (Sk.st [Sk.st [Sk.st [Sk.arr 8, Sk.one, Sk.arr 64], Sk.st [Sk.arr 8, Sk.one, Sk.arr 64]], Sk.one, Sk.arr 32, Sk.one] = Sk.st [Sk.st [Sk.st [Sk.arr 8, Sk.one, Sk.arr 64], Sk.st [Sk.arr 8, Sk.one, Sk.arr 64]], Sk.one, Sk.arr 32, Sk.one] ∧ 2 < 4) ∧ ((0 : Int) ≤ (↑s.p : Int).tmod (32 : Int) ∧ (↑s.p : Int).tmod (32 : Int) < (↑(32 : Nat) : Int) ∧ 32 = 32 ∧ 1 = 1) ∧ (1 ≠ 0 ∧ 1 = 1 ∧ false = false) ∧ True ∧ True ∧ True ∧ (Sk.st [Sk.st [Sk.st [Sk.arr 8, Sk.one, Sk.arr 64], Sk.st [Sk.arr 8, Sk.one, Sk.arr 64]], Sk.one, Sk.arr 32, Sk.one] = Sk.st [Sk.st [Sk.st [Sk.arr 8, Sk.one, Sk.arr 64], Sk.st [Sk.arr 8, Sk.one, Sk.arr 64]], Sk.one, Sk.arr 32, Sk.one] ∧ 1 < 4) ∧ (1 ≠ 0 ∧ 1 = 1 ∧ false = false) ∧ True ∧ True ∧ (Sk.st [Sk.st [Sk.st [Sk.arr 8, Sk.one, Sk.arr 64], Sk.st [Sk.arr 8, Sk.one, Sk.arr 64]], Sk.one, Sk.arr 32, Sk.one] = Sk.st [Sk.st [Sk.st [Sk.arr 8, Sk.one, Sk.arr 64], Sk.st [Sk.arr 8, Sk.one, Sk.arr 64]], Sk.one, Sk.arr 32, Sk.one] ∧ 1 < 4) ∧ ((1 < 4 ∧ Sk.one = Sk.one) ∧ 1 ≠ 0 ∧ 1 = 1 ∧ false = false) ∧ True ∧ True ∧ (false = false ∧ True) ∧ Sk.st [Sk.st [Sk.st [Sk.arr 8, Sk.one, Sk.arr 64], Sk.st [Sk.arr 8, Sk.one, Sk.arr 64]], Sk.one, Sk.arr 32, Sk.one] = Sk.st [Sk.st [Sk.st [Sk.arr 8, Sk.one, Sk.arr 64], Sk.st [Sk.arr 8, Sk.one, Sk.arr 64]], Sk.one, Sk.arr 32, Sk.one] ∧ D.tup [D.val (.int .u8 ((nxB s).getD ((↑s.p : Int).tmod (32 : Int)).toNat (0 : Int))), D.st [D.st [D.st [D.arr .u32 8 s.k.i.h.l, D.val (.int .u64 (↑s.k.i.n : Int)), D.arr .u8 64 s.k.i.l], D.st [D.arr .u32 8 s.k.o.h.l, D.val (.int .u64 (↑s.k.o.n : Int)), D.arr .u8 64 s.k.o.l]], D.val (.int .u64 (IntKind.u64.wrap ((↑s.p : Int) + (1 : Int)))), D.arr .u8 32 (nxB s), D.val (Value.bool true)]] = F
 | false => True ∧ True ∧ (Sk.st [Sk.st [Sk.st [Sk.arr 8, Sk.one, Sk.arr 64], Sk.st [Sk.arr 8, Sk.one, Sk.arr 64]], Sk.one, Sk.arr 32, Sk.one] = Sk.st [Sk.st [Sk.st [Sk.arr 8, Sk.one, Sk.arr 64], Sk.st [Sk.arr 8, Sk.one, Sk.arr 64]], Sk.one, Sk.arr 32, Sk.one] ∧ 3 < 4) ∧ ((1 ≠ 0 ∧ 1 = 1 ∧ false = false) ∧ D.val (Value.bool s.m) = D.val (Value.bool s.m)) ∧ True ∧ True ∧ (match !s.m with
  | true => (True ∧ 8 ≠ 0) ∧ True ∧ (((AV.d (D.val (.int .i64 0)) = AV.d (D.val (.int .i64 (↑(Int.toNat (0 : Int)) : Int))) ∧ True) ∧ (some (Blk.fix (D.arr .u8 8 [(0 : Int), (0 : Int), (0 : Int), (0 : Int), (0 : Int), (0 : Int), (0 : Int), (0 : Int)])) = some (Blk.fix (D.arr .u8 8 (be8N (s.p / 32) (Int.toNat (0 : Int))))) ∧ sm (some (Blk.fix (D.st [D.st [D.st [D.arr .u32 8 s.k.i.h.l, D.val (.int .u64 (↑s.k.i.n : Int)), D.arr .u8 64 s.k.i.l], D.st [D.arr .u32 8 s.k.o.h.l, D.val (.int .u64 (↑s.k.o.n : Int)), D.arr .u8 64 s.k.o.l]], D.val (.int .u64 (↑s.p : Int)), D.arr .u8 32 s.b, D.val (Value.bool s.m)]))) ∧ True) ∧ true = true) ∧ Int.toNat (0 : Int) ≤ 8) ∧ ∀ (x : Nat), x ≤ 8 → true = true ∧ True ∧ match decide ((↑x : Int) < (8 : Int)) with
   | true => True ∧ True ∧ True ∧ True ∧ True ∧ (Sk.st [Sk.st [Sk.st [Sk.arr 8, Sk.one, Sk.arr 64], Sk.st [Sk.arr 8, Sk.one, Sk.arr 64]], Sk.one, Sk.arr 32, Sk.one] = Sk.st [Sk.st [Sk.st [Sk.arr 8, Sk.one, Sk.arr 64], Sk.st [Sk.arr 8, Sk.one, Sk.arr 64]], Sk.one, Sk.arr 32, Sk.one] ∧ 1 < 4) ∧ (1 ≠ 0 ∧ 1 = 1 ∧ false = false) ∧ (32 : Int) ≠ 0 ∧ True ∧ True ∧ True ∧ True ∧ (0 : Int) ≤ IntKind.u64.wrap (IntKind.i64.wrap ((56 : Int) - IntKind.i64.wrap ((8 : Int) * (↑x : Int)))) ∧ True ∧ ((0 : Int) ≤ (↑x : Int) ∧ (↑x : Int) < (↑(8 : Nat) : Int) ∧ 8 = 8 ∧ 1 = 1) ∧ (((↑x : Int).toNat < 8 ∧ ([] : List Nat) = [] ∧ true = true) ∧ 1 ≠ 0 ∧ 1 = 1 ∧ false = false) ∧ True ∧ True ∧ ((AV.d (D.val (.int .i64 (IntKind.i64.wrap ((↑x : Int) + (1 : Int))))) = AV.d (D.val (.int .i64 (↑(IntKind.i64.wrap ((↑x : Int) + (1 : Int))).toNat : Int))) ∧ True) ∧ (some (Blk.fix (D.arr .u8 8 ((be8N (s.p / 32) x).set (↑x : Int).toNat (IntKind.u8.wrap (ishr IntKind.u64 (IntKind.u64.wrap ((↑s.p : Int).tdiv (32 : Int))) (IntKind.u64.wrap (IntKind.i64.wrap ((56 : Int) - IntKind.i64.wrap ((8 : Int) * (↑x : Int)))))))))) = some (Blk.fix (D.arr .u8 8 (be8N (s.p / 32) (IntKind.i64.wrap ((↑x : Int) + (1 : Int))).toNat))) ∧ sm (some (Blk.fix (D.st [D.st [D.st [D.arr .u32 8 s.k.i.h.l, D.val (.int .u64 (↑s.k.i.n : Int)), D.arr .u8 64 s.k.i.l], D.st [D.arr .u32 8 s.k.o.h.l, D.val (.int .u64 (↑s.k.o.n : Int)), D.arr .u8 64 s.k.o.l]], D.val (.int .u64 (↑s.p : Int)), D.arr .u8 32 s.b, D.val (Value.bool s.m)]))) ∧ True) ∧ true = true) ∧ (IntKind.i64.wrap ((↑x : Int) + (1 : Int))).toNat ≤ 8 ∧ 8 - (IntKind.i64.wrap ((↑x : Int) + (1 : Int))).toNat < 8 - x
   | false => True ∧ True ∧ True ∧ True ∧ (Sk.st [Sk.st [Sk.st [Sk.arr 8, Sk.one, Sk.arr 64], Sk.st [Sk.arr 8, Sk.one, Sk.arr 64]], Sk.one, Sk.arr 32, Sk.one] = Sk.st [Sk.st [Sk.st [Sk.arr 8, Sk.one, Sk.arr 64], Sk.st [Sk.arr 8, Sk.one, Sk.arr 64]], Sk.one, Sk.arr 32, Sk.one] ∧ 0 < 4) ∧ (146 ≠ 0 ∧ 146 = 146 ∧ true = true) ∧ ((0 : Int) ≤ 0 ∧ (0 : Int) ≤ (↑(8 : Nat) : Int) ∧ (↑(8 : Nat) : Int) ≤ (↑(8 : Nat) : Int) ∧ 8 = 8 ∧ 1 = 1) ∧ (∃ (s_1 : MS), ∃ (p : List Int), [D.st [D.st [D.arr .u32 8 s.k.i.h.l, D.val (.int .u64 (↑s.k.i.n : Int)), D.arr .u8 64 s.k.i.l], D.st [D.arr .u32 8 s.k.o.h.l, D.val (.int .u64 (↑s.k.o.n : Int)), D.arr .u8 64 s.k.o.l]], D.ints .u8 (List.take ((↑(8 : Nat) : Int).toNat - Int.toNat (0 : Int)) (List.drop 0 (be8N (s.p / 32) x)))] = [D.st [D.st [D.arr .u32 8 s_1.i.h.l, D.val (.int .u64 (↑s_1.i.n : Int)), D.arr .u8 64 s_1.i.l], D.st [D.arr .u32 8 s_1.o.h.l, D.val (.int .u64 (↑s_1.o.n : Int)), D.arr .u8 64 s_1.o.l]], D.ints .u8 p] ∧ okM s_1 ∧ isB p) ∧ (∃ (s_1 : MS), [D.st [D.st [D.arr .u32 8 (mWr (ofM (D.st [D.st [D.arr .u32 8 s.k.i.h.l, D.val (.int .u64 (↑s.k.i.n : Int)), D.arr .u8 64 s.k.i.l], D.st [D.arr .u32 8 s.k.o.h.l, D.val (.int .u64 (↑s.k.o.n : Int)), D.arr .u8 64 s.k.o.l]])) (List.take ((↑(8 : Nat) : Int).toNat - Int.toNat (0 : Int)) (List.drop 0 (be8N (s.p / 32) x)))).i.h.l, D.val (Value.int IntKind.u64 (↑(mWr (ofM (D.st [D.st [D.arr .u32 8 s.k.i.h.l, D.val (.int .u64 (↑s.k.i.n : Int)), D.arr .u8 64 s.k.i.l], D.st [D.arr .u32 8 s.k.o.h.l, D.val (.int .u64 (↑s.k.o.n : Int)), D.arr .u8 64 s.k.o.l]])) (List.take ((↑(8 : Nat) : Int).toNat - Int.toNat (0 : Int)) (List.drop 0 (be8N (s.p / 32) x)))).i.n : Int)), D.arr .u8 64 (mWr (ofM (D.st [D.st [D.arr .u32 8 s.k.i.h.l, D.val (.int .u64 (↑s.k.i.n : Int)), D.arr .u8 64 s.k.i.l], D.st [D.arr .u32 8 s.k.o.h.l, D.val (.int .u64 (↑s.k.o.n : Int)), D.arr .u8 64 s.k.o.l]])) (List.take ((↑(8 : Nat) : Int).toNat - Int.toNat (0 : Int)) (List.drop 0 (be8N (s.p / 32) x)))).i.l], D.st [D.arr .u32 8 (mWr (ofM (D.st [D.st [D.arr .u32 8 s.k.i.h.l, D.val (.int .u64 (↑s.k.i.n : Int)), D.arr .u8 64 s.k.i.l], D.st [D.arr .u32 8 s.k.o.h.l, D.val (.int .u64 (↑s.k.o.n : Int)), D.arr .u8 64 s.k.o.l]])) (List.take ((↑(8 : Nat) : Int).toNat - Int.toNat (0 : Int)) (List.drop 0 (be8N (s.p / 32) x)))).o.h.l, D.val (Value.int IntKind.u64 (↑(mWr (ofM (D.st [D.st [D.arr .u32 8 s.k.i.h.l, D.val (.int .u64 (↑s.k.i.n : Int)), D.arr .u8 64 s.k.i.l], D.st [D.arr .u32 8 s.k.o.h.l, D.val (.int .u64 (↑s.k.o.n : Int)), D.arr .u8 64 s.k.o.l]])) (List.take ((↑(8 : Nat) : Int).toNat - Int.toNat (0 : Int)) (List.drop 0 (be8N (s.p / 32) x)))).o.n : Int)), D.arr .u8 64 (mWr (ofM (D.st [D.st [D.arr .u32 8 s.k.i.h.l, D.val (.int .u64 (↑s.k.i.n : Int)), D.arr .u8 64 s.k.i.l], D.st [D.arr .u32 8 s.k.o.h.l, D.val (.int .u64 (↑s.k.o.n : Int)), D.arr .u8 64 s.k.o.l]])) (List.take ((↑(8 : Nat) : Int).toNat - Int.toNat (0 : Int)) (List.drop 0 (be8N (s.p / 32) x)))).o.l]]] = [D.st [D.st [D.arr .u32 8 s_1.i.h.l, D.val (.int .u64 (↑s_1.i.n : Int)), D.arr .u8 64 s_1.i.l], D.st [D.arr .u32 8 s_1.o.h.l, D.val (.int .u64 (↑s_1.o.n : Int)), D.arr .u8 64 s_1.o.l]]] ∧
    okM s_1) ∧ True ∧ (Sk.st [Sk.st [Sk.st [Sk.arr 8, Sk.one, Sk.arr 64], Sk.st [Sk.arr 8, Sk.one, Sk.arr 64]], Sk.one, Sk.arr 32, Sk.one] = Sk.st [Sk.st [Sk.st [Sk.arr 8, Sk.one, Sk.arr 64], Sk.st [Sk.arr 8, Sk.one, Sk.arr 64]], Sk.one, Sk.arr 32, Sk.one] ∧ 2 < 4) ∧ ((2 < 4 ∧ Sk.arr 32 = Sk.arr 32) ∧ 32 ≠ 0 ∧ 32 = 32 ∧ false = false) ∧ True ∧ (Sk.st [Sk.st [Sk.st [Sk.arr 8, Sk.one, Sk.arr 64], Sk.st [Sk.arr 8, Sk.one, Sk.arr 64]], Sk.one, Sk.arr 32, Sk.one] = Sk.st [Sk.st [Sk.st [Sk.arr 8, Sk.one, Sk.arr 64], Sk.st [Sk.arr 8, Sk.one, Sk.arr 64]], Sk.one, Sk.arr 32, Sk.one] ∧ 3 < 4) ∧ ((3 < 4 ∧ Sk.one = Sk.one) ∧ 1 ≠ 0 ∧ 1 = 1 ∧ false = false) ∧ (True ∧ (some (Blk.fix (D.st [D.st [D.st [D.arr .u32 8 s.k.i.h.l, D.val (.int .u64 (↑s.k.i.n : Int)), D.arr .u8 64 s.k.i.l], D.st [D.arr .u32 8 s.k.o.h.l, D.val (.int .u64 (↑s.k.o.n : Int)), D.arr .u8 64 s.k.o.l]], D.val (.int .u64 (↑s.p : Int)), D.arr .u8 32 (mSum (ofM (D.st [D.st [D.arr .u32 8 (mWr (ofM (D.st [D.st [D.arr .u32 8 s.k.i.h.l, D.val (.int .u64 (↑s.k.i.n : Int)), D.arr .u8 64 s.k.i.l], D.st [D.arr .u32 8 s.k.o.h.l, D.val (.int .u64 (↑s.k.o.n : Int)), D.arr .u8 64 s.k.o.l]])) (List.take ((↑(8 : Nat) : Int).toNat - Int.toNat (0 : Int)) (List.drop 0 (be8N (s.p / 32) x)))).i.h.l, D.val (Value.int IntKind.u64 (↑(mWr (ofM (D.st [D.st [D.arr .u32 8 s.k.i.h.l, D.val (.int .u64 (↑s.k.i.n : Int)), D.arr .u8 64 s.k.i.l], D.st [D.arr .u32 8 s.k.o.h.l, D.val (.int .u64 (↑s.k.o.n : Int)), D.arr .u8 64 s.k.o.l]])) (List.take ((↑(8 : Nat) : Int).toNat - Int.toNat (0 : Int)) (List.drop 0 (be8N (s.p / 32) x)))).i.n : Int)), D.arr .u8 64 (mWr (ofM (D.st [D.st [D.arr .u32 8 s.k.i.h.l, D.val (.int .u64 (↑s.k.i.n : Int)), D.arr .u8 64 s.k.i.l], D.st [D.arr .u32 8 s.k.o.h.l, D.val (.int .u64 (↑s.k.o.n : Int)), D.arr .u8 64 s.k.o.l]])) (List.take ((↑(8 : Nat) : Int).toNat - Int.toNat (0 : Int)) (List.drop 0 (be8N (s.p / 32) x)))).i.l], D.st [D.arr .u32 8 (mWr (ofM (D.st [D.st [D.arr .u32 8 s.k.i.h.l, D.val (.int .u64 (↑s.k.i.n : Int)), D.arr .u8 64 s.k.i.l], D.st [D.arr .u32 8 s.k.o.h.l, D.val (.int .u64 (↑s.k.o.n : Int)), D.arr .u8 64 s.k.o.l]])) (List.take ((↑(8 : Nat) : Int).toNat - Int.toNat (0 : Int)) (List.drop 0 (be8N (s.p / 32) x)))).o.h.l, D.val (Value.int IntKind.u64 (↑(mWr (ofM (D.st [D.st [D.arr .u32 8 s.k.i.h.l, D.val (.int .u64 (↑s.k.i.n : Int)), D.arr .u8 64 s.k.i.l], D.st [D.arr .u32 8 s.k.o.h.l, D.val (.int .u64 (↑s.k.o.n : Int)), D.arr .u8 64 s.k.o.l]])) (List.take ((↑(8 : Nat) : Int).toNat - Int.toNat (0 : Int)) (List.drop 0 (be8N (s.p / 32) x)))).o.n : Int)), D.arr .u8 64 (mWr (ofM (D.st [D.st [D.arr .u32 8 s.k.i.h.l, D.val (.int .u64 (↑s.k.i.n : Int)), D.arr .u8 64 s.k.i.l], D.st [D.arr .u32 8 s.k.o.h.l, D.val (.int .u64 (↑s.k.o.n : Int)), D.arr .u8 64 s.k.o.l]])) (List.take ((↑(8 : Nat) : Int).toNat - Int.toNat (0 : Int)) (List.drop 0 (be8N (s.p / 32) x)))).o.l]]))), D.val (Value.bool true)])) = some (Blk.fix (D.st [D.st [D.st [D.arr .u32 8 s.k.i.h.l, D.val (.int .u64 (↑s.k.i.n : Int)), D.arr .u8 64 s.k.i.l], D.st [D.arr .u32 8 s.k.o.h.l, D.val (.int .u64 (↑s.k.o.n : Int)), D.arr .u8 64 s.k.o.l]],
    D.val (.int .u64 (↑s.p : Int)), D.arr .u8 32 (nxB s), D.val (Value.bool true)])) ∧ True) ∧ true = true) ∧ True
  | false => (True ∧ (some (Blk.fix (D.st [D.st [D.st [D.arr .u32 8 s.k.i.h.l, D.val (.int .u64 (↑s.k.i.n : Int)), D.arr .u8 64 s.k.i.l], D.st [D.arr .u32 8 s.k.o.h.l, D.val (.int .u64 (↑s.k.o.n : Int)), D.arr .u8 64 s.k.o.l]], D.val (.int .u64 (↑s.p : Int)), D.arr .u8 32 s.b, D.val (Value.bool s.m)])) = some (Blk.fix (D.st [D.st [D.st [D.arr .u32 8 s.k.i.h.l, D.val (.int .u64 (↑s.k.i.n : Int)), D.arr .u8 64 s.k.i.l], D.st [D.arr .u32 8 s.k.o.h.l, D.val (.int .u64 (↑s.k.o.n : Int)), D.arr .u8 64 s.k.o.l]], D.val (.int .u64 (↑s.p : Int)), D.arr .u8 32 (nxB s), D.val (Value.bool true)])) ∧ True) ∧ true = true) ∧ True) ∧ ∀ (z : Nat), True → true = true ∧ True ∧ True ∧ True ∧ (Sk.st [Sk.st [Sk.st [Sk.arr 8, Sk.one, Sk.arr 64], Sk.st [Sk.arr 8, Sk.one, Sk.arr 64]], Sk.one, Sk.arr 32, Sk.one] = Sk.st [Sk.st [Sk.st [Sk.arr 8, Sk.one, Sk.arr 64], Sk.st [Sk.arr 8, Sk.one, Sk.arr 64]], Sk.one, Sk.arr 32, Sk.one] ∧ 1 < 4) ∧ (1 ≠ 0 ∧ 1 = 1 ∧ false = false) ∧ (32 : Int) ≠ 0 ∧ True ∧ (Sk.st [Sk.st [Sk.st [Sk.arr 8, Sk.one, Sk.arr 64], Sk.st [Sk.arr 8, Sk.one, Sk.arr 64]], Sk.one, Sk.arr 32, Sk.one] = Sk.st [Sk.st [Sk.st [Sk.arr 8, Sk.one, Sk.arr 64], Sk.st [Sk.arr 8, Sk.one, Sk.arr 64]], Sk.one, Sk.arr 32, Sk.one] ∧ 2 < 4) ∧ ((0 : Int) ≤ (↑s.p : Int).tmod (32 : Int) ∧ (↑s.p : Int).tmod (32 : Int) < (↑(32 : Nat) : Int) ∧ 32 = 32 ∧ 1 = 1) ∧ (1 ≠ 0 ∧ 1 = 1 ∧ false = false) ∧ True ∧ True ∧ True ∧ (Sk.st [Sk.st [Sk.st [Sk.arr 8, Sk.one, Sk.arr 64], Sk.st [Sk.arr 8, Sk.one, Sk.arr 64]], Sk.one, Sk.arr 32, Sk.one] = Sk.st [Sk.st [Sk.st [Sk.arr 8, Sk.one, Sk.arr 64], Sk.st [Sk.arr 8, Sk.one, Sk.arr 64]], Sk.one, Sk.arr 32, Sk.one] ∧ 1 < 4) ∧ (1 ≠ 0 ∧ 1 = 1 ∧ false = false) ∧ True ∧ True ∧ (Sk.st [Sk.st [Sk.st [Sk.arr 8, Sk.one, Sk.arr 64], Sk.st [Sk.arr 8, Sk.one, Sk.arr 64]], Sk.one, Sk.arr 32, Sk.one] = Sk.st [Sk.st [Sk.st [Sk.arr 8, Sk.one, Sk.arr 64], Sk.st [Sk.arr 8, Sk.one, Sk.arr 64]], Sk.one, Sk.arr 32, Sk.one] ∧ 1 < 4) ∧ ((1 < 4 ∧ Sk.one = Sk.one) ∧ 1 ≠ 0 ∧ 1 = 1 ∧ false = false) ∧ True ∧ True ∧ (false = false ∧ True) ∧ Sk.st [Sk.st [Sk.st [Sk.arr 8, Sk.one, Sk.arr 64], Sk.st [Sk.arr 8, Sk.one, Sk.arr 64]], Sk.one, Sk.arr 32, Sk.one] = Sk.st [Sk.st [Sk.st [Sk.arr 8, Sk.one, Sk.arr 64], Sk.st [Sk.arr 8, Sk.one, Sk.arr 64]], Sk.one, Sk.arr 32, Sk.one] ∧ D.tup [D.val (.int .u8 ((nxB s).getD ((↑s.p : Int).tmod (32 : Int)).toNat (0 : Int))), D.st [D.st [D.st [D.arr .u32 8 s.k.i.h.l, D.val (.int .u64 (↑s.k.i.n : Int)), D.arr .u8 64 s.k.i.l], D.st [D.arr .u32 8 s.k.o.h.l, D.val (.int .u64 (↑s.k.o.n : Int)), D.arr .u8 64 s.k.o.l]], D.val (.int .u64 (IntKind.u64.wrap ((↑s.p : Int) + (1 : Int)))), D.arr .u8 32 (nxB s), D.val (Value.bool true)]] = F) := by kernel_rfl
end Go.Proofs.YtkicjckhkefnpaaDoor
namespace Go.Proofs.YtkicjckhkefnpaaDoor
open Go Go.Vg
theorem srOf_eq (s : SR) : srOf (stR s) = s := by
 show SR.mk (ofM (stM s.k)) (s.p : Int).toNat s.b s.m = s
 rw [ofM_eq, Int.toNat_natCast]
theorem srOf' (s : SR) : srOf (D.st [D.st [D.st [D.arr .u32 8 s.k.i.h.l, D.val (.int .u64 (s.k.i.n : Int)), D.arr .u8 64 s.k.i.l], D.st [D.arr .u32 8 s.k.o.h.l, D.val (.int .u64 (s.k.o.n : Int)), D.arr .u8 64 s.k.o.l]], D.val (.int .u64 (s.p : Int)), D.arr .u8 32 s.b, D.val (.bool s.m)]) = s := srOf_eq s
theorem be8N_len (q i : Nat) (h : i ≤ 8) : (be8N q i).length = 8 := by
 unfold be8N
 rw [List.length_append, List.length_map, List.length_range, List.length_replicate]
 omega
theorem be8_len (q : Nat) : (be8 q).length = 8 := by unfold be8; simp
theorem be8_bytes (q : Nat) : isBytes (be8 q) := by
 intro x hx
 unfold be8 at hx
 obtain ⟨i, _, rfl⟩ := List.mem_map.1 hx
 unfold bE
 omega
theorem be8_B (q : Nat) : isB (be8 q) := ⟨be8_bytes q, by rw [be8_len]; omega⟩
theorem be8N_zero (q : Nat) : be8N q 0 = List.replicate 8 0 := rfl
theorem be8N_end (q : Nat) : be8N q 8 = be8 q := by unfold be8N be8; simp
theorem be8N_set (q i : Nat) (h : i < 8) : (be8N q i).set i (bE q i) = be8N q (i + 1) := by
 unfold be8N
 have e : ((List.range i).map (bE q)).length = i := by simp
 rw [List.set_append_right _ _ (by omega), e, Nat.sub_self, show 8 - i = (8 - (i + 1)) + 1 by omega, List.replicate_succ, List.set_cons_zero, List.range_succ, List.map_append, List.append_assoc]
 rfl
theorem bE_eq (p : Nat) (hp : p < 18446744073709551616) {x : Nat} (hx : x < 8) :
  IntKind.u8.wrap (ishr .u64 (IntKind.u64.wrap ((p : Int).tdiv 32)) (IntKind.u64.wrap (IntKind.i64.wrap (56 - IntKind.i64.wrap (8 * (x : Int)))))) = bE (p / 32) x := by
 have e1 : IntKind.u64.wrap ((p : Int).tdiv 32) = ((p / 32 : Nat) : Int) := by
  rw [show (32 : Int) = ((32 : Nat) : Int) from rfl, tdivN, wN64, Nat.mod_eq_of_lt (by omega)]
 have e2 : IntKind.i64.wrap (8 * (x : Int)) = 8 * (x : Int) := wi (by omega) (by omega)
 have e3 : IntKind.i64.wrap (56 - 8 * (x : Int)) = ((56 - 8 * x : Nat) : Int) := by rw [wi (by omega) (by omega)]; omega
 rw [e1, e2, e3, wN64, Nat.mod_eq_of_lt (by omega), ishrN .u64 (show 56 - 8 * x ≤ 64 by omega), wN8]
 rfl
theorem mSum_len (s : MS) : (mSum s).length = 32 := sumL_len _
theorem mSum_bytes (s : MS) : isBytes (mSum s) := sumL_bytes _
theorem nxB_len {s : SR} (h : okR s) : (nxB s).length = 32 := by
 unfold nxB blkS
 split
 ·exact mSum_len _
 ·exact h.2.2.2
theorem nxB_bytes {s : SR} (h : okR s) : isBytes (nxB s) := by
 unfold nxB blkS
 split
 ·exact mSum_bytes _
 ·exact h.2.2.1
theorem nxS_ok {s : SR} (h : okR s) : okR (nxS s) := ⟨h.1, Nat.mod_lt _ (by decide), nxB_bytes h, nxB_len h⟩
theorem itS_ok {s : SR} (h : okR s) : ∀ n, okR (itS s n)
 | 0 => h
 | n + 1 => nxS_ok (itS_ok h n)
set_option maxRecDepth 100000 in
theorem m92 : MeetsQ Tryd.prog 92 sp92 := by
 refine meetsNew_of_owed (C := c92) ⟨tab_ok, lkS_ok ⟨m82, trivial⟩⟩ (by kernel_rfl) (by kernel_rfl : Tryd.prog.funcs[92]? = some Tryd.f92) (by kernel_rfl) (by kernel_rfl) (by kernel_rfl) _ ⟨by kernel_rfl, by kernel_rfl, by kernel_rfl, by kernel_rfl⟩ ?_
 rintro _ ⟨k, p, rfl, hk⟩
 refine ⟨fun _ => none, ?_⟩
 show owedNew c92 (fun _ => none) Tryd.f92 [.ints .u8 k, u64 p] (.tup [stR (sr0 k (p : Int).toNat)])
 rw [vc92, Int.toNat_natCast]
 simp (decide := true) only [eq_self, true_and, and_true, ne_eq, not_false_eq_true]
 exact ⟨⟨k, rfl, hk⟩, rfl⟩
set_option maxRecDepth 100000 in
theorem m40 : MeetsQ Tryd.prog 40 sp40 := by
 refine meetsNew_of_owed (C := c40) ⟨tab_ok, lkS_ok ⟨m92, trivial⟩⟩ (by kernel_rfl) (by kernel_rfl : Tryd.prog.funcs[40]? = some Tryd.f40) (by kernel_rfl) (by kernel_rfl) (by kernel_rfl) _ ⟨by kernel_rfl, by kernel_rfl, by kernel_rfl, by kernel_rfl⟩ ?_
 rintro _ ⟨k, rfl, hk⟩
 refine ⟨fun _ => none, ?_⟩
 show owedNew c40 (fun _ => none) Tryd.f40 [.ints .u8 k] (.tup [stR (sr0 k 0)])
 rw [vc40]
 simp (decide := true) only [eq_self, true_and, and_true, ne_eq, not_false_eq_true]
 exact ⟨⟨k, 0, rfl, hk⟩, rfl⟩
set_option maxRecDepth 100000 in
theorem m95 : MeetsQ Tryd.prog 95 sp95 := by
 refine meetsIo_of_owed (C := c95) ⟨tab_ok, lkS_ok ⟨m83, m84, trivial⟩⟩ (by kernel_rfl) (by kernel_rfl : Tryd.prog.funcs[95]? = some Tryd.f95) (by kernel_rfl) (by kernel_rfl) (by kernel_rfl) _ ⟨by kernel_rfl, by kernel_rfl, by kernel_rfl⟩ ?_
 rintro x ds ⟨s, he, hs⟩
 obtain ⟨rfl, rfl⟩ := List.cons.inj he
 refine ⟨inv95 s, ?_⟩
 show owedIo c95 (inv95 s) Tryd.f95 (stR s) [] (.tup [u8 (nxV (srOf (stR s))), stR (nxS (srOf (stR s)))])
 rw [vc95, srOf_eq]
 have hp := hs.2.1
 have e32 : (s.p : Int).tmod 32 = ((s.p % 32 : Nat) : Int) := by rw [show (32 : Int) = ((32 : Nat) : Int) from rfl, tmodN]
 have t8 : ∀ i, i ≤ 8 → List.take 8 (be8N (s.p / 32) i) = be8N (s.p / 32) i := fun i h => List.take_of_length_le (by rw [be8N_len _ _ h]; omega)
 simp (decide := true) only [e32, Int.toNat_natCast, be8N_zero, ofM', srOf', List.drop_zero, show Int.toNat 8 = 8 from rfl, show Int.toNat 0 = 0 from rfl, Nat.sub_zero, sm, eq_self, true_and, and_true, ne_eq, not_false_eq_true]
 have ew : IntKind.u64.wrap ((s.p : Int) + 1) = (((s.p + 1) % 18446744073709551616 : Nat) : Int) := by
  rw [show (s.p : Int) + 1 = ((s.p + 1 : Nat) : Int) by omega, wN64]
 split
 ·rename_i h
  have h : s.p % 32 = 0 := by have := of_decide_eq_true h; omega
  have hB : nxB s = blkS s.k (s.p / 32) := by unfold nxB; rw [if_pos (.inl h)]
  refine ⟨?_, fun _ _ => ⟨⟨by omega, by omega⟩, by rw [ew]; rfl⟩⟩
  refine ⟨⟨rfl, rfl⟩, fun x hx => ?_⟩
  split
  ·rename_i h
   have h : x < 8 := by have := of_decide_eq_true h; omega
   have e1 : IntKind.i64.wrap ((x : Int) + 1) = ((x + 1 : Nat) : Int) := by rw [wi (by omega) (by omega)]; omega
   simp only [bE_eq s.p hp h, be8N_set _ _ h, e1, Int.toNat_natCast]
   refine ⟨by rw [w64]; omega, ⟨by omega, by omega⟩, h, by and_intros <;> first | trivial | rfl, by omega, by omega⟩
  ·rename_i h
   have h := of_decide_eq_false h
   obtain rfl : x = 8 := by omega
   rw [t8 8 (Nat.le_refl 8), be8N_end]
   refine ⟨⟨s.k, _, rfl, hs.1, be8_B _⟩, ⟨_, rfl, mWr_ok hs.1 (be8_bytes _)⟩, ?_⟩
   rw [hB]
   rfl
 ·rename_i h
  have h : ¬ s.p % 32 = 0 := by have := of_decide_eq_false h; omega
  refine ⟨?_, fun _ _ => ⟨⟨by omega, by omega⟩, by rw [ew]; rfl⟩⟩
  split
  ·rename_i h2
   have hB : nxB s = blkS s.k (s.p / 32) := by unfold nxB; rw [if_pos (.inr (by simpa using h2))]
   refine ⟨⟨rfl, rfl⟩, fun x hx => ?_⟩
   split
   ·rename_i h
    have h : x < 8 := by have := of_decide_eq_true h; omega
    have e1 : IntKind.i64.wrap ((x : Int) + 1) = ((x + 1 : Nat) : Int) := by rw [wi (by omega) (by omega)]; omega
    simp only [bE_eq s.p hp h, be8N_set _ _ h, e1, Int.toNat_natCast]
    refine ⟨by rw [w64]; omega, ⟨by omega, by omega⟩, h, by and_intros <;> first | trivial | rfl, by omega, by omega⟩
   ·rename_i h
    have h := of_decide_eq_false h
    obtain rfl : x = 8 := by omega
    rw [t8 8 (Nat.le_refl 8), be8N_end]
    refine ⟨⟨s.k, _, rfl, hs.1, be8_B _⟩, ⟨_, rfl, mWr_ok hs.1 (be8_bytes _)⟩, ?_⟩
    rw [hB]
    rfl
  ·rename_i h2
   have h2 : s.m = true := by simpa using h2
   have hB : nxB s = s.b := by unfold nxB; rw [if_neg (by rw [h2]; simp [h])]
   rw [hB, h2]
end Go.Proofs.YtkicjckhkefnpaaDoor
namespace Go.Proofs.YtkicjckhkefnpaaDoor
open Go Go.Vg
theorem itV_len (s : SR) (n : Nat) : (itV s n).length = n := by unfold itV; simp
theorem itV_succ (s : SR) (n : Nat) : itV s (n + 1) = itV s n ++ [nxV (itS s n)] := by
 unfold itV
 rw [List.range_succ, List.map_append]
 rfl
def stQ (s : SR) : D := stR s
def sp95q : Go.Vg.Spec := ⟨fun ds => ∃ s, ds = [stQ s] ∧ okR s, fun ds => .tup [u8 (nxV (srOf (ds.headD default))), stQ (nxS (srOf (ds.headD default)))], true, [9000000]⟩
theorem sp95_q : sp95q = sp95 := rfl
set_option maxRecDepth 100000 in
theorem m95q : MeetsQ Tryd.prog 95 sp95q := (congrArg (MeetsQ Tryd.prog 95) sp95_q).mpr m95
theorem srOq (s : SR) : srOf (stQ s) = s := srOf_eq s
def plcB (k : List Int) (p : Nat) : Int := (mkL k (be8 (p / 32))).getD (p % 32) 0
def drwL (k : List Int) (p n : Nat) : List Int := (List.range n).map fun i => plcB k ((p + i) % 18446744073709551616)
def sp46 : Go.Vg.Spec := ⟨fun ds => ∃ k, ∃ p : Nat, ∃ n : Nat, ds = [.str k, u64 p, i64 n] ∧ isB k ∧ p < 18446744073709551616 ∧ n ≤ 1000000, fun ds => .str (drwL (strOf (ds.headD default)) (numOf (ds.getD 1 default)).toNat (numOf (ds.getD 2 default)).toNat), true, [9, 73, 3]⟩
def c46 : Ctx := ⟨tab, lkS [(79, sp79)], [], []⟩
def lastQ (p i : Nat) : Nat := if i = 0 then 0 else ((p + (i - 1)) % 18446744073709551616) / 32
def lastD (k : List Int) (p i : Nat) : List Int := if i = 0 then List.replicate 32 0 else mkL k (be8 (lastQ p i))
def inv46 (k : List Int) (p n : Nat) : Nat → Option Inv
 | 5 => some ⟨Nat, fun i => [(16, .d (i64 i)), (7, .d (.str (drwL k p i))), (8, .d (u64 (lastQ p i)))], fun i => [(9, .fix (.arr .u8 32 (lastD k p i)))], fun t => (slotN t 16).toNat, fun _ i => i ≤ n, fun i => n - i⟩
 | 13 => some ⟨Nat × Nat, fun x => [(33, .d (i64 (x.1 : Int))), (13, .d (.str ((be8 x.2).take x.1)))], fun _ => [], fun t => ((slotN t 33).toNat, (slotN t 12).toNat), fun s x => x.1 ≤ 8 ∧ (x.2 : Int) = slotN s 12, fun x => 8 - x.1⟩
 | 100010 => some ⟨Nat, fun q => [(8, .d (u64 q))], fun q => [(9, .fix (.arr .u8 32 (mkL k (be8 q))))], fun t => (slotN t 8).toNat, fun s q => (q : Int) = slotN s 12, fun _ => 0⟩
 | _ => none
set_option maxRecDepth 100000 in
theorem vc46  (k : List Int) (p n : Nat) (F : D)  :
    (owed c46 (inv46 k p n) Tryd.f46 [.str k, u64 p, i64 n] F) = (
 True ∧ True ∧ True ∧ (True ∧ 32 ≠ 0) ∧ True ∧ True ∧ (((AV.d (D.val (.int .i64 0)) = AV.d (D.val (.int .i64 (↑(Int.toNat (0 : Int)) : Int))) ∧ AV.d (D.str (ints { data := { toList := [] } })) = AV.d (D.str (drwL k p (Int.toNat (0 : Int)))) ∧ AV.d (D.val (.int .u64 0)) = AV.d (D.val (.int .u64 (↑(lastQ p (Int.toNat (0 : Int))) : Int))) ∧ True) ∧ (some (Blk.fix (D.arr .u8 32 [(0 : Int), (0 : Int), (0 : Int), (0 : Int), (0 : Int), (0 : Int), (0 : Int), (0 : Int), (0 : Int), (0 : Int), (0 : Int), (0 : Int), (0 : Int), (0 : Int), (0 : Int), (0 : Int), (0 : Int), (0 : Int), (0 : Int), (0 : Int), (0 : Int), (0 : Int), (0 : Int), (0 : Int), (0 : Int), (0 : Int), (0 : Int), (0 : Int), (0 : Int), (0 : Int), (0 : Int), (0 : Int)])) = some (Blk.fix (D.arr .u8 32 (lastD k p (Int.toNat (0 : Int))))) ∧ True) ∧ true = true) ∧ Int.toNat (0 : Int) ≤ n) ∧ ∀ (x : Nat), x ≤ n → true = true ∧ True ∧ match decide ((↑x : Int) < (↑n : Int)) with
 | true => True ∧ True ∧ True ∧ True ∧ True ∧ True ∧ True ∧ True ∧ (32 : Int) ≠ 0 ∧ True ∧ True ∧ True ∧ True ∧ match (↑x : Int) == (0 : Int) with
  | true => True ∧ (True ∧ True ∧ True ∧ True ∧ (((AV.d (D.val (.int .i64 0)) = AV.d (D.val (.int .i64 (↑(0 : Nat) : Int))) ∧ AV.d (D.str (ints { data := { toList := [] } })) = AV.d (D.str (List.take 0 (be8 (IntKind.u64.wrap ((IntKind.u64.wrap ((↑p : Int) + IntKind.u64.wrap (↑x : Int))).tdiv (32 : Int))).toNat))) ∧ True) ∧ (sm (some (Blk.fix (D.arr .u8 32 (lastD k p x)))) ∧ True) ∧ true = true) ∧ 0 ≤ 8 ∧ (↑(IntKind.u64.wrap ((IntKind.u64.wrap ((↑p : Int) + IntKind.u64.wrap (↑x : Int))).tdiv (32 : Int))).toNat : Int) = IntKind.u64.wrap ((IntKind.u64.wrap ((↑p : Int) + IntKind.u64.wrap (↑x : Int))).tdiv (32 : Int))) ∧ ∀ (x_1 : Nat × Nat), x_1.fst ≤ 8 ∧ (↑x_1.snd : Int) = IntKind.u64.wrap ((IntKind.u64.wrap ((↑p : Int) + IntKind.u64.wrap (↑x : Int))).tdiv (32 : Int)) → true = true ∧ True ∧ match decide ((↑x_1.fst : Int) < (8 : Int)) with
   | true => True ∧ True ∧ True ∧ True ∧ True ∧ True ∧ True ∧ (0 : Int) ≤ IntKind.i64.wrap ((56 : Int) - IntKind.i64.wrap ((8 : Int) * (↑x_1.fst : Int))) ∧ True ∧ (1 = 1 ∧ 1 ≤ 4096) ∧ isBytes [IntKind.u8.wrap (ishr IntKind.u64 (IntKind.u64.wrap ((IntKind.u64.wrap ((↑p : Int) + IntKind.u64.wrap (↑x : Int))).tdiv (32 : Int))) (IntKind.i64.wrap ((56 : Int) - IntKind.i64.wrap ((8 : Int) * (↑x_1.fst : Int)))))] ∧ (↑((List.take x_1.fst (be8 x_1.snd)).length + 1) : Int) ≤ (9223372036854775807 : Int) ∧ True ∧ True ∧ True ∧ ((AV.d (D.val (.int .i64 (IntKind.i64.wrap ((↑x_1.fst : Int) + (1 : Int))))) = AV.d (D.val (.int .i64 (↑(IntKind.i64.wrap ((↑x_1.fst : Int) + (1 : Int))).toNat : Int))) ∧ AV.d (D.str (List.take x_1.fst (be8 x_1.snd) ++ [IntKind.u8.wrap (ishr IntKind.u64 (IntKind.u64.wrap ((IntKind.u64.wrap ((↑p : Int) + IntKind.u64.wrap (↑x : Int))).tdiv (32 : Int))) (IntKind.i64.wrap ((56 : Int) - IntKind.i64.wrap ((8 : Int) * (↑x_1.fst : Int)))))])) = AV.d (D.str (List.take (IntKind.i64.wrap ((↑x_1.fst : Int) + (1 : Int))).toNat (be8 (IntKind.u64.wrap ((IntKind.u64.wrap ((↑p : Int) + IntKind.u64.wrap (↑x : Int))).tdiv (32 : Int))).toNat))) ∧ True) ∧ (sm (some (Blk.fix (D.arr .u8 32 (lastD k p x)))) ∧ True) ∧ true = true) ∧ ((IntKind.i64.wrap ((↑x_1.fst : Int) + (1 : Int))).toNat ≤ 8 ∧ (↑(IntKind.u64.wrap ((IntKind.u64.wrap ((↑p : Int) + IntKind.u64.wrap (↑x : Int))).tdiv (32 : Int))).toNat : Int) = IntKind.u64.wrap ((IntKind.u64.wrap ((↑p : Int) + IntKind.u64.wrap (↑x : Int))).tdiv (32 : Int))) ∧ 8 - (IntKind.i64.wrap ((↑x_1.fst : Int) + (1 : Int))).toNat < 8 - x_1.fst
   | false => True ∧ True ∧ (∃ (k_1 : List Int), ∃ (p : List Int), [D.str k, D.str (List.take x_1.fst (be8 x_1.snd))] = [D.str k_1, D.str p] ∧ isB k_1 ∧ isBytes p ∧ p.length ≤ 500000000000000) ∧ (Sk.arr 32 = Sk.arr 32 ∧ 32 ≠ 0 ∧ 32 = 32 ∧ false = false) ∧ ((AV.d (D.val (.int .u64 (IntKind.u64.wrap ((IntKind.u64.wrap ((↑p : Int) + IntKind.u64.wrap (↑x : Int))).tdiv (32 : Int))))) = AV.d (D.val (.int .u64 (↑(IntKind.u64.wrap ((IntKind.u64.wrap ((↑p : Int) + IntKind.u64.wrap (↑x : Int))).tdiv (32 : Int))).toNat : Int))) ∧ True) ∧ (some (Blk.fix (D.arr .u8 32 (mkL k (List.take x_1.fst (be8 x_1.snd))))) = some (Blk.fix (D.arr .u8 32 (mkL k (be8 (IntKind.u64.wrap ((IntKind.u64.wrap ((↑p : Int) + IntKind.u64.wrap (↑x : Int))).tdiv (32 : Int))).toNat)))) ∧ True) ∧ true = true) ∧ (↑(IntKind.u64.wrap ((IntKind.u64.wrap ((↑p : Int) + IntKind.u64.wrap (↑x : Int))).tdiv (32 : Int))).toNat : Int) = IntKind.u64.wrap ((IntKind.u64.wrap ((↑p : Int) + IntKind.u64.wrap (↑x : Int))).tdiv (32 : Int))) ∧ ∀ (z : Nat), (↑z : Int) = IntKind.u64.wrap ((IntKind.u64.wrap ((↑p : Int) + IntKind.u64.wrap (↑x : Int))).tdiv (32 : Int)) → true = true ∧ True ∧ True ∧ (32 : Int) ≠ 0 ∧ True ∧ (32 : Int) ≠ 0 ∧ True ∧ ((0 : Int) ≤ (IntKind.u64.wrap ((↑p : Int) + IntKind.u64.wrap (↑x : Int))).tmod (32 : Int) ∧ (IntKind.u64.wrap ((↑p : Int) + IntKind.u64.wrap (↑x : Int))).tmod (32 : Int) ≤ IntKind.u64.wrap ((IntKind.u64.wrap ((↑p : Int) + IntKind.u64.wrap (↑x : Int))).tmod (32 : Int) + (1 : Int)) ∧ IntKind.u64.wrap ((IntKind.u64.wrap ((↑p : Int) + IntKind.u64.wrap (↑x : Int))).tmod (32 : Int) + (1 : Int)) ≤ (↑(32 : Nat) : Int) ∧ 32 = 32 ∧ 1 = 1) ∧ isBytes (List.take ((IntKind.u64.wrap ((IntKind.u64.wrap ((↑p : Int) + IntKind.u64.wrap (↑x : Int))).tmod (32 : Int) + (1 : Int))).toNat - ((IntKind.u64.wrap ((↑p : Int) + IntKind.u64.wrap (↑x : Int))).tmod (32 : Int)).toNat) (List.drop ((IntKind.u64.wrap ((↑p : Int) + IntKind.u64.wrap (↑x : Int))).tmod (32 : Int)).toNat (mkL k (be8 z)))) ∧ (↑((drwL k p x).length + (List.take ((IntKind.u64.wrap ((IntKind.u64.wrap ((↑p : Int) + IntKind.u64.wrap (↑x : Int))).tmod (32 : Int) + (1 : Int))).toNat - ((IntKind.u64.wrap ((↑p : Int) + IntKind.u64.wrap (↑x : Int))).tmod (32 : Int)).toNat) (List.drop ((IntKind.u64.wrap ((↑p : Int) + IntKind.u64.wrap (↑x : Int))).tmod (32 : Int)).toNat (mkL k (be8 z)))).length) : Int) ≤ (9223372036854775807 : Int) ∧ True ∧ True ∧ True ∧ ((AV.d (D.val (.int .i64 (IntKind.i64.wrap ((↑x : Int) + (1 : Int))))) = AV.d (D.val (.int .i64 (↑(IntKind.i64.wrap ((↑x : Int) + (1 : Int))).toNat : Int))) ∧ AV.d (D.str (drwL k p x ++ List.take ((IntKind.u64.wrap ((IntKind.u64.wrap ((↑p : Int) + IntKind.u64.wrap (↑x : Int))).tmod (32 : Int) + (1 : Int))).toNat - ((IntKind.u64.wrap ((↑p : Int) + IntKind.u64.wrap (↑x : Int))).tmod (32 : Int)).toNat) (List.drop ((IntKind.u64.wrap ((↑p : Int) + IntKind.u64.wrap (↑x : Int))).tmod (32 : Int)).toNat (mkL k (be8 z))))) = AV.d (D.str (drwL k p (IntKind.i64.wrap ((↑x : Int) + (1 : Int))).toNat)) ∧
   AV.d (D.val (.int .u64 (↑z : Int))) = AV.d (D.val (.int .u64 (↑(lastQ p (IntKind.i64.wrap ((↑x : Int) + (1 : Int))).toNat) : Int))) ∧ True) ∧ (some (Blk.fix (D.arr .u8 32 (mkL k (be8 z)))) = some (Blk.fix (D.arr .u8 32 (lastD k p (IntKind.i64.wrap ((↑x : Int) + (1 : Int))).toNat))) ∧ True) ∧ true = true) ∧ (IntKind.i64.wrap ((↑x : Int) + (1 : Int))).toNat ≤ n ∧ n - (IntKind.i64.wrap ((↑x : Int) + (1 : Int))).toNat < n - x
  | false => True ∧ True ∧ True ∧ True ∧ (match IntKind.u64.wrap ((IntKind.u64.wrap ((↑p : Int) + IntKind.u64.wrap (↑x : Int))).tdiv (32 : Int)) != (↑(lastQ p x) : Int) with
   | true => True ∧ True ∧ True ∧ True ∧ (((AV.d (D.val (.int .i64 0)) = AV.d (D.val (.int .i64 (↑(0 : Nat) : Int))) ∧ AV.d (D.str (ints { data := { toList := [] } })) = AV.d (D.str (List.take 0 (be8 (IntKind.u64.wrap ((IntKind.u64.wrap ((↑p : Int) + IntKind.u64.wrap (↑x : Int))).tdiv (32 : Int))).toNat))) ∧ True) ∧ (sm (some (Blk.fix (D.arr .u8 32 (lastD k p x)))) ∧ True) ∧ true = true) ∧ 0 ≤ 8 ∧ (↑(IntKind.u64.wrap ((IntKind.u64.wrap ((↑p : Int) + IntKind.u64.wrap (↑x : Int))).tdiv (32 : Int))).toNat : Int) = IntKind.u64.wrap ((IntKind.u64.wrap ((↑p : Int) + IntKind.u64.wrap (↑x : Int))).tdiv (32 : Int))) ∧ ∀ (x_1 : Nat × Nat), x_1.fst ≤ 8 ∧ (↑x_1.snd : Int) = IntKind.u64.wrap ((IntKind.u64.wrap ((↑p : Int) + IntKind.u64.wrap (↑x : Int))).tdiv (32 : Int)) → true = true ∧ True ∧ match decide ((↑x_1.fst : Int) < (8 : Int)) with
    | true => True ∧ True ∧ True ∧ True ∧ True ∧ True ∧ True ∧ (0 : Int) ≤ IntKind.i64.wrap ((56 : Int) - IntKind.i64.wrap ((8 : Int) * (↑x_1.fst : Int))) ∧ True ∧ (1 = 1 ∧ 1 ≤ 4096) ∧ isBytes [IntKind.u8.wrap (ishr IntKind.u64 (IntKind.u64.wrap ((IntKind.u64.wrap ((↑p : Int) + IntKind.u64.wrap (↑x : Int))).tdiv (32 : Int))) (IntKind.i64.wrap ((56 : Int) - IntKind.i64.wrap ((8 : Int) * (↑x_1.fst : Int)))))] ∧ (↑((List.take x_1.fst (be8 x_1.snd)).length + 1) : Int) ≤ (9223372036854775807 : Int) ∧ True ∧ True ∧ True ∧ ((AV.d (D.val (.int .i64 (IntKind.i64.wrap ((↑x_1.fst : Int) + (1 : Int))))) = AV.d (D.val (.int .i64 (↑(IntKind.i64.wrap ((↑x_1.fst : Int) + (1 : Int))).toNat : Int))) ∧ AV.d (D.str (List.take x_1.fst (be8 x_1.snd) ++ [IntKind.u8.wrap (ishr IntKind.u64 (IntKind.u64.wrap ((IntKind.u64.wrap ((↑p : Int) + IntKind.u64.wrap (↑x : Int))).tdiv (32 : Int))) (IntKind.i64.wrap ((56 : Int) - IntKind.i64.wrap ((8 : Int) * (↑x_1.fst : Int)))))])) = AV.d (D.str (List.take (IntKind.i64.wrap ((↑x_1.fst : Int) + (1 : Int))).toNat (be8 (IntKind.u64.wrap ((IntKind.u64.wrap ((↑p : Int) + IntKind.u64.wrap (↑x : Int))).tdiv (32 : Int))).toNat))) ∧ True) ∧ (sm (some (Blk.fix (D.arr .u8 32 (lastD k p x)))) ∧ True) ∧ true = true) ∧ ((IntKind.i64.wrap ((↑x_1.fst : Int) + (1 : Int))).toNat ≤ 8 ∧ (↑(IntKind.u64.wrap ((IntKind.u64.wrap ((↑p : Int) + IntKind.u64.wrap (↑x : Int))).tdiv (32 : Int))).toNat : Int) = IntKind.u64.wrap ((IntKind.u64.wrap ((↑p : Int) + IntKind.u64.wrap (↑x : Int))).tdiv (32 : Int))) ∧ 8 - (IntKind.i64.wrap ((↑x_1.fst : Int) + (1 : Int))).toNat < 8 - x_1.fst
    | false => True ∧ True ∧ (∃ (k_1 : List Int), ∃ (p : List Int), [D.str k, D.str (List.take x_1.fst (be8 x_1.snd))] = [D.str k_1, D.str p] ∧ isB k_1 ∧ isBytes p ∧ p.length ≤ 500000000000000) ∧ (Sk.arr 32 = Sk.arr 32 ∧ 32 ≠ 0 ∧ 32 = 32 ∧ false = false) ∧ ((AV.d (D.val (.int .u64 (IntKind.u64.wrap ((IntKind.u64.wrap ((↑p : Int) + IntKind.u64.wrap (↑x : Int))).tdiv (32 : Int))))) = AV.d (D.val (.int .u64 (↑(IntKind.u64.wrap ((IntKind.u64.wrap ((↑p : Int) + IntKind.u64.wrap (↑x : Int))).tdiv (32 : Int))).toNat : Int))) ∧ True) ∧ (some (Blk.fix (D.arr .u8 32 (mkL k (List.take x_1.fst (be8 x_1.snd))))) = some (Blk.fix (D.arr .u8 32 (mkL k (be8 (IntKind.u64.wrap ((IntKind.u64.wrap ((↑p : Int) + IntKind.u64.wrap (↑x : Int))).tdiv (32 : Int))).toNat)))) ∧ True) ∧ true = true) ∧ (↑(IntKind.u64.wrap ((IntKind.u64.wrap ((↑p : Int) + IntKind.u64.wrap (↑x : Int))).tdiv (32 : Int))).toNat : Int) = IntKind.u64.wrap ((IntKind.u64.wrap ((↑p : Int) + IntKind.u64.wrap (↑x : Int))).tdiv (32 : Int))
   | false => ((AV.d (D.val (.int .u64 (↑(lastQ p x) : Int))) = AV.d (D.val (.int .u64 (↑(↑(lastQ p x) : Int).toNat : Int))) ∧ True) ∧ (some (Blk.fix (D.arr .u8 32 (lastD k p x))) = some (Blk.fix (D.arr .u8 32 (mkL k (be8 (↑(lastQ p x) : Int).toNat)))) ∧ True) ∧ true = true) ∧ (↑(↑(lastQ p x) : Int).toNat : Int) = IntKind.u64.wrap ((IntKind.u64.wrap ((↑p : Int) + IntKind.u64.wrap (↑x : Int))).tdiv (32 : Int))) ∧ ∀ (z : Nat), (↑z : Int) = IntKind.u64.wrap ((IntKind.u64.wrap ((↑p : Int) + IntKind.u64.wrap (↑x : Int))).tdiv (32 : Int)) → true = true ∧ True ∧ True ∧ (32 : Int) ≠ 0 ∧ True ∧ (32 : Int) ≠ 0 ∧ True ∧ ((0 : Int) ≤ (IntKind.u64.wrap ((↑p : Int) + IntKind.u64.wrap (↑x : Int))).tmod (32 : Int) ∧ (IntKind.u64.wrap ((↑p : Int) + IntKind.u64.wrap (↑x : Int))).tmod (32 : Int) ≤ IntKind.u64.wrap ((IntKind.u64.wrap ((↑p : Int) + IntKind.u64.wrap (↑x : Int))).tmod (32 : Int) + (1 : Int)) ∧ IntKind.u64.wrap ((IntKind.u64.wrap ((↑p : Int) + IntKind.u64.wrap (↑x : Int))).tmod (32 : Int) + (1 : Int)) ≤ (↑(32 : Nat) : Int) ∧ 32 = 32 ∧ 1 = 1) ∧ isBytes (List.take ((IntKind.u64.wrap ((IntKind.u64.wrap ((↑p : Int) + IntKind.u64.wrap (↑x : Int))).tmod (32 : Int) + (1 : Int))).toNat - ((IntKind.u64.wrap ((↑p : Int) + IntKind.u64.wrap (↑x : Int))).tmod (32 : Int)).toNat) (List.drop ((IntKind.u64.wrap ((↑p : Int) + IntKind.u64.wrap (↑x : Int))).tmod (32 : Int)).toNat (mkL k (be8 z)))) ∧ (↑((drwL k p x).length + (List.take ((IntKind.u64.wrap ((IntKind.u64.wrap ((↑p : Int) + IntKind.u64.wrap (↑x : Int))).tmod (32 : Int) + (1 : Int))).toNat - ((IntKind.u64.wrap ((↑p : Int) + IntKind.u64.wrap (↑x : Int))).tmod (32 : Int)).toNat) (List.drop ((IntKind.u64.wrap ((↑p : Int) + IntKind.u64.wrap (↑x : Int))).tmod (32 : Int)).toNat (mkL k (be8 z)))).length) : Int) ≤ (9223372036854775807 : Int) ∧ True ∧ True ∧ True ∧ ((AV.d (D.val (.int .i64 (IntKind.i64.wrap ((↑x : Int) + (1 : Int))))) = AV.d (D.val (.int .i64 (↑(IntKind.i64.wrap ((↑x : Int) + (1 : Int))).toNat : Int))) ∧ AV.d (D.str (drwL k p x ++ List.take ((IntKind.u64.wrap ((IntKind.u64.wrap ((↑p : Int) + IntKind.u64.wrap (↑x : Int))).tmod (32 : Int) + (1 : Int))).toNat - ((IntKind.u64.wrap ((↑p : Int) + IntKind.u64.wrap (↑x : Int))).tmod (32 : Int)).toNat) (List.drop ((IntKind.u64.wrap ((↑p : Int) + IntKind.u64.wrap (↑x : Int))).tmod (32 : Int)).toNat (mkL k (be8 z))))) = AV.d (D.str (drwL k p (IntKind.i64.wrap ((↑x : Int) + (1 : Int))).toNat)) ∧ AV.d (D.val (.int .u64 (↑z : Int))) = AV.d (D.val (.int .u64 (↑(lastQ p (IntKind.i64.wrap ((↑x : Int) + (1 : Int))).toNat) : Int))) ∧ True) ∧ (some (Blk.fix (D.arr .u8 32 (mkL k (be8 z)))) = some (Blk.fix (D.arr .u8 32 (lastD k p (IntKind.i64.wrap ((↑x : Int) + (1 : Int))).toNat))) ∧ True) ∧ true = true) ∧ (IntKind.i64.wrap ((↑x : Int) + (1 : Int))).toNat ≤ n ∧ n - (IntKind.i64.wrap ((↑x : Int) + (1 : Int))).toNat < n - x
 | false => True ∧ True ∧ (false = false ∧ True) ∧ D.str (drwL k p x) = F) := by kernel_rfl
end Go.Proofs.YtkicjckhkefnpaaDoor
namespace Go.Proofs.YtkicjckhkefnpaaDoor
open Go Go.Vg
theorem itV_set (s : SR) {n x : Nat} (h : x < n) : (itV s x ++ List.replicate (n - x) 0).set x (nxV (itS s x)) = itV s (x + 1) ++ List.replicate (n - (x + 1)) 0 := by
 rw [List.set_append_right _ _ (by rw [itV_len]; omega), itV_len, Nat.sub_self, show n - x = (n - (x + 1)) + 1 by omega, List.replicate_succ, List.set_cons_zero, itV_succ, List.append_assoc]
 rfl
theorem drw_succ (k : List Int) (p n : Nat) : drwL k p (n + 1) = drwL k p n ++ [plcB k ((p + n) % 18446744073709551616)] := by
 unfold drwL
 rw [List.range_succ, List.map_append]
 rfl
theorem drw_len (k : List Int) (p n : Nat) : (drwL k p n).length = n := by unfold drwL; simp
theorem be8_get (q : Nat) {i : Nat} (h : i < 8) : (be8 q).getD i 0 = bE q i := by
 unfold be8
 rw [List.getD_eq_getElem?_getD, List.getElem?_map, List.getElem?_range h]
 rfl
theorem plc_at (k : List Int) (p : Nat) : [plcB k p] = ((mkL k (be8 (p / 32))).drop (p % 32)).take 1 := by
 have hl : p % 32 < (mkL k (be8 (p / 32))).length := by
  have : (mkL k (be8 (p / 32))).length = 32 := digL_len _
  omega
 rw [List.drop_eq_getElem_cons hl, List.take_succ_cons, List.take_zero]
 unfold plcB
 rw [List.getD_eq_getElem?_getD, List.getElem?_eq_getElem hl]
 rfl
set_option maxRecDepth 100000 in
theorem m46 : Meets Tryd.prog 46 sp46 := by
 refine meets_of_owed (C := c46) ⟨tab_ok, lkS_ok ⟨m79, trivial⟩⟩ (by kernel_rfl) (by kernel_rfl : Tryd.prog.funcs[46]? = some Tryd.f46) (by kernel_rfl) (by kernel_rfl) (by kernel_rfl) _ ?_
 rintro _ ⟨k, p, n, rfl, hk, hp, hn⟩
 refine ⟨fun _ => rfl, inv46 k p n, ?_⟩
 show owed c46 (inv46 k p n) Tryd.f46 [.str k, u64 p, i64 n] (.str (drwL k (p : Int).toNat (n : Int).toNat))
 rw [vc46, Int.toNat_natCast, Int.toNat_natCast]
 simp (decide := true) only [Int.toNat_natCast, sm, show Int.toNat 0 = 0 from rfl, eq_self, true_and, and_true, ne_eq, not_false_eq_true]
 refine ⟨⟨⟨by and_intros <;> first | trivial | rfl, by rfl⟩, Nat.zero_le _⟩, fun x hx => ?_⟩
 obtain ⟨P, hP⟩ : ∃ P, P = (p + x) % 18446744073709551616 := ⟨_, rfl⟩
 have hPl : P < 18446744073709551616 := by omega
 have eP : IntKind.u64.wrap ((p : Int) + IntKind.u64.wrap (x : Int)) = (P : Int) := by
  rw [wN64, Nat.mod_eq_of_lt (show x < 18446744073709551616 by omega), ← Int.natCast_add, wN64, hP]
 have eq1 : IntKind.u64.wrap ((P : Int).tdiv 32) = ((P / 32 : Nat) : Int) := by
  rw [show (32 : Int) = ((32 : Nat) : Int) from rfl, tdivN, wN64, Nat.mod_eq_of_lt (by omega)]
 have eq2 : (P : Int).tmod 32 = ((P % 32 : Nat) : Int) := by rw [show (32 : Int) = ((32 : Nat) : Int) from rfl, tmodN]
 have eq3 : IntKind.u64.wrap (((P % 32 : Nat) : Int) + 1) = ((P % 32 + 1 : Nat) : Int) := by
  rw [show ((P % 32 : Nat) : Int) + 1 = ((P % 32 + 1 : Nat) : Int) by omega, wN64, Nat.mod_eq_of_lt (by omega)]
 have e1 : IntKind.i64.wrap ((x : Int) + 1) = ((x + 1 : Nat) : Int) := by rw [wi (by omega) (by omega)]; omega
 split
 ·rename_i hlt
  have hlt : x < n := by have := of_decide_eq_true hlt; omega
  rw [eP]
  simp (decide := true) only [eq1, eq2, eq3, e1, Int.toNat_natCast, sm, eq_self, true_and, and_true, ne_eq, not_false_eq_true]
  have hlq : lastQ p (x + 1) = P / 32 := by unfold lastQ; rw [if_neg (by omega), Nat.add_sub_cancel, ← hP]
  have hld : lastD k p (x + 1) = mkL k (be8 (P / 32)) := by unfold lastD; rw [if_neg (by omega), hlq]
  have hB : ∀ z : Nat, (z : Int) = ((P / 32 : Nat) : Int) → (0 ≤ ((P % 32 : Nat) : Int) ∧ ((P % 32 : Nat) : Int) ≤ ((P % 32 + 1 : Nat) : Int) ∧ ((P % 32 + 1 : Nat) : Int) ≤ ((32 : Nat) : Int)) ∧
      isBytes (List.take (P % 32 + 1 - P % 32) (List.drop (P % 32) (mkL k (be8 z)))) ∧
       (((drwL k p x).length + (List.take (P % 32 + 1 - P % 32) (List.drop (P % 32) (mkL k (be8 z)))).length : Nat) : Int) ≤ 9223372036854775807 ∧
        ((AV.d (D.str (drwL k p x ++ List.take (P % 32 + 1 - P % 32) (List.drop (P % 32) (mkL k (be8 z))))) = AV.d (D.str (drwL k p (x + 1))) ∧
           AV.d (D.val (Value.int IntKind.u64 z)) = AV.d (D.val (Value.int IntKind.u64 (lastQ p (x + 1) : Nat)))) ∧
          some (Blk.fix (D.arr IntKind.u8 32 (mkL k (be8 z)))) = some (Blk.fix (D.arr IntKind.u8 32 (lastD k p (x + 1))))) ∧
         x + 1 ≤ n ∧ n - (x + 1) < n - x := by
   intro z hz
   obtain rfl : z = P / 32 := by omega
   rw [Nat.add_sub_cancel_left, ← plc_at k P, hlq, hld, drw_succ, ← hP, drw_len]
   refine ⟨⟨by omega, by omega, by omega⟩, fun z hz => ?_, by simp only [List.length_singleton]; omega, ⟨⟨rfl, rfl⟩, rfl⟩, by omega, by omega⟩
   rw [List.mem_singleton] at hz
   subst hz
   unfold plcB
   obtain ⟨b, e, hb⟩ := byte_at (l := mkL k (be8 (P / 32))) (digL_bytes _) (i := P % 32) (by have : (mkL k (be8 (P / 32))).length = 32 := digL_len _; omega)
   rw [e]
   omega
  split
  ·refine ⟨?_, hB⟩
   refine ⟨⟨rfl, rfl⟩, fun y hy => ?_⟩
   obtain ⟨j, q⟩ := y
   obtain ⟨hj, hq⟩ := hy
   simp only at hj hq ⊢
   obtain rfl : q = P / 32 := by omega
   split
   ·rename_i h
    have h : j < 8 := by have := of_decide_eq_true h; omega
    have e3 : IntKind.i64.wrap ((j : Int) + 1) = ((j + 1 : Nat) : Int) := by rw [wi (by omega) (by omega)]; omega
    have e4 : IntKind.i64.wrap (56 - IntKind.i64.wrap (8 * (j : Int))) = ((56 - 8 * j : Nat) : Int) := by
     rw [wi (n := 8 * (j : Int)) (by omega) (by omega), wi (by omega) (by omega)]; omega
    have e5 : IntKind.u8.wrap (ishr .u64 ((P / 32 : Nat) : Int) ((56 - 8 * j : Nat) : Int)) = bE (P / 32) j := by
     rw [ishrN .u64 (show 56 - 8 * j ≤ 64 by omega), wN8]; rfl
    have e6 : List.take (j + 1) (be8 (P / 32)) = List.take j (be8 (P / 32)) ++ [bE (P / 32) j] := by
     rw [take_snoc (by rw [be8_len]; exact h), be8_get _ h]
    have e7 : (List.take j (be8 (P / 32))).length = j := by rw [List.length_take, be8_len]; omega
    simp only [e3, e4, e5, e6, e7, Int.toNat_natCast]
    refine ⟨by omega, fun z hz => ?_, by omega, by and_intros <;> first | trivial | rfl, by omega, by omega⟩
    rw [List.mem_singleton] at hz
    subst hz
    unfold bE
    omega
   ·rename_i h
    have h := of_decide_eq_false h
    obtain rfl : j = 8 := by omega
    have e8 : List.take 8 (be8 (P / 32)) = be8 (P / 32) := List.take_of_length_le (by rw [be8_len]; omega)
    rw [e8]
    exact ⟨⟨k, _, rfl, hk, be8_bytes _, by rw [be8_len]; omega⟩, rfl⟩
  ·rename_i hx0
   have hx0 : x ≠ 0 := by have := of_decide_eq_false hx0; omega
   refine ⟨?_, hB⟩
   split
   ·refine ⟨⟨rfl, rfl⟩, fun y hy => ?_⟩
    obtain ⟨j, q⟩ := y
    obtain ⟨hj, hq⟩ := hy
    simp only at hj hq ⊢
    obtain rfl : q = P / 32 := by omega
    split
    ·rename_i h
     have h : j < 8 := by have := of_decide_eq_true h; omega
     have e3 : IntKind.i64.wrap ((j : Int) + 1) = ((j + 1 : Nat) : Int) := by rw [wi (by omega) (by omega)]; omega
     have e4 : IntKind.i64.wrap (56 - IntKind.i64.wrap (8 * (j : Int))) = ((56 - 8 * j : Nat) : Int) := by
      rw [wi (n := 8 * (j : Int)) (by omega) (by omega), wi (by omega) (by omega)]; omega
     have e5 : IntKind.u8.wrap (ishr .u64 ((P / 32 : Nat) : Int) ((56 - 8 * j : Nat) : Int)) = bE (P / 32) j := by
      rw [ishrN .u64 (show 56 - 8 * j ≤ 64 by omega), wN8]; rfl
     have e6 : List.take (j + 1) (be8 (P / 32)) = List.take j (be8 (P / 32)) ++ [bE (P / 32) j] := by
      rw [take_snoc (by rw [be8_len]; exact h), be8_get _ h]
     have e7 : (List.take j (be8 (P / 32))).length = j := by rw [List.length_take, be8_len]; omega
     simp only [e3, e4, e5, e6, e7, Int.toNat_natCast]
     refine ⟨by omega, fun z hz => ?_, by omega, by and_intros <;> first | trivial | rfl, by omega, by omega⟩
     rw [List.mem_singleton] at hz
     subst hz
     unfold bE
     omega
    ·rename_i h
     have h := of_decide_eq_false h
     obtain rfl : j = 8 := by omega
     have e8 : List.take 8 (be8 (P / 32)) = be8 (P / 32) := List.take_of_length_le (by rw [be8_len]; omega)
     rw [e8]
     exact ⟨⟨k, _, rfl, hk, be8_bytes _, by rw [be8_len]; omega⟩, rfl⟩
   ·rename_i hq
    have hq : P / 32 = lastQ p x := by
     have : (((P / 32 : Nat) : Int) == ((lastQ p x : Nat) : Int)) = true := by simpa [bne] using hq
     have := of_decide_eq_true this
     omega
    refine ⟨?_, by omega⟩
    have : lastD k p x = mkL k (be8 (lastQ p x)) := by unfold lastD; rw [if_neg hx0]
    rw [this]
 ·rename_i hlt
  have hlt := of_decide_eq_false hlt
  obtain rfl : x = n := by omega
  simp (decide := true) only [eq_self, true_and, and_true, ne_eq, not_false_eq_true]
end Go.Proofs.YtkicjckhkefnpaaDoor
namespace Go.Proofs.YtkicjckhkefnpaaDoor
open Go Go.Vg
def fstB (g : Nat → Nat) (v : Nat) : Nat → Nat → Option Nat
 | 0, _ => none
 | n + 1, t => if g t < v then some t else fstB g v n (t + 1)
def gT (s : SR) (v t : Nat) : Nat := vB 256 (itV (itS s (32 * t)) 32) % 2 ^ bl2 (v - 1)
def gR (k : List Int) (p v t : Nat) : Nat := vB 256 (drwL k ((p + 32 * t) % 18446744073709551616) 32) % 2 ^ bl2 (v - 1)
def bwV (g : Nat → Nat) (v : Nat) : List Int := if v = 0 then nB 18446744073709551616 4 0 else match fstB g v 100 0 with | some t => nB 18446744073709551616 4 (g t) | none => nB 18446744073709551616 4 0
def bwE (g : Nat → Nat) (v : Nat) : Int := if v = 0 then 1 else match fstB g v 100 0 with | some _ => 0 | none => 6
def bwN (g : Nat → Nat) (v : Nat) : Nat := if v = 0 then 0 else match fstB g v 100 0 with | some t => 32 * (t + 1) | none => 3200
def bwS (s : SR) (v : Nat) : SR := itS s (bwN (gT s v) v)
def sp97 : Go.Vg.Spec := ⟨fun ds => ∃ l, ds = [.arr .u8 32 l] ∧ isBytes l ∧ l.length = 32, fun ds => num4 (nB 18446744073709551616 4 (vB 256 (arrOf (ds.headD default)))), true, [28]⟩
def sp41 : Go.Vg.Spec := ⟨fun ds => ∃ s l, ds = [stQ s, num4 l] ∧ okR s ∧ isN l, fun ds => .tup [.tup [num4 (bwV (gT (srOf (ds.headD default)) (wv (arrOf (ds.getD 1 default)))) (wv (arrOf (ds.getD 1 default)))), i64 (bwE (gT (srOf (ds.headD default)) (wv (arrOf (ds.getD 1 default)))) (wv (arrOf (ds.getD 1 default))))], stQ (bwS (srOf (ds.headD default)) (wv (arrOf (ds.getD 1 default))))], true, [9000000, 75]⟩
def sp42 : Go.Vg.Spec := ⟨fun ds => ∃ k, ∃ p : Nat, ∃ l, ds = [.str k, u64 p, num4 l] ∧ isB k ∧ p < 18446744073709551616 ∧ isN l, fun ds => .tup [num4 (bwV (gR (strOf (ds.headD default)) (numOf (ds.getD 1 default)).toNat (wv (arrOf (ds.getD 2 default)))) (wv (arrOf (ds.getD 2 default)))), i64 (bwN (gR (strOf (ds.headD default)) (numOf (ds.getD 1 default)).toNat (wv (arrOf (ds.getD 2 default)))) (wv (arrOf (ds.getD 2 default))) : Nat), i64 (bwE (gR (strOf (ds.headD default)) (numOf (ds.getD 1 default)).toNat (wv (arrOf (ds.getD 2 default)))) (wv (arrOf (ds.getD 2 default))))], true, [9, 73, 75]⟩
def inv97 (l : List Int) : Nat → Option Inv
 | 3 => some ⟨Nat, fun i => [(7, .d (i64 i))], fun i => [(3, .fix (num4 (nB 18446744073709551616 4 (vB 256 (l.take i)))))], fun t => (slotN t 7).toNat, fun _ i => i ≤ 32, fun i => 32 - i⟩
 | _ => none
noncomputable def shL (l : List Int) (n : Int) : List Int := opq (nB 18446744073709551616 4 (shf (vB 18446744073709551616 l) n))
noncomputable def ofB (l : List Int) : List Int := opq (nB 18446744073709551616 4 (vB 256 l))
noncomputable def lnL (l : List Int) : Int := opq ((bl2 (vB 18446744073709551616 l) : Nat) : Int)
noncomputable def cmL (l m : List Int) : Int := opq (cmpN (vB 18446744073709551616 l) (vB 18446744073709551616 m))
noncomputable def sp96o : Go.Vg.Spec := ⟨sp96.pre, fun ds => num4 (shL (arrOf (ds.headD default)) (numOf (ds.getD 1 default))), true, [75, 3]⟩
noncomputable def sp97o : Go.Vg.Spec := ⟨sp97.pre, fun ds => num4 (ofB (arrOf (ds.headD default))), true, [28]⟩
noncomputable def sp94o : Go.Vg.Spec := ⟨sp94.pre, fun ds => i64 (lnL (arrOf (ds.headD default))), true, [75]⟩
noncomputable def sp98o : Go.Vg.Spec := ⟨sp98.pre, fun ds => i64 (cmL (arrOf (ds.headD default)) (arrOf (ds.getD 1 default))), true, [75, 75]⟩
noncomputable def c41 : Ctx := ⟨tab, lkS [(93, sp93), (94, sp94o), (95, sp95q), (97, sp97o), (96, sp96o), (98, sp98o)], [], []⟩
noncomputable def c42 : Ctx := ⟨tab, lkS [(48, sp48), (100, sp100), (99, sp99), (46, sp46), (54, sp54), (53, sp53), (51, sp51), (50, sp50)], [], []⟩
def nob (g : Nat → Nat) (v x : Nat) : Prop := x ≤ 100 ∧ ∀ t, t < x → ¬ g t < v
def inv41 (s : SR) (l : List Int) : Nat → Option Inv
 | 7 => some ⟨Nat, fun x => [(26, .d (i64 x))], fun x => [(1000, .fix (stQ (itS s (32 * x))))], fun t => (slotN t 26).toNat, fun _ x => nob (gT s (wv l)) (wv l) x, fun x => 100 - x⟩
 | 10 => some ⟨Nat × Nat, fun y => [(28, .d (i64 (y.1 : Int)))], fun y => [(10, .fix (.arr .u8 32 (itV (itS s (32 * y.2)) y.1 ++ List.replicate (32 - y.1) 0))), (1000, .fix (stQ (itS s (32 * y.2 + y.1))))], fun t => ((slotN t 28).toNat, (slotN t 26).toNat), fun s0 y => y.1 ≤ 32 ∧ (y.2 : Int) = slotN s0 26, fun y => 32 - y.1⟩
 | _ => none
def inv42 (k : List Int) (p : Nat) (l : List Int) : Nat → Option Inv
 | 5 => some ⟨Nat, fun n => [(10, .d (i64 n))], fun _ => [], fun t => (slotN t 10).toNat, fun _ n => n ≤ bl2 (wv l - 1), fun n => bl2 (wv l - 1) - n⟩
 | 8 => some ⟨Nat, fun x => [(28, .d (i64 x))], fun _ => [], fun t => (slotN t 28).toNat, fun _ x => nob (gR k p (wv l)) (wv l) x, fun x => 100 - x⟩
 | 13 => some ⟨Nat × List Int, fun y => [(14, .d (i64 (31 - (y.1 : Int)))), (13, .d (dgs (dg (vB 256 (y.2.drop (32 - y.1))))))], fun _ => [], fun t => ((31 - slotN t 14).toNat, strOf (slotD t 12)), fun s0 y => y.1 ≤ 32 ∧ y.2 = strOf (slotD s0 12), fun y => 32 - y.1⟩
 | _ => none
set_option maxRecDepth 100000 in
theorem vc97  (l : List Int) (F : D)  :
    (owed c0 (inv97 l) Tryd.f97 [.arr .u8 32 l] F) = (
 (True ∧ false = false) ∧ (True ∧ 4 ≠ 0) ∧ (True ∧ 4 ≠ 0) ∧ (32 ≠ 0 ∧ 32 = 32 ∧ true = true) ∧ True ∧ (((AV.d (D.val (.int .i64 0)) = AV.d (D.val (.int .i64 (↑(Int.toNat (0 : Int)) : Int))) ∧ True) ∧ (sm (some (Blk.fix (D.arr .u8 32 l))) ∧ sm (some (Blk.fix (D.arr .u64 4 [(0 : Int), (0 : Int), (0 : Int), (0 : Int)]))) ∧ some (Blk.fix (D.arr .u64 4 [(0 : Int), (0 : Int), (0 : Int), (0 : Int)])) = some (Blk.fix (D.arr .u64 4 (nB 18446744073709551616 4 (vB 256 (List.take (Int.toNat (0 : Int)) l))))) ∧ True) ∧ true = true) ∧ Int.toNat (0 : Int) ≤ 32) ∧ ∀ (x : Nat), x ≤ 32 → true = true ∧ True ∧ match decide ((↑x : Int) < (32 : Int)) with
 | true => True ∧ ((0 : Int) ≤ (↑x : Int) ∧ (↑x : Int) < (↑(32 : Nat) : Int) ∧ 32 = 32 ∧ Ty.int IntKind.u8 = Ty.int IntKind.u8 ∧ 1 = 1) ∧ True ∧ True ∧ True ∧ (8 : Int) ≠ 0 ∧ ((0 : Int) ≤ IntKind.i64.wrap ((↑x : Int).tdiv (8 : Int)) ∧ IntKind.i64.wrap ((↑x : Int).tdiv (8 : Int)) < (↑(4 : Nat) : Int) ∧ 4 = 4 ∧ 1 = 1) ∧ (1 ≠ 0 ∧ 1 = 1 ∧ false = false) ∧ True ∧ True ∧ True ∧ (8 : Int) ≠ 0 ∧ True ∧ True ∧ (0 : Int) ≤ IntKind.u64.wrap (IntKind.i64.wrap ((↑x : Int).tmod (8 : Int) * (8 : Int))) ∧ True ∧ ((0 : Int) ≤ IntKind.i64.wrap ((↑x : Int).tdiv (8 : Int)) ∧ IntKind.i64.wrap ((↑x : Int).tdiv (8 : Int)) < (↑(4 : Nat) : Int) ∧ 4 = 4 ∧ 1 = 1) ∧ (((IntKind.i64.wrap ((↑x : Int).tdiv (8 : Int))).toNat < 4 ∧ ([] : List Nat) = [] ∧ true = true) ∧ 1 ≠ 0 ∧ 1 = 1 ∧ false = false) ∧ True ∧ True ∧ ((AV.d (D.val (.int .i64 (IntKind.i64.wrap ((↑x : Int) + (1 : Int))))) = AV.d (D.val (.int .i64 (↑(IntKind.i64.wrap ((↑x : Int) + (1 : Int))).toNat : Int))) ∧ True) ∧ (sm (some (Blk.fix (D.arr .u8 32 l))) ∧ sm (some (Blk.fix (D.arr .u64 4 [(0 : Int), (0 : Int), (0 : Int), (0 : Int)]))) ∧ some (Blk.fix (D.arr .u64 4 ((nB 18446744073709551616 4 (vB 256 (List.take x l))).set (IntKind.i64.wrap ((↑x : Int).tdiv (8 : Int))).toNat (ior IntKind.u64 ((nB 18446744073709551616 4 (vB 256 (List.take x l))).getD (IntKind.i64.wrap ((↑x : Int).tdiv (8 : Int))).toNat (0 : Int)) (ishl IntKind.u64 (IntKind.u64.wrap (l.getD (↑x : Int).toNat (0 : Int))) (IntKind.u64.wrap (IntKind.i64.wrap ((↑x : Int).tmod (8 : Int) * (8 : Int))))))))) = some (Blk.fix (D.arr .u64 4 (nB 18446744073709551616 4 (vB 256 (List.take (IntKind.i64.wrap ((↑x : Int) + (1 : Int))).toNat l))))) ∧ True) ∧ true = true) ∧ (IntKind.i64.wrap ((↑x : Int) + (1 : Int))).toNat ≤ 32 ∧ 32 - (IntKind.i64.wrap ((↑x : Int) + (1 : Int))).toNat < 32 - x
 | false => (4 ≠ 0 ∧ 4 = 4 ∧ true = true) ∧ (Sk.arr 4 = Sk.arr 4 ∧ 4 ≠ 0 ∧ 4 = 4 ∧ false = false) ∧ ((4 ≠ 0 ∧ 4 = 4 ∧ true = true) ∧ True) ∧ D.arr .u64 4 (nB 18446744073709551616 4 (vB 256 (List.take x l))) = F) := by kernel_rfl
set_option maxRecDepth 100000 in
theorem vc41  (s : SR) (l : List Int) (F : D)  :
    (owedIo c41 (inv41 s l) Tryd.f41 (stQ s) [num4 l] F) = (
 (True ∧ false = false) ∧ (True ∧ 4 ≠ 0) ∧ True ∧ (True ∧ 4 ≠ 0) ∧ (4 ≠ 0 ∧ 4 = 4 ∧ true = true) ∧ (4 ≠ 0 ∧ 4 = 4 ∧ true = true) ∧ (IntKind.u64 = IntKind.u64 ∧ IntKind.u64 = IntKind.u64 ∧ 4 = 4 ∧ 4 = 4 ∧ 1 = 1) ∧ match eqB l [(0 : Int), (0 : Int), (0 : Int), (0 : Int)] with
 | true => (4 ≠ 0 ∧ 4 = 4 ∧ true = true) ∧ (Sk.arr 4 = Sk.arr 4 ∧ 4 ≠ 0 ∧ 4 = 4 ∧ false = false) ∧ True ∧ ((4 ≠ 0 ∧ 4 = 4 ∧ true = true) ∧ false = false ∧ True) ∧ Sk.st [Sk.st [Sk.st [Sk.arr 8, Sk.one, Sk.arr 64], Sk.st [Sk.arr 8, Sk.one, Sk.arr 64]], Sk.one, Sk.arr 32, Sk.one] = Sk.st [Sk.st [Sk.st [Sk.arr 8, Sk.one, Sk.arr 64], Sk.st [Sk.arr 8, Sk.one, Sk.arr 64]], Sk.one, Sk.arr 32, Sk.one] ∧ D.tup [D.tup [D.arr .u64 4 [(0 : Int), (0 : Int), (0 : Int), (0 : Int)], D.val (.int .i64 1)], stQ s] = F
 | false => (4 ≠ 0 ∧ 4 = 4 ∧ true = true) ∧ (1 = 1 ∧ false = false ∧ (0 < 4 ∧ ([] : List Nat) = [] ∧ true = true) ∧ True) ∧ (∃ (l_1 : List Int), ∃ (m : List Int), [D.arr .u64 4 l, D.arr .u64 4 [(1 : Int), (0 : Int), (0 : Int), (0 : Int)]] = [D.arr .u64 4 l_1, D.arr .u64 4 m] ∧ (okw l_1 ∧ l_1.length = 4) ∧ okw m ∧ m.length = 4) ∧ True ∧ (0 < 2 ∧ false = false) ∧ (1 < 2 ∧ false = false) ∧ (True ∧ 4 ≠ 0) ∧ (Sk.arr 4 = Sk.arr 4 ∧ 4 ≠ 0 ∧ 4 = 4 ∧ false = false) ∧ True ∧ (4 ≠ 0 ∧ 4 = 4 ∧ true = true) ∧ (∃ (l_1 : List Int), [D.arr .u64 4 (nB 18446744073709551616 4 (dif (vB 18446744073709551616 l) (vB 18446744073709551616 [(1 : Int), (0 : Int), (0 : Int), (0 : Int)])))] = [D.arr .u64 4 l_1] ∧ isN l_1) ∧ True ∧ True ∧ True ∧ (((AV.d (D.val (.int .i64 0)) = AV.d (D.val (.int .i64 (↑(Int.toNat (0 : Int)) : Int))) ∧ True) ∧ (sm (some (Blk.fix (D.arr .u64 4 l))) ∧ sm (some (Blk.fix (D.arr .u64 4 [(0 : Int), (0 : Int), (0 : Int), (0 : Int)]))) ∧ sm (some (Blk.fix (D.arr .u64 4 [(0 : Int), (0 : Int), (0 : Int), (0 : Int)]))) ∧ sm (some (Blk.fix (D.arr .u64 4 (nB 18446744073709551616 4 (dif (vB 18446744073709551616 l) (vB 18446744073709551616 [(1 : Int), (0 : Int), (0 : Int), (0 : Int)])))))) ∧ some (Blk.fix (stQ s)) = some (Blk.fix (stQ (itS s 0))) ∧ True) ∧ true = true) ∧ nob (gT s (vB 18446744073709551616 l)) (vB 18446744073709551616 l) (Int.toNat (0 : Int))) ∧ ∀ (x : Nat), nob (gT s (vB 18446744073709551616 l)) (vB 18446744073709551616 l) x → true = true ∧ True ∧ match decide ((↑x : Int) < (100 : Int)) with
  | true => (True ∧ 32 ≠ 0) ∧ True ∧ (((AV.d (D.val (.int .i64 0)) = AV.d (D.val (.int .i64 (↑(0 : Nat) : Int))) ∧ True) ∧ (sm (some (Blk.fix (D.arr .u64 4 l))) ∧ sm (some (Blk.fix (D.arr .u64 4 [(0 : Int), (0 : Int), (0 : Int), (0 : Int)]))) ∧ sm (some (Blk.fix (D.arr .u64 4 [(0 : Int), (0 : Int), (0 : Int), (0 : Int)]))) ∧ sm (some (Blk.fix (D.arr .u64 4 (nB 18446744073709551616 4 (dif (vB 18446744073709551616 l) (vB 18446744073709551616 [(1 : Int), (0 : Int), (0 : Int), (0 : Int)])))))) ∧ some (Blk.fix (D.arr .u8 32 [(0 : Int), (0 : Int), (0 : Int), (0 : Int), (0 : Int), (0 : Int), (0 : Int), (0 : Int), (0 : Int), (0 : Int), (0 : Int), (0 : Int), (0 : Int), (0 : Int), (0 : Int), (0 : Int), (0 : Int), (0 : Int), (0 : Int), (0 : Int), (0 : Int), (0 : Int), (0 : Int), (0 : Int), (0 : Int), (0 : Int), (0 : Int), (0 : Int), (0 : Int), (0 : Int), (0 : Int), (0 : Int)])) = some (Blk.fix (D.arr .u8 32 (itV (itS s (32 * (↑x : Int).toNat)) 0 ++ [(0 : Int), (0 : Int), (0 : Int), (0 : Int), (0 : Int), (0 : Int), (0 : Int), (0 : Int), (0 : Int), (0 : Int), (0 : Int), (0 : Int), (0 : Int), (0 : Int), (0 : Int), (0 : Int), (0 : Int), (0 : Int), (0 : Int), (0 : Int), (0 : Int), (0 : Int), (0 : Int), (0 : Int), (0 : Int), (0 : Int), (0 : Int), (0 : Int), (0 : Int), (0 : Int), (0 : Int), (0 : Int)]))) ∧ some (Blk.fix (stQ (itS s (32 * x)))) = some (Blk.fix (stQ (itS s (32 * (↑x : Int).toNat + 0)))) ∧ True) ∧ true = true) ∧ 0 ≤ 32 ∧ (↑(↑x : Int).toNat : Int) = (↑x : Int)) ∧ ∀ (x_1 : Nat × Nat), x_1.fst ≤ 32 ∧ (↑x_1.snd : Int) = (↑x : Int) → true = true ∧ True ∧ match decide ((↑x_1.fst : Int) < (32 : Int)) with
   | true => True ∧ True ∧ True ∧ True ∧ (∃ (s_1 : SR), [stQ (itS s (32 * x_1.snd + x_1.fst))] = [stQ s_1] ∧ okR s_1) ∧ ((0 : Int) ≤ (↑x_1.fst : Int) ∧ (↑x_1.fst : Int) < (↑(32 : Nat) : Int) ∧ 32 = 32 ∧ 1 = 1) ∧ (((↑x_1.fst : Int).toNat < 32 ∧ ([] : List Nat) = [] ∧ true = true) ∧ 1 ≠ 0 ∧ 1 = 1 ∧ false = false) ∧ True ∧ True ∧ ((AV.d (D.val (.int .i64 (IntKind.i64.wrap ((↑x_1.fst : Int) + (1 : Int))))) = AV.d (D.val (.int .i64 (↑(IntKind.i64.wrap ((↑x_1.fst : Int) + (1 : Int))).toNat : Int))) ∧ True) ∧ (sm (some (Blk.fix (D.arr .u64 4 l))) ∧ sm (some (Blk.fix (D.arr .u64 4 [(0 : Int), (0 : Int), (0 : Int), (0 : Int)]))) ∧ sm (some (Blk.fix (D.arr .u64 4 [(0 : Int), (0 : Int), (0 : Int), (0 : Int)]))) ∧ sm (some (Blk.fix (D.arr .u64 4 (nB 18446744073709551616 4 (dif (vB 18446744073709551616 l) (vB 18446744073709551616 [(1 : Int), (0 : Int), (0 : Int), (0 : Int)])))))) ∧ some (Blk.fix (D.arr .u8 32 ((itV (itS s (32 * x_1.snd)) x_1.fst ++ List.replicate (32 - x_1.fst) (0 : Int)).set (↑x_1.fst : Int).toNat (nxV (srOf (stQ (itS s (32 * x_1.snd + x_1.fst)))))))) = some (Blk.fix (D.arr .u8 32 (itV (itS s (32 * (↑x : Int).toNat)) (IntKind.i64.wrap ((↑x_1.fst : Int) + (1 : Int))).toNat ++ List.replicate (32 - (IntKind.i64.wrap ((↑x_1.fst : Int) + (1 : Int))).toNat) (0 : Int)))) ∧ some (Blk.fix (stQ (nxS (srOf (stQ (itS s (32 * x_1.snd + x_1.fst))))))) = some (Blk.fix (stQ (itS s (32 * (↑x : Int).toNat + (IntKind.i64.wrap ((↑x_1.fst : Int) + (1 : Int))).toNat)))) ∧ True) ∧ true = true) ∧ ((IntKind.i64.wrap ((↑x_1.fst : Int) + (1 : Int))).toNat ≤ 32 ∧ (↑(↑x : Int).toNat : Int) = (↑x : Int)) ∧ 32 - (IntKind.i64.wrap ((↑x_1.fst : Int) + (1 : Int))).toNat < 32 - x_1.fst
   | false => (32 ≠ 0 ∧ 32 = 32 ∧ true = true) ∧ (∃ (l : List Int), [D.arr .u8 32 (itV (itS s (32 * x_1.snd)) x_1.fst ++ List.replicate (32 - x_1.fst) (0 : Int))] = [D.arr .u8 32 l] ∧ isBytes l ∧ l.length = 32) ∧ True ∧ True ∧ (∃ (l_1 : List Int), ∃ (n : Int), [D.arr .u64 4 (ofB (itV (itS s (32 * x_1.snd)) x_1.fst ++ List.replicate (32 - x_1.fst) (0 : Int))), D.val (.int .i64 (IntKind.i64.wrap ((0 : Int) - IntKind.i64.wrap (lnL (nB 18446744073709551616 4 (dif (vB 18446744073709551616 l) (vB 18446744073709551616 [(1 : Int), (0 : Int), (0 : Int), (0 : Int)]))) - (256 : Int)))))] = [D.arr .u64 4 l_1, D.val (Value.int IntKind.i64 n)] ∧ (okw l_1 ∧ l_1.length = 4) ∧ i64ok n) ∧ True ∧ (∃ (l_1 : List Int), ∃ (n : Int), [D.arr .u64 4 (shL (ofB (itV (itS s (32 * x_1.snd)) x_1.fst ++ List.replicate (32 - x_1.fst) (0 : Int))) (IntKind.i64.wrap ((0 : Int) - IntKind.i64.wrap (lnL (nB 18446744073709551616 4 (dif (vB 18446744073709551616 l) (vB 18446744073709551616 [(1 : Int), (0 : Int), (0 : Int), (0 : Int)]))) - (256 : Int))))), D.val (.int .i64 (IntKind.i64.wrap (lnL (nB 18446744073709551616 4 (dif (vB 18446744073709551616 l) (vB 18446744073709551616 [(1 : Int), (0 : Int), (0 : Int), (0 : Int)]))) - (256 : Int))))] = [D.arr .u64 4 l_1, D.val (Value.int IntKind.i64 n)] ∧ (okw l_1 ∧ l_1.length = 4) ∧ i64ok n) ∧ (True ∧ 4 ≠ 0) ∧ (Sk.arr 4 = Sk.arr 4 ∧ 4 ≠ 0 ∧ 4 = 4 ∧ false = false) ∧ (4 ≠ 0 ∧ 4 = 4 ∧ true = true) ∧ (4 ≠ 0 ∧ 4 = 4 ∧ true = true) ∧ (∃ (l_1 : List Int), ∃ (m : List Int), [D.arr .u64 4 (shL (shL (ofB (itV (itS s (32 * x_1.snd)) x_1.fst ++ List.replicate (32 - x_1.fst) (0 : Int))) (IntKind.i64.wrap ((0 : Int) - IntKind.i64.wrap (lnL (nB 18446744073709551616 4 (dif (vB 18446744073709551616 l) (vB 18446744073709551616 [(1 : Int), (0 : Int), (0 : Int), (0 : Int)]))) - (256 : Int))))) (IntKind.i64.wrap (lnL (nB 18446744073709551616 4 (dif (vB 18446744073709551616 l) (vB 18446744073709551616 [(1 : Int), (0 : Int), (0 : Int), (0 : Int)]))) - (256 : Int)))), D.arr .u64 4 l] = [D.arr .u64 4 l_1, D.arr .u64 4 m] ∧ (okw l_1 ∧ l_1.length = 4) ∧ okw m ∧ m.length = 4) ∧ True ∧ match decide (cmL (shL (shL (ofB (itV (itS s (32 * x_1.snd)) x_1.fst ++ List.replicate (32 - x_1.fst) (0 : Int))) (IntKind.i64.wrap ((0 : Int) - IntKind.i64.wrap (lnL (nB 18446744073709551616 4 (dif (vB 18446744073709551616 l) (vB 18446744073709551616 [(1 : Int), (0 : Int), (0 : Int), (0 : Int)]))) - (256 : Int))))) (IntKind.i64.wrap (lnL (nB 18446744073709551616 4 (dif (vB 18446744073709551616 l) (vB 18446744073709551616 [(1 : Int), (0 : Int), (0 : Int), (0 : Int)]))) - (256 : Int)))) l < (0 : Int)) with
    | true => (4 ≠ 0 ∧ 4 = 4 ∧ true = true) ∧ (Sk.arr 4 = Sk.arr 4 ∧ 4 ≠ 0 ∧ 4 = 4 ∧ false = false) ∧ True ∧ ((4 ≠ 0 ∧ 4 = 4 ∧ true = true) ∧ false = false ∧ True) ∧ Sk.st [Sk.st [Sk.st [Sk.arr 8, Sk.one, Sk.arr 64], Sk.st [Sk.arr 8, Sk.one, Sk.arr 64]], Sk.one, Sk.arr 32, Sk.one] = Sk.st [Sk.st [Sk.st [Sk.arr 8, Sk.one, Sk.arr 64], Sk.st [Sk.arr 8, Sk.one, Sk.arr 64]], Sk.one, Sk.arr 32, Sk.one] ∧ D.tup [D.tup [D.arr .u64 4 (shL (shL (ofB (itV (itS s (32 * x_1.snd)) x_1.fst ++ List.replicate (32 - x_1.fst) (0 : Int))) (IntKind.i64.wrap ((0 : Int) - IntKind.i64.wrap (lnL (nB 18446744073709551616 4 (dif (vB 18446744073709551616 l) (vB 18446744073709551616 [(1 : Int), (0 : Int), (0 : Int), (0 : Int)]))) - (256 : Int))))) (IntKind.i64.wrap (lnL (nB 18446744073709551616 4 (dif (vB 18446744073709551616 l) (vB 18446744073709551616 [(1 : Int), (0 : Int), (0 : Int), (0 : Int)]))) - (256 : Int)))), D.val (.int .i64 0)], stQ (itS s (32 * x_1.snd + x_1.fst))] = F
    | false => True ∧ True ∧ ((AV.d (D.val (.int .i64 (IntKind.i64.wrap ((↑x : Int) + (1 : Int))))) = AV.d (D.val (.int .i64 (↑(IntKind.i64.wrap ((↑x : Int) + (1 : Int))).toNat : Int))) ∧ True) ∧ (sm (some (Blk.fix (D.arr .u64 4 l))) ∧ sm (some (Blk.fix (D.arr .u64 4 [(0 : Int), (0 : Int), (0 : Int), (0 : Int)]))) ∧ sm (some (Blk.fix (D.arr .u64 4 [(0 : Int), (0 : Int), (0 : Int), (0 : Int)]))) ∧ sm (some (Blk.fix (D.arr .u64 4 (nB 18446744073709551616 4 (dif (vB 18446744073709551616 l) (vB 18446744073709551616 [(1 : Int), (0 : Int), (0 : Int), (0 : Int)])))))) ∧ some (Blk.fix (stQ (itS s (32 * x_1.snd + x_1.fst)))) = some (Blk.fix (stQ (itS s (32 * (IntKind.i64.wrap ((↑x : Int) + (1 : Int))).toNat)))) ∧ True) ∧ true = true) ∧ nob (gT s (vB 18446744073709551616 l)) (vB 18446744073709551616 l) (IntKind.i64.wrap ((↑x : Int) + (1 : Int))).toNat ∧ 100 - (IntKind.i64.wrap ((↑x : Int) + (1 : Int))).toNat < 100 - x
  | false => (4 ≠ 0 ∧ 4 = 4 ∧ true = true) ∧ (Sk.arr 4 = Sk.arr 4 ∧ 4 ≠ 0 ∧ 4 = 4 ∧ false = false) ∧ True ∧ ((4 ≠ 0 ∧ 4 = 4 ∧ true = true) ∧ false = false ∧ True) ∧ Sk.st [Sk.st [Sk.st [Sk.arr 8, Sk.one, Sk.arr 64], Sk.st [Sk.arr 8, Sk.one, Sk.arr 64]], Sk.one, Sk.arr 32, Sk.one] = Sk.st [Sk.st [Sk.st [Sk.arr 8, Sk.one, Sk.arr 64], Sk.st [Sk.arr 8, Sk.one, Sk.arr 64]], Sk.one, Sk.arr 32, Sk.one] ∧ D.tup [D.tup [D.arr .u64 4 [(0 : Int), (0 : Int), (0 : Int), (0 : Int)], D.val (.int .i64 6)], stQ (itS s (32 * x))] = F) := by kernel_rfl
set_option maxRecDepth 100000 in
theorem vc42  (k : List Int) (p : Nat) (l : List Int) (F : D)  :
    (owed c42 (inv42 k p l) Tryd.f42 [.str k, u64 p, num4 l] F) = (
 (True ∧ false = false) ∧ (True ∧ 4 ≠ 0) ∧ True ∧ True ∧ (4 ≠ 0 ∧ 4 = 4 ∧ true = true) ∧ (∃ (l_1 : List Int), [D.arr .u64 4 l] = [D.arr .u64 4 l_1] ∧ okw l_1 ∧ l_1.length = 4) ∧ True ∧ True ∧ True ∧ True ∧ match (↑(dg (vB 18446744073709551616 l)).length : Int) == (0 : Int) with
 | true => (1 = 1 ∧ True) ∧ (Sk.arr 4 = Sk.arr 4 ∧ 4 ≠ 0 ∧ 4 = 4 ∧ false = false) ∧ True ∧ True ∧ ((4 ≠ 0 ∧ 4 = 4 ∧ true = true) ∧ false = false ∧ false = false ∧ True) ∧ D.tup [D.arr .u64 4 [(0 : Int), (0 : Int), (0 : Int), (0 : Int)], D.val (.int .i64 0), D.val (.int .i64 1)] = F
 | false => True ∧ (((AV.d (D.val (.int .i64 0)) = AV.d (D.val (.int .i64 (↑(Int.toNat (0 : Int)) : Int))) ∧ True) ∧ (sm (some (Blk.fix (D.arr .u64 4 l))) ∧ sm (some (Blk.fix (D.arr .u64 4 [(0 : Int), (0 : Int), (0 : Int), (0 : Int)]))) ∧ True) ∧ true = true) ∧ Int.toNat (0 : Int) ≤ bl2 (vB 18446744073709551616 l - 1)) ∧ ∀ (x : Nat), x ≤ bl2 (vB 18446744073709551616 l - 1) → true = true ∧ True ∧ (∃ (n : Int), [D.val (.int .i64 (↑x : Int))] = [D.val (Value.int IntKind.i64 n)] ∧ (0 : Int) ≤ n ∧ n ≤ (1048576 : Int)) ∧ True ∧ (∃ (l_1 : List Int), ∃ (m : List Int), [D.ints .i64 (dgP (↑x : Int).toNat), D.ints .i64 (dg (vB 18446744073709551616 l))] = [D.ints .i64 l_1, D.ints .i64 m] ∧ (okd l_1 ∧ lenS l_1) ∧ okd m ∧ lenS m) ∧ True ∧ match decide (cmpN (vB 65536 (dgP (↑x : Int).toNat)) (vB 65536 (dg (vB 18446744073709551616 l))) < (0 : Int)) with
  | true => True ∧ True ∧ True ∧ ((AV.d (D.val (.int .i64 (IntKind.i64.wrap ((↑x : Int) + (1 : Int))))) = AV.d (D.val (.int .i64 (↑(IntKind.i64.wrap ((↑x : Int) + (1 : Int))).toNat : Int))) ∧ True) ∧ (sm (some (Blk.fix (D.arr .u64 4 l))) ∧ sm (some (Blk.fix (D.arr .u64 4 [(0 : Int), (0 : Int), (0 : Int), (0 : Int)]))) ∧ True) ∧ true = true) ∧ (IntKind.i64.wrap ((↑x : Int) + (1 : Int))).toNat ≤ bl2 (vB 18446744073709551616 l - 1) ∧ bl2 (vB 18446744073709551616 l - 1) - (IntKind.i64.wrap ((↑x : Int) + (1 : Int))).toNat < bl2 (vB 18446744073709551616 l - 1) - x
  | false => True ∧ (((AV.d (D.val (.int .i64 0)) = AV.d (D.val (.int .i64 (↑(Int.toNat (0 : Int)) : Int))) ∧ True) ∧ (sm (some (Blk.fix (D.arr .u64 4 l))) ∧ sm (some (Blk.fix (D.arr .u64 4 [(0 : Int), (0 : Int), (0 : Int), (0 : Int)]))) ∧ True) ∧ true = true) ∧ nob (gR k p (vB 18446744073709551616 l)) (vB 18446744073709551616 l) (Int.toNat (0 : Int))) ∧ ∀ (x_1 : Nat), nob (gR k p (vB 18446744073709551616 l)) (vB 18446744073709551616 l) x_1 → true = true ∧ True ∧ match decide ((↑x_1 : Int) < (100 : Int)) with
   | true => True ∧ True ∧ True ∧ True ∧ True ∧ True ∧ True ∧ True ∧ (∃ (k_1 : List Int), ∃ (p_1 : Nat), ∃ (n : Nat), [D.str k, D.val (.int .u64 (IntKind.u64.wrap ((↑p : Int) + IntKind.u64.wrap ((32 : Int) * IntKind.u64.wrap (↑x_1 : Int))))), D.val (.int .i64 32)] = [D.str k_1, D.val (.int .u64 (↑p_1 : Int)), D.val (.int .i64 (↑n : Int))] ∧ isB k_1 ∧ p_1 < 18446744073709551616 ∧ n ≤ 1000000) ∧ True ∧ True ∧ True ∧ (((AV.d (D.val (.int .i64 31)) = AV.d (D.val (.int .i64 ((31 : Int) - (↑((31 : Int) - (31 : Int)).toNat : Int)))) ∧ dg (vB 256 (List.drop (32 - ((31 : Int) - (31 : Int)).toNat) (drwL k (IntKind.u64.wrap ((↑p : Int) + IntKind.u64.wrap ((32 : Int) * IntKind.u64.wrap (↑x_1 : Int)))).toNat 32))) = [] ∧ True) ∧ (sm (some (Blk.fix (D.arr .u64 4 l))) ∧ sm (some (Blk.fix (D.arr .u64 4 [(0 : Int), (0 : Int), (0 : Int), (0 : Int)]))) ∧ True) ∧ true = true) ∧ ((31 : Int) - (31 : Int)).toNat ≤ 32 ∧ drwL k (IntKind.u64.wrap ((↑p : Int) + IntKind.u64.wrap ((32 : Int) * IntKind.u64.wrap (↑x_1 : Int)))).toNat 32 = drwL k (IntKind.u64.wrap ((↑p : Int) + IntKind.u64.wrap ((32 : Int) * IntKind.u64.wrap (↑x_1 : Int)))).toNat 32) ∧ ∀ (x_2 : Nat × List Int), x_2.fst ≤ 32 ∧ x_2.snd = drwL k (IntKind.u64.wrap ((↑p : Int) + IntKind.u64.wrap ((32 : Int) * IntKind.u64.wrap (↑x_1 : Int)))).toNat 32 → true = true ∧ True ∧ True ∧ match decide ((31 : Int) - (↑x_2.fst : Int) ≥ (0 : Int)) with
    | true => True ∧ (1 = 1 ∧ 1 ≤ 4096) ∧ (∃ (l : List Int), ∃ (m : List Int), [D.ints .i64 (dg (vB 256 (List.drop (32 - x_2.fst) x_2.snd))), D.ints .i64 [(256 : Int)]] = [D.ints .i64 l, D.ints .i64 m] ∧ (okd l ∧ lenS l) ∧ okd m ∧ lenS m) ∧ True ∧ True ∧ ((0 : Int) ≤ 31 - (↑x_2.fst : Int) ∧ (31 : Int) - (↑x_2.fst : Int) < (↑(drwL k (IntKind.u64.wrap ((↑p : Int) + IntKind.u64.wrap ((32 : Int) * IntKind.u64.wrap (↑x_1 : Int)))).toNat 32).length : Int)) ∧ True ∧ (1 = 1 ∧ 1 ≤ 4096) ∧ (∃ (l : List Int), ∃ (m : List Int), [D.ints .i64 (dg (vB 65536 (dg (vB 256 (List.drop (32 - x_2.fst) x_2.snd))) * vB 65536 [(256 : Int)])), D.ints .i64 [IntKind.i64.wrap ((drwL k (IntKind.u64.wrap ((↑p : Int) + IntKind.u64.wrap ((32 : Int) * IntKind.u64.wrap (↑x_1 : Int)))).toNat 32).getD ((31 : Int) - (↑x_2.fst : Int)).toNat (0 : Int))]] = [D.ints .i64 l, D.ints .i64 m] ∧ (okd l ∧ lenS l) ∧ okd m ∧ lenS m) ∧ True ∧ True ∧ True ∧ True ∧ ((AV.d (D.val (.int .i64 (IntKind.i64.wrap ((31 : Int) - (↑x_2.fst : Int) - (1 : Int))))) = AV.d (D.val (.int .i64 ((31 : Int) - (↑((31 : Int) - IntKind.i64.wrap ((31 : Int) - (↑x_2.fst : Int) - (1 : Int))).toNat : Int)))) ∧ AV.d (D.ints .i64 (dg (vB 65536 (dg (vB 65536 (dg (vB 256 (List.drop (32 - x_2.fst) x_2.snd))) * vB 65536 [(256 : Int)])) + vB 65536 [IntKind.i64.wrap ((drwL k (IntKind.u64.wrap ((↑p : Int) + IntKind.u64.wrap ((32 : Int) * IntKind.u64.wrap (↑x_1 : Int)))).toNat 32).getD ((31 : Int) - (↑x_2.fst : Int)).toNat (0 : Int))]))) = AV.d (D.ints .i64 (dg (vB 256 (List.drop (32 - ((31 : Int) - IntKind.i64.wrap ((31 : Int) - (↑x_2.fst : Int) - (1 : Int))).toNat) (drwL k (IntKind.u64.wrap ((↑p : Int) + IntKind.u64.wrap ((32 : Int) * IntKind.u64.wrap (↑x_1 : Int)))).toNat 32))))) ∧ True) ∧ (sm (some (Blk.fix (D.arr .u64 4 l))) ∧ sm (some (Blk.fix (D.arr .u64 4 [(0 : Int), (0 : Int), (0 : Int), (0 : Int)]))) ∧ True) ∧ true = true) ∧ (((31 : Int) - IntKind.i64.wrap ((31 : Int) - (↑x_2.fst : Int) - (1 : Int))).toNat ≤ 32 ∧ drwL k (IntKind.u64.wrap ((↑p : Int) + IntKind.u64.wrap ((32 : Int) * IntKind.u64.wrap (↑x_1 : Int)))).toNat 32 = drwL k (IntKind.u64.wrap ((↑p : Int) + IntKind.u64.wrap ((32 : Int) * IntKind.u64.wrap (↑x_1 : Int)))).toNat 32) ∧ 32 - ((31 : Int) - IntKind.i64.wrap ((31 : Int) - (↑x_2.fst : Int) - (1 : Int))).toNat < 32 - x_2.fst
    | false => True ∧ True ∧ (∃ (n : Int), [D.val (.int .i64 (↑x : Int))] = [D.val (Value.int IntKind.i64 n)] ∧ (0 : Int) ≤ n ∧ n ≤ (1048576 : Int)) ∧ (∃ (l : List Int), ∃ (m : List Int), [D.ints .i64 (dg (vB 256 (List.drop (32 - x_2.fst) x_2.snd))), D.ints .i64 (dgP (↑x : Int).toNat)] = [D.ints .i64 l, D.ints .i64 m] ∧ (okd l ∧ len1 l) ∧ (okd m ∧ len1 m) ∧ vB 65536 m ≠ 0) ∧ True ∧ True ∧ True ∧ (∃ (l_1 : List Int), ∃ (m : List Int), [D.ints .i64 (dg (vB 65536 (dg (vB 256 (List.drop (32 - x_2.fst) x_2.snd))) % vB 65536 (dgP (↑x : Int).toNat))), D.ints .i64 (dg (vB 18446744073709551616 l))] = [D.ints .i64 l_1, D.ints .i64 m] ∧ (okd l_1 ∧ lenS l_1) ∧ okd m ∧ lenS m) ∧ True ∧ match decide (cmpN (vB 65536 (dg (vB 65536 (dg (vB 256 (List.drop (32 - x_2.fst) x_2.snd))) % vB 65536 (dgP (↑x : Int).toNat)))) (vB 65536 (dg (vB 18446744073709551616 l))) < (0 : Int)) with
     | true => True ∧ (∃ (l : List Int), [D.ints .i64 (dg (vB 65536 (dg (vB 256 (List.drop (32 - x_2.fst) x_2.snd))) % vB 65536 (dgP (↑x : Int).toNat)))] = [D.ints .i64 l] ∧ okd l ∧ lenOk l) ∧ True ∧ True ∧ True ∧ (Sk.arr 4 = Sk.arr 4 ∧ 4 ≠ 0 ∧ 4 = 4 ∧ false = false) ∧ True ∧ True ∧ ((4 ≠ 0 ∧ 4 = 4 ∧ true = true) ∧ false = false ∧ false = false ∧ True) ∧ D.tup [D.arr .u64 4 (nB 18446744073709551616 4 (vB 65536 (dg (vB 65536 (dg (vB 256 (List.drop (32 - x_2.fst) x_2.snd))) % vB 65536 (dgP (↑x : Int).toNat))))), D.val (.int .i64 (IntKind.i64.wrap ((32 : Int) * IntKind.i64.wrap ((↑x_1 : Int) + (1 : Int))))), D.val (.int .i64 0)] = F
     | false => True ∧ True ∧ ((AV.d (D.val (.int .i64 (IntKind.i64.wrap ((↑x_1 : Int) + (1 : Int))))) = AV.d (D.val (.int .i64 (↑(IntKind.i64.wrap ((↑x_1 : Int) + (1 : Int))).toNat : Int))) ∧ True) ∧ (sm (some (Blk.fix (D.arr .u64 4 l))) ∧ sm (some (Blk.fix (D.arr .u64 4 [(0 : Int), (0 : Int), (0 : Int), (0 : Int)]))) ∧ True) ∧ true = true) ∧ nob (gR k p (vB 18446744073709551616 l)) (vB 18446744073709551616 l) (IntKind.i64.wrap ((↑x_1 : Int) + (1 : Int))).toNat ∧ 100 - (IntKind.i64.wrap ((↑x_1 : Int) + (1 : Int))).toNat < 100 - x_1
   | false => (1 = 1 ∧ True) ∧ (Sk.arr 4 = Sk.arr 4 ∧ 4 ≠ 0 ∧ 4 = 4 ∧ false = false) ∧ True ∧ True ∧ ((4 ≠ 0 ∧ 4 = 4 ∧ true = true) ∧ false = false ∧ false = false ∧ True) ∧ D.tup [D.arr .u64 4 [(0 : Int), (0 : Int), (0 : Int), (0 : Int)], D.val (.int .i64 3200), D.val (.int .i64 6)] = F) := by kernel_rfl
end Go.Proofs.YtkicjckhkefnpaaDoor
namespace Go.Proofs.YtkicjckhkefnpaaDoor
open Go Go.Vg
theorem fst_skip {g : Nat → Nat} {v : Nat} : ∀ {x : Nat}, x ≤ 100 → (∀ t, t < x → ¬ g t < v) → fstB g v 100 0 = fstB g v (100 - x) x
 | 0, _, _ => rfl
 | x + 1, h, hn => by
  rw [fst_skip (x := x) (by omega) (fun t ht => hn t (by omega)), show 100 - x = (100 - (x + 1)) + 1 by omega, fstB, if_neg (hn x (by omega))]
theorem fst_hit {g : Nat → Nat} {v x : Nat} (h : nob g v x) (hx : x < 100) (hg : g x < v) : fstB g v 100 0 = some x := by
 rw [fst_skip h.1 h.2, show 100 - x = (99 - x) + 1 by omega, fstB, if_pos hg]
theorem fst_end {g : Nat → Nat} {v : Nat} (h : nob g v 100) : fstB g v 100 0 = none := by
 rw [fst_skip h.1 h.2]
 rfl
theorem nob_succ {g : Nat → Nat} {v x : Nat} (h : nob g v x) (hx : x < 100) (hg : ¬ g x < v) : nob g v (x + 1) := by
 refine ⟨by omega, fun t ht => ?_⟩
 rcases Nat.lt_succ_iff_lt_or_eq.1 ht with h1 | rfl
 ·exact h.2 t h1
 ·exact hg
theorem itS_add (s : SR) (a : Nat) : ∀ b, itS s (a + b) = itS (itS s a) b
 | 0 => rfl
 | b + 1 => by
  show nxS (itS s (a + b)) = nxS (itS (itS s a) b)
  rw [itS_add s a b]
theorem nxV_byte {s : SR} (h : okR s) : 0 ≤ nxV s ∧ nxV s < 256 := by
 unfold nxV
 obtain ⟨b, e, hb⟩ := byte_at (nxB_bytes h) (i := s.p % 32) (by rw [nxB_len h]; omega)
 rw [e]
 omega
theorem itV_bytes {s : SR} (h : okR s) (n : Nat) : isBytes (itV s n) := by
 intro x hx
 unfold itV at hx
 obtain ⟨i, _, rfl⟩ := List.mem_map.1 hx
 exact nxV_byte (itS_ok h i)
theorem bl2_le {x n : Nat} (h : x < 2 ^ n) : bl2 x ≤ n := by
 unfold bl2
 split
 ·omega
 ·rename_i h0
  have := (Nat.log2_lt h0).2 h
  omega
theorem lt_bl2 (x : Nat) : x < 2 ^ bl2 x := by
 unfold bl2
 split
 ·rename_i h; rw [h]; decide
 ·exact Nat.lt_log2_self
theorem bl2_iff {n v : Nat} (hv : v ≠ 0) : 2 ^ n < v ↔ n < bl2 (v - 1) := by
 constructor
 ·intro h
  apply Classical.byContradiction
  intro hn
  have h1 := lt_bl2 (v - 1)
  have h2 : 2 ^ bl2 (v - 1) ≤ 2 ^ n := Nat.pow_le_pow_right (by decide) (by omega)
  omega
 ·intro h
  apply Classical.byContradiction
  intro hn
  have := bl2_le (x := v - 1) (n := n) (by omega)
  omega
theorem zeroN : nB 18446744073709551616 4 0 = [0, 0, 0, 0] := by decide
set_option maxRecDepth 100000 in
theorem m97 : Meets Tryd.prog 97 sp97 := by
 refine meets_of_owed (C := c0) ⟨tab_ok, fun f s h => by cases h⟩ (by kernel_rfl) (by kernel_rfl : Tryd.prog.funcs[97]? = some Tryd.f97) (by kernel_rfl) (by kernel_rfl) (by kernel_rfl) _ ?_
 rintro _ ⟨l, rfl, hb, hl⟩
 refine ⟨fun _ => rfl, inv97 l, ?_⟩
 show owed c0 (inv97 l) Tryd.f97 [.arr .u8 32 l] (num4 (nB 18446744073709551616 4 (vB 256 l)))
 rw [vc97]
 simp (decide := true) only [Int.toNat_natCast, sm, show Int.toNat 0 = 0 from rfl, eq_self, true_and, and_true, ne_eq, not_false_eq_true]
 refine ⟨⟨rfl, by rw [List.take_zero, show vB 256 [] = 0 from rfl, zeroN]⟩, fun x hx => ?_⟩
 split
 ·rename_i hlt
  have hlt : x < 32 := by have := of_decide_eq_true hlt; omega
  have hq : IntKind.i64.wrap ((x : Int).tdiv 8) = ((x / 8 : Nat) : Int) := by
   rw [show (8 : Int) = ((8 : Nat) : Int) from rfl, tdivN, wi (by omega) (by omega)]
  have hr : IntKind.u64.wrap (IntKind.i64.wrap ((x : Int).tmod 8 * 8)) = ((x % 8 * 8 : Nat) : Int) := by
   rw [show (8 : Int) = ((8 : Nat) : Int) from rfl, tmodN, show ((x % 8 : Nat) : Int) * ((8 : Nat) : Int) = ((x % 8 * 8 : Nat) : Int) by simp, wi (by omega) (by omega), wu (by omega) (by omega)]
  have hw : IntKind.u64.wrap (l.getD x 0) = l.getD x 0 := by
   have := hb _ (getD_mem (l := l) (n := x) (by omega))
   exact wu (by omega) (by omega)
  have hn : IntKind.i64.wrap ((x : Int) + 1) = ((x + 1 : Nat) : Int) := by rw [wi (by omega) (by omega)]; omega
  rw [hq, hr, hn]
  simp only [Int.toNat_natCast, hw, wordG hb 4 (by omega) x (by omega)]
  and_intros <;> first | trivial | rfl | omega
 ·rename_i hlt
  have hlt := of_decide_eq_false hlt
  obtain rfl : x = 32 := by omega
  rw [List.take_of_length_le (by omega)]
theorem m96o : Meets Tryd.prog 96 sp96o := by
 have e : sp96o = sp96 := by
  unfold sp96o shL
  simp only [opq_eq]
  rfl
 rw [e]; exact m96
theorem m97o : Meets Tryd.prog 97 sp97o := by
 have e : sp97o = sp97 := by
  unfold sp97o ofB
  simp only [opq_eq]
  rfl
 rw [e]; exact m97
theorem m94o : Meets Tryd.prog 94 sp94o := by
 have e : sp94o = sp94 := by
  unfold sp94o lnL
  simp only [opq_eq]
  rfl
 rw [e]; exact m94
theorem m98o : Meets Tryd.prog 98 sp98o := by
 have e : sp98o = sp98 := by
  unfold sp98o cmL
  simp only [opq_eq]
  rfl
 rw [e]; exact m98
theorem sh_sh {w L : Nat} (hw : w < 2 ^ 256) (hL : L ≤ 256) (l : List Int) (hl : l = nB 18446744073709551616 4 w) :
  shL (shL l (256 - (L : Int))) ((L : Int) - 256) = nB 18446744073709551616 4 (w % 2 ^ L) := by
 have hp : (18446744073709551616 : Nat) ^ 4 = 2 ^ 256 := by decide
 unfold shL
 rw [opq_eq, opq_eq, hl, vB_nB, vB_nB, hp, Nat.mod_eq_of_lt hw]
 have e1 : shf w (256 - (L : Int)) = w * 2 ^ (256 - L) := by
  unfold shf
  rw [if_pos (by omega), show (256 - (L : Int)).toNat = 256 - L by omega]
 have e2 : shf (w * 2 ^ (256 - L) % 2 ^ 256) ((L : Int) - 256) = w * 2 ^ (256 - L) % 2 ^ 256 / 2 ^ (256 - L) := by
  unfold shf
  split
  ·obtain rfl : L = 256 := by omega
   simp
  ·rw [show (-((L : Int) - 256)).toNat = 256 - L by omega]
 have e3 : w * 2 ^ (256 - L) % 2 ^ 256 = w % 2 ^ L * 2 ^ (256 - L) := by
  have : (2 : Nat) ^ 256 = 2 ^ L * 2 ^ (256 - L) := by rw [← Nat.pow_add, show L + (256 - L) = 256 by omega]
  rw [this, Nat.mul_mod_mul_right]
 rw [e1, e2, e3, Nat.mul_div_cancel _ (Nat.two_pow_pos _)]
theorem wv_one1 : vB 18446744073709551616 [(1 : Int), 0, 0, 0] = 1 := by decide
theorem isN_nB (v : Nat) : isN (nB 18446744073709551616 4 v) := ⟨nB_okw 4 v, nB_length _ _ _⟩
theorem n4v' {v : Nat} (h : v < 2 ^ 256) : vB 18446744073709551616 (nB 18446744073709551616 4 v) = v := by
 rw [vB_nB, show (18446744073709551616 : Nat) ^ 4 = 2 ^ 256 by decide, Nat.mod_eq_of_lt h]
theorem dif_one {v : Nat} (h0 : v ≠ 0) (h : v < 2 ^ 256) : dif v 1 = v - 1 := by
 have := dif_ge (X := v) (M := 1)
 unfold dif
 omega
set_option maxRecDepth 100000 in
theorem m41 : MeetsQ Tryd.prog 41 sp41 := by
 refine meetsIo_of_owed (C := c41) ⟨tab_ok, lkS_ok ⟨m93, m94o, m95q, m97o, m96o, m98o, trivial⟩⟩ (by kernel_rfl) (by kernel_rfl : Tryd.prog.funcs[41]? = some Tryd.f41) (by kernel_rfl) (by kernel_rfl) (by kernel_rfl) _ ⟨by kernel_rfl, by kernel_rfl, by kernel_rfl⟩ ?_
 rintro x ds ⟨s, l, he, hs, hl⟩
 obtain ⟨rfl, rfl⟩ := List.cons.inj he
 refine ⟨inv41 s l, ?_⟩
 show owedIo c41 (inv41 s l) Tryd.f41 (stQ s) [num4 l] (.tup [.tup [num4 (bwV (gT (srOf (stQ s)) (vB 18446744073709551616 l)) (vB 18446744073709551616 l)), i64 (bwE (gT (srOf (stQ s)) (vB 18446744073709551616 l)) (vB 18446744073709551616 l))], stQ (bwS (srOf (stQ s)) (vB 18446744073709551616 l))])
 rw [vc41, srOq]
 obtain ⟨v, hv⟩ : ∃ v, v = vB 18446744073709551616 l := ⟨_, rfl⟩
 have hvl : v < 2 ^ 256 := hv ▸ wv_lt hl.1 hl.2
 have hlv : l = nB 18446744073709551616 4 v := by rw [hv, ← hl.2, nB_vB hl.1]
 have ez : eqB l [0, 0, 0, 0] = decide (v = 0) := hv ▸ wv_zero hl.1 hl.2
 rw [ez, ← hv]
 unfold bwS
 simp (decide := true) only [Int.toNat_natCast, sm, wv_one1, show Int.toNat 0 = 0 from rfl, eq_self, true_and, and_true, ne_eq, not_false_eq_true]
 by_cases h0 : v = 0
 ·rw [decide_eq_true h0]
  unfold bwV bwE bwN
  rw [if_pos h0, if_pos h0, if_pos h0, zeroN]
  rfl
 have htop : nB 18446744073709551616 4 (dif v 1) = nB 18446744073709551616 4 (v - 1) := by rw [dif_one h0 hvl]
 obtain ⟨L, hL⟩ : ∃ L, L = bl2 (v - 1) := ⟨_, rfl⟩
 have hL256 : L ≤ 256 := hL ▸ bl2_le (by omega)
 have hln : lnL (nB 18446744073709551616 4 (v - 1)) = (L : Int) := by
  unfold lnL
  rw [opq_eq, n4v' (by omega), ← hL]
 have hoff : IntKind.i64.wrap ((L : Int) - 256) = (L : Int) - 256 := wi (by omega) (by omega)
 have hneg : IntKind.i64.wrap (0 - ((L : Int) - 256)) = 256 - (L : Int) := by rw [wi (by omega) (by omega)]; omega
 rw [decide_eq_false h0]
 simp only [htop, hln, hoff, hneg]
 refine ⟨⟨l, _, rfl, hl, by intro z hz; simp only [List.mem_cons, List.not_mem_nil, or_false] at hz; rcases hz with rfl | rfl | rfl | rfl <;> omega, rfl⟩, ⟨_, rfl, isN_nB _⟩, ⟨⟨rfl, rfl⟩, Nat.zero_le _, fun t ht => absurd ht (Nat.not_lt_zero t)⟩, fun x hx => ?_⟩
 split
 ·rename_i hlt
  have hlt : x < 100 := by have := of_decide_eq_true hlt; omega
  refine ⟨⟨rfl, rfl, rfl⟩, fun y hy => ?_⟩
  obtain ⟨j, x'⟩ := y
  obtain ⟨hj, hx'⟩ := hy
  simp only at hj hx' ⊢
  obtain rfl : x' = x := by omega
  have e1 : IntKind.i64.wrap ((x' : Int) + 1) = ((x' + 1 : Nat) : Int) := by rw [wi (by omega) (by omega)]; omega
  split
  ·rename_i h
   have h : j < 32 := by have := of_decide_eq_true h; omega
   have e2 : IntKind.i64.wrap ((j : Int) + 1) = ((j + 1 : Nat) : Int) := by rw [wi (by omega) (by omega)]; omega
   have e3 : nxV (itS s (32 * x' + j)) = nxV (itS (itS s (32 * x')) j) := by rw [itS_add]
   have e4 : nxS (itS s (32 * x' + j)) = itS s (32 * x' + (j + 1)) := rfl
   simp only [e2, Int.toNat_natCast, srOq, e3, itV_set _ h, e4]
   exact ⟨⟨_, rfl, itS_ok hs _⟩, ⟨by omega, by omega⟩, h, by and_intros <;> first | trivial | rfl, by omega, by omega⟩
  ·rename_i h
   have h := of_decide_eq_false h
   obtain rfl : j = 32 := by omega
   have hso : okR (itS s (32 * x')) := itS_ok hs _
   have e5 : itV (itS s (32 * x')) 32 ++ List.replicate (32 - 32) 0 = itV (itS s (32 * x')) 32 := by rw [Nat.sub_self, List.replicate_zero, List.append_nil]
   have hb := itV_bytes hso 32
   have hbl := itV_len (itS s (32 * x')) 32
   obtain ⟨w, hw⟩ : ∃ w, w = vB 256 (itV (itS s (32 * x')) 32) := ⟨_, rfl⟩
   have hwl : w < 2 ^ 256 := by
    have := vB_lt (b := 256) hb
    rw [hbl] at this
    rw [hw]
    exact Nat.lt_of_lt_of_le this (by decide)
   have hof : ofB (itV (itS s (32 * x')) 32) = nB 18446744073709551616 4 w := by unfold ofB; rw [opq_eq, ← hw]
   have hg : w % 2 ^ L = gT s v x' := by unfold gT; rw [← hw, ← hL]
   have hss := sh_sh hwl hL256 _ hof
   have hN1 : isN (shL (ofB (itV (itS s (32 * x')) 32)) (256 - (L : Int))) := by unfold shL; rw [opq_eq]; exact isN_nB _
   have hgl : gT s v x' < 2 ^ 256 := by rw [← hg]; exact Nat.lt_of_le_of_lt (Nat.mod_le _ _) hwl
   have hcm : cmL (nB 18446744073709551616 4 (gT s v x')) l = cmpN (gT s v x') v := by unfold cmL; rw [opq_eq, n4v' hgl, ← hv]
   have hN0 : isN (ofB (itV (itS s (32 * x')) 32)) := hof ▸ isN_nB _
   rw [e5]
   rw [hss, hg, hcm]
   refine ⟨⟨_, rfl, hb, hbl⟩, ⟨_, _, rfl, hN0, by unfold i64ok; omega⟩, ⟨_, _, rfl, hN1, by unfold i64ok; omega⟩, ⟨_, _, rfl, isN_nB _, hl⟩, ?_⟩
   by_cases hc : gT s v x' < v
   ·have : cmpN (gT s v x') v = -1 := by unfold cmpN; rw [if_pos hc]
    rw [this]
    unfold bwV bwE bwN
    rw [if_neg h0, if_neg h0, if_neg h0, fst_hit hx hlt hc]
    rfl
   ·have : ¬ cmpN (gT s v x') v < 0 := by unfold cmpN; rw [if_neg hc]; split <;> decide
    rw [decide_eq_false this]
    simp only [e1, Int.toNat_natCast, show 32 * (x' + 1) = 32 * x' + 32 by omega]
    exact ⟨by and_intros <;> first | trivial | rfl, nob_succ hx hlt hc, by omega⟩
 ·rename_i hlt
  have hlt := of_decide_eq_false hlt
  obtain rfl : x = 100 := by have := hx.1; omega
  unfold bwV bwE bwN
  rw [if_neg h0, if_neg h0, if_neg h0, fst_end hx, zeroN]
end Go.Proofs.YtkicjckhkefnpaaDoor
namespace Go.Proofs.YtkicjckhkefnpaaDoor
open Go Go.Vg
theorem plc_byte (k : List Int) (p : Nat) : 0 ≤ plcB k p ∧ plcB k p < 256 := by
 unfold plcB
 obtain ⟨b, e, hb⟩ := byte_at (l := mkL k (be8 (p / 32))) (digL_bytes _) (i := p % 32) (by have : (mkL k (be8 (p / 32))).length = 32 := digL_len _; omega)
 rw [e]
 omega
theorem drw_bytes (k : List Int) (p n : Nat) : isBytes (drwL k p n) := by
 intro x hx
 unfold drwL at hx
 obtain ⟨i, _, rfl⟩ := List.mem_map.1 hx
 exact plc_byte _ _
theorem dg_len0 (v : Nat) : ((((dg v).length : Nat) : Int) == 0) = decide (v = 0) := by
 by_cases h : v = 0
 ·rw [h]; rfl
 ·have h2 : (dg v).length ≠ 0 := by
   intro e
   have := vl_dg v
   rw [List.eq_nil_of_length_eq_zero e] at this
   exact h this.symm
  rw [decide_eq_false h]
  simp [h2]
theorem dgP_eq (n : Nat) : dgP n = dg (2 ^ n) := by unfold dgP; rw [opq_eq]
set_option maxRecDepth 100000 in
theorem m42 : Meets Tryd.prog 42 sp42 := by
 refine meets_of_owed (C := c42) ⟨tab_ok, lkS_ok ⟨m48, m100, m99, m46, m54, m53, m51, m50, trivial⟩⟩ (by kernel_rfl) (by kernel_rfl : Tryd.prog.funcs[42]? = some Tryd.f42) (by kernel_rfl) (by kernel_rfl) (by kernel_rfl) _ ?_
 rintro _ ⟨k, p, l, rfl, hk, hp, hl⟩
 refine ⟨fun _ => rfl, inv42 k p l, ?_⟩
 show owed c42 (inv42 k p l) Tryd.f42 [.str k, u64 p, num4 l] (.tup [num4 (bwV (gR k (p : Int).toNat (vB 18446744073709551616 l)) (vB 18446744073709551616 l)), i64 (bwN (gR k (p : Int).toNat (vB 18446744073709551616 l)) (vB 18446744073709551616 l) : Nat), i64 (bwE (gR k (p : Int).toNat (vB 18446744073709551616 l)) (vB 18446744073709551616 l))])
 rw [vc42, Int.toNat_natCast]
 obtain ⟨v, hv⟩ : ∃ v, v = vB 18446744073709551616 l := ⟨_, rfl⟩
 have hvl : v < 2 ^ 256 := hv ▸ wv_lt hl.1 hl.2
 rw [← hv]
 simp (decide := true) only [dg_len0, dgP_eq, vl_dg, Int.toNat_natCast, sm, show Int.toNat 0 = 0 from rfl, show ((31 : Int) - 31).toNat = 0 from rfl, eq_self, true_and, and_true, ne_eq, not_false_eq_true]
 refine ⟨⟨l, rfl, hl.1, hl.2⟩, ?_⟩
 by_cases h0 : v = 0
 ·rw [decide_eq_true h0]
  unfold bwV bwE bwN
  rw [if_pos h0, if_pos h0, if_pos h0, zeroN]
  rfl
 obtain ⟨L, hL⟩ : ∃ L, L = bl2 (v - 1) := ⟨_, rfl⟩
 have hL256 : L ≤ 256 := hL ▸ bl2_le (by omega)
 rw [decide_eq_false h0, ← hL]
 refine ⟨⟨rfl, Nat.zero_le _⟩, fun n hn => ?_⟩
 have hn2 : 2 ^ n ≤ 2 ^ 256 := Nat.pow_le_pow_right (by decide) (by omega)
 have hB1 : (2 : Nat) ^ 256 < 65536 ^ 64 := by decide
 have hln := lens (x := 2 ^ n) (by omega)
 have hlv := lens (x := v) (by omega)
 refine ⟨⟨_, rfl, by omega, by omega⟩, ⟨_, _, rfl, ⟨hln.1, hln.2.2.1⟩, hlv.1, hlv.2.2.1⟩, ?_⟩
 by_cases hc : 2 ^ n < v
 ·have e1 : cmpN (2 ^ n) v = -1 := by unfold cmpN; rw [if_pos hc]
  have hnL : n < L := hL ▸ (bl2_iff h0).1 hc
  have e2 : IntKind.i64.wrap ((n : Int) + 1) = ((n + 1 : Nat) : Int) := by rw [wi (by omega) (by omega)]; omega
  rw [e1]
  simp only [e2, Int.toNat_natCast]
  exact ⟨by and_intros <;> first | trivial | rfl, by omega, by omega⟩
 have e1 : ¬ cmpN (2 ^ n) v < 0 := by unfold cmpN; rw [if_neg hc]; split <;> decide
 obtain rfl : n = L := by
  apply Classical.byContradiction
  intro hne
  exact hc ((bl2_iff h0).2 (hL ▸ by omega))
 rw [decide_eq_false e1]
 refine ⟨⟨rfl, Nat.zero_le _, fun t ht => absurd ht (Nat.not_lt_zero t)⟩, fun x hx => ?_⟩
 split
 ·rename_i hlt
  have hlt : x < 100 := by have := of_decide_eq_true hlt; omega
  have e2 : IntKind.u64.wrap ((p : Int) + IntKind.u64.wrap (32 * IntKind.u64.wrap (x : Int))) = (((p + 32 * x) % 18446744073709551616 : Nat) : Int) := by
   rw [wN64, Nat.mod_eq_of_lt (by omega), show (32 : Int) * ((x : Nat) : Int) = ((32 * x : Nat) : Int) by omega, wN64, Nat.mod_eq_of_lt (by omega), ← Int.natCast_add, wN64]
  obtain ⟨S, hS⟩ : ∃ S, S = drwL k ((p + 32 * x) % 18446744073709551616) 32 := ⟨_, rfl⟩
  have hSl : S.length = 32 := by rw [hS, drw_len]
  have hSb : isBytes S := by rw [hS]; exact drw_bytes _ _ _
  simp only [e2, Int.toNat_natCast, ← hS, hSl]
  have h256 : vB 65536 [256] = 256 := rfl
  have hA : ∀ i, vB 256 (S.drop i) < 256 ^ 64 := fun i => b64 (fun y hy => hSb y (List.mem_of_mem_drop hy)) (by rw [List.length_drop]; omega)
  refine ⟨⟨k, _, 32, rfl, hk, Nat.mod_lt _ (by decide), by decide⟩, ⟨rfl, by rw [Nat.sub_zero, List.drop_of_length_le (by omega)]; rfl⟩, fun y hy => ?_⟩
  obtain ⟨t, S'⟩ := y
  obtain ⟨ht, hS'⟩ := hy
  simp only at ht hS' ⊢
  obtain rfl : S' = S := hS'
  split
  ·rename_i hge
   have hge : t < 32 := by have := of_decide_eq_true hge; omega
   obtain ⟨i, hi⟩ : ∃ i, i = 31 - t := ⟨_, rfl⟩
   have ei : (31 : Int) - (t : Int) = (i : Int) := by omega
   have e3 : 32 - t = i + 1 := by omega
   have hil : i < S'.length := by omega
   have hsb := hSb _ (getD_mem (l := S') (n := i) hil)
   obtain ⟨s, es⟩ := Int.eq_ofNat_of_zero_le hsb.1
   have hs : IntKind.i64.wrap (s : Int) = (s : Int) := wi (by omega) (by omega)
   have hss : vB 65536 [(s : Int)] = s := by simp [vB]
   have w2 : IntKind.i64.wrap ((i : Int) - 1) = (i : Int) - 1 := wi (by omega) (by omega)
   have w3 : ((31 : Int) - ((i : Int) - 1)).toNat = t + 1 := by omega
   have e4 : 32 - (t + 1) = i := by omega
   have hv2 := vB_dropS 256 i hil
   have h3 := hA (i + 1)
   have hl1 := lens (x := vB 256 (S'.drop (i + 1))) (Nat.lt_trans h3 (by decide))
   have hl2 := lens (x := vB 256 (S'.drop (i + 1)) * 256) (Nat.lt_trans (Nat.mul_lt_mul_of_pos_right h3 (by decide : 0 < 256)) (by decide))
   rw [es, Int.toNat_natCast] at hv2
   rw [ei, e3]
   simp only [Int.toNat_natCast, es, hs, hss, w2, w3, e4, h256, hv2]
   refine ⟨⟨_, _, rfl, ⟨hl1.1, hl1.2.2.1⟩, ?_, by unfold lenS; decide⟩, ⟨by omega, by omega⟩, ⟨_, _, rfl, ⟨hl2.1, hl2.2.2.1⟩, ?_, by unfold lenS; simp⟩, ⟨by rw [show (31 : Int) - ((t + 1 : Nat) : Int) = (i : Int) - 1 by omega], by rw [Nat.mul_comm, Nat.add_comm]⟩, by omega, by omega⟩
   ·intro y hy
    simp only [List.mem_singleton] at hy
    subst hy; decide
   ·intro y hy
    simp only [List.mem_singleton] at hy
    subst hy; omega
  ·rename_i hge
   have hge := of_decide_eq_false hge
   obtain rfl : t = 32 := by omega
   rw [Nat.sub_self, List.drop_zero]
   have hA0 : vB 256 S' < 256 ^ 64 := hA 0
   have hg : vB 256 S' % 2 ^ n = gR k p v x := by unfold gR; rw [← hS, ← hL]
   have hgl : gR k p v x < 65536 ^ 64 := by rw [← hg]; exact Nat.lt_of_le_of_lt (Nat.mod_le _ _) (Nat.lt_trans hA0 (by decide))
   have hl1 := lens (x := vB 256 S') (Nat.lt_trans hA0 (by decide))
   have hl2 := lens hgl
   rw [hg]
   refine ⟨⟨_, rfl, by omega, by omega⟩, ⟨_, _, rfl, ⟨hl1.1, hl1.2.1⟩, ⟨hln.1, hln.2.1⟩, by rw [vl_dg]; exact Nat.ne_of_gt (Nat.two_pow_pos n)⟩, ⟨_, _, rfl, ⟨hl2.1, hl2.2.2.1⟩, hlv.1, hlv.2.2.1⟩, ?_⟩
   have e3 : IntKind.i64.wrap ((x : Int) + 1) = ((x + 1 : Nat) : Int) := by rw [wi (by omega) (by omega)]; omega
   have e4 : IntKind.i64.wrap (32 * ((x + 1 : Nat) : Int)) = ((32 * (x + 1) : Nat) : Int) := by rw [wi (by omega) (by omega)]; omega
   by_cases hgv : gR k p v x < v
   ·have : cmpN (gR k p v x) v = -1 := by unfold cmpN; rw [if_pos hgv]
    rw [this, e3, e4]
    unfold bwV bwE bwN
    rw [if_neg h0, if_neg h0, if_neg h0, fst_hit hx hlt hgv]
    exact ⟨⟨_, rfl, hl2.1, hl2.2.2.2⟩, rfl⟩
   ·have : ¬ cmpN (gR k p v x) v < 0 := by unfold cmpN; rw [if_neg hgv]; split <;> decide
    rw [decide_eq_false this]
    simp only [e3, Int.toNat_natCast]
    exact ⟨by and_intros <;> first | trivial | rfl, nob_succ hx hlt hgv, by omega⟩
 ·rename_i hlt
  have hlt := of_decide_eq_false hlt
  obtain rfl : x = 100 := by have := hx.1; omega
  unfold bwV bwE bwN
  rw [if_neg h0, if_neg h0, if_neg h0, fst_end hx, zeroN]
  rfl
end Go.Proofs.YtkicjckhkefnpaaDoor
namespace Go.Proofs.YtkicjckhkefnpaaDoor
open Go Go.Vg
def sp40q : Go.Vg.Spec := ⟨sp40.pre, fun ds => .tup [stQ (sr0 (intsOf (ds.headD default)) 0)], true, [26, 8000000]⟩
set_option maxRecDepth 100000 in
theorem m40q : MeetsQ Tryd.prog 40 sp40q := (congrArg (MeetsQ Tryd.prog 40) (show sp40q = sp40 from rfl)).mpr m40
def drS (s : SR) (x : D) : SR := if boolOf (fldOf x 1) = true then bwS s (vB 18446744073709551616 (arrOf (fldOf x 3))) else if boolOf (fldOf x 0) = true then skS s (numOf (fldOf x 2)) else bysS s (numOf (fldOf x 2))
def dsN (k : List Int) (xs : List D) : Nat → SR
 | 0 => sr0 k 0
 | i + 1 => drS (dsN k xs i) (xs.getD i default)
end Go.Proofs.YtkicjckhkefnpaaDoor
