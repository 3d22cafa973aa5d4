/- Vg, part X: functions without a body, for which the model has an entry. -/
import Derived.Test.YtpkcmjfmoemekaaZb10
import Derived.Laws.Externs
namespace Go.Vg
open Go Go.RowKit
theorem meets_extern {P : Program} {f : FuncId} {fn : Func} {e : Array Value → Sem Value} {sp : Spec} (hf : P.funcs[f]? = some fn) (hname : (fn.name == "runtime.NumGoroutine") = false)
  (hb : fn.body.isNone = true) (hn : Extern.findNext fn = none) (he : Extern.find fn = some e)
  (h : ∀ ds, sp.pre ds → flatD (sp.f ds) = true ∧ ∀ (X : Nat → Prop) (w : World) (vs : List Value), All2 (VR w X) ds vs → ∃ v, (e vs.toArray).run P w = .ok v w ∧ VR w X (sp.f ds) v) : Meets P f sp := by
 intro ds hpre
 obtain ⟨h1, h2⟩ := h ds hpre
 refine ⟨fun _ => h1, fun X w vs _ hvs => ?_⟩
 obtain ⟨v, hv, hr⟩ := h2 _ w vs hvs
 unfold UponCall
 rw [run_callFunc_extern hf hname hb hn he, hv]
 exact ⟨Grow.refl w, flat_VR h1 hr⟩
theorem all2_3 {w : World} {X : Nat → Prop} {a b c : D} {vs : List Value} (h : All2 (VR w X) [a, b, c] vs) : ∃ x y z, vs = [x, y, z] ∧ VR w X a x ∧ VR w X b y ∧ VR w X c z := by
 cases h with
 | cons h1 h => cases h with
  | cons h2 h => cases h with
   | cons h3 h => cases h with
    | nil => exact ⟨_, _, _, rfl, h1, h2, h3⟩
theorem vr_num {w : World} {X : Nat → Prop} {k : IntKind} {n : Int} {v : Value} (h : VR w X (.val (.int k n)) v) : v = .int k n := vr_val h
theorem num_vr (w : World) (X : Nat → Prop) (k : IntKind) (n : Int) : VR w X (.val (.int k n)) (.int k n) := vr_of_int w X k n
theorem pair_vr (w : World) (X : Nat → Prop) (k k' : IntKind) (n m : Int) : VR w X (.tup [.val (.int k n), .val (.int k' m)]) (.tuple #[.int k n, .int k' m]) :=
 ⟨[.int k n, .int k' m], rfl, .cons (VR.one (num_vr w X k n) rfl) (.cons (VR.one (num_vr w X k' m) rfl) .nil)⟩
end Go.Vg
namespace Go.Proofs.Ytpkcmjfmoemekaa
open Go Go.Vg
abbrev u64n (n : Nat) : D := .val (.int .u64 (n : Int))
abbrev B64 : Nat := 18446744073709551616
def nn (d : D) : Nat := (numOf d).toNat
def sbd (x y b : Nat) : Nat := (x + B64 - y - b) % B64
def sbb (x y b : Nat) : Nat := if x < y + b then 1 else 0
def dif (a b : Nat) : Nat := (a + 2 ^ 256 - b) % 2 ^ 256
def i64ok (n : Int) : Prop := -9223372036854775808 ≤ n ∧ n ≤ 9223372036854775807
def sp54 : Go.Vg.Spec := ⟨fun ds => ∃ x y b, ds = [u64n x, u64n y, u64n b] ∧ x < B64 ∧ y < B64 ∧ b ≤ 1,
 fun ds => .tup [u64n (sbd (nn (ds.headD default)) (nn (ds.getD 1 default)) (nn (ds.getD 2 default))), u64n (sbb (nn (ds.headD default)) (nn (ds.getD 1 default)) (nn (ds.getD 2 default)))], true, [22, 22, 22]⟩
def sp44 : Go.Vg.Spec := ⟨fun ds => ∃ l m, ds = [num4 l, num4 m] ∧ (okw l ∧ l.length = 4) ∧ okw m ∧ m.length = 4,
 fun ds => .tup [num4 (nB 18446744073709551616 4 (dif (wv (arrOf (ds.headD default))) (wv (arrOf (ds.getD 1 default))))), u64n (bor (wv (arrOf (ds.headD default))) (wv (arrOf (ds.getD 1 default))))], true, [24, 24]⟩
def c44 : Ctx := ⟨tab, lkS [(54, sp54)], [], []⟩
def subL (l m : List Int) (i : Nat) : List Int := nB 18446744073709551616 i ((vB 18446744073709551616 (l.take i) + 18446744073709551616 ^ i - vB 18446744073709551616 (m.take i)) % 18446744073709551616 ^ i) ++ l.drop i
def inv44 (l m : List Int) : Nat → Option Inv
 | 3 => some ⟨Nat, fun i => [(8, .d (i64 i)), (6, .d (u64n (bor (vB 18446744073709551616 (l.take i)) (vB 18446744073709551616 (m.take i)))))], fun i => [(2, .fix (num4 (subL l m i)))], fun s => (slotN s 8).toNat, fun _ i => i ≤ 4, fun i => 4 - i⟩
 | _ => none
set_option maxRecDepth 100000 in
theorem vc44  (l m : List Int) (F : D)  :
    (owed c44 (inv44 l m) Try.f44 [num4 l, num4 m] F) = (
 (True ∧ false = false) ∧ (True ∧ false = false) ∧ (True ∧ 4 ≠ 0) ∧ True ∧ True ∧ True ∧ (((AV.d (D.val (.int .i64 0)) = AV.d (D.val (.int .i64 (↑(Int.toNat (0 : Int)) : Int))) ∧ AV.d (D.val (.int .u64 0)) = AV.d (D.val (.int .u64 (↑(bor (vB 18446744073709551616 (List.take (Int.toNat (0 : Int)) l)) (vB 18446744073709551616 (List.take (Int.toNat (0 : Int)) m))) : Int))) ∧ True) ∧ (some (Blk.fix (D.arr .u64 4 l)) = some (Blk.fix (D.arr .u64 4 (subL l m (Int.toNat (0 : Int))))) ∧ sm (some (Blk.fix (D.arr .u64 4 m))) ∧ sm (some (Blk.fix (D.arr .u64 4 [(0 : Int), (0 : Int), (0 : Int), (0 : Int)]))) ∧ True) ∧ true = true) ∧ Int.toNat (0 : Int) ≤ 4) ∧ ∀ (x : Nat), x ≤ 4 → true = true ∧ True ∧ match decide ((↑x : Int) < (4 : Int)) with
 | true => True ∧ True ∧ True ∧ True ∧ ((0 : Int) ≤ (↑x : Int) ∧ (↑x : Int) < (↑(4 : Nat) : Int) ∧ 4 = 4 ∧ 1 = 1) ∧ (1 ≠ 0 ∧ 1 = 1 ∧ false = false) ∧ True ∧ ((0 : Int) ≤ (↑x : Int) ∧ (↑x : Int) < (↑(4 : Nat) : Int) ∧ 4 = 4 ∧ 1 = 1) ∧ (1 ≠ 0 ∧ 1 = 1 ∧ false = false) ∧ True ∧ (∃ (x_1 : Nat), ∃ (y : Nat), ∃ (b : Nat), [D.val (.int .u64 ((subL l m x).getD (↑x : Int).toNat (0 : Int))), D.val (.int .u64 (m.getD (↑x : Int).toNat (0 : Int))), D.val (.int .u64 (↑(bor (vB 18446744073709551616 (List.take x l)) (vB 18446744073709551616 (List.take x m))) : Int))] = [D.val (.int .u64 (↑x_1 : Int)), D.val (.int .u64 (↑y : Int)), D.val (.int .u64 (↑b : Int))] ∧ x_1 < 18446744073709551616 ∧ y < 18446744073709551616 ∧ b ≤ 1) ∧ True ∧ (0 < 2 ∧ false = false) ∧ (1 < 2 ∧ false = false) ∧ ((0 : Int) ≤ (↑x : Int) ∧ (↑x : Int) < (↑(4 : Nat) : Int) ∧ 4 = 4 ∧ 1 = 1) ∧ (((↑x : Int).toNat < 4 ∧ ([] : List Nat) = [] ∧ true = true) ∧ 1 ≠ 0 ∧ 1 = 1 ∧ false = false) ∧ True ∧ True ∧ True ∧ ((AV.d (D.val (.int .i64 (IntKind.i64.wrap ((↑x : Int) + (1 : Int))))) = AV.d (D.val (.int .i64 (↑(IntKind.i64.wrap ((↑x : Int) + (1 : Int))).toNat : Int))) ∧ AV.d (D.val (.int .u64 (↑(sbb ((subL l m x).getD (↑x : Int).toNat (0 : Int)).toNat (m.getD (↑x : Int).toNat (0 : Int)).toNat (↑(bor (vB 18446744073709551616 (List.take x l)) (vB 18446744073709551616 (List.take x m))) : Int).toNat) : Int))) = AV.d (D.val (.int .u64 (↑(bor (vB 18446744073709551616 (List.take (IntKind.i64.wrap ((↑x : Int) + (1 : Int))).toNat l)) (vB 18446744073709551616 (List.take (IntKind.i64.wrap ((↑x : Int) + (1 : Int))).toNat m))) : Int))) ∧ True) ∧ (some (Blk.fix (D.arr .u64 4 ((subL l m x).set (↑x : Int).toNat (↑(sbd ((subL l m x).getD (↑x : Int).toNat (0 : Int)).toNat (m.getD (↑x : Int).toNat (0 : Int)).toNat (↑(bor (vB 18446744073709551616 (List.take x l)) (vB 18446744073709551616 (List.take x m))) : Int).toNat) : Int)))) = some (Blk.fix (D.arr .u64 4 (subL l m (IntKind.i64.wrap ((↑x : Int) + (1 : Int))).toNat))) ∧ sm (some (Blk.fix (D.arr .u64 4 m))) ∧ sm (some (Blk.fix (D.arr .u64 4 [(0 : Int), (0 : Int), (0 : Int), (0 : Int)]))) ∧ True) ∧ true = true) ∧ (IntKind.i64.wrap ((↑x : Int) + (1 : Int))).toNat ≤ 4 ∧ 4 - (IntKind.i64.wrap ((↑x : Int) + (1 : Int))).toNat < 4 - x
 | false => (4 ≠ 0 ∧ 4 = 4 ∧ true = true) ∧ True ∧ (Sk.arr 4 = Sk.arr 4 ∧ 4 ≠ 0 ∧ 4 = 4 ∧ false = false) ∧ True ∧ ((4 ≠ 0 ∧ 4 = 4 ∧ true = true) ∧ false = false ∧ True) ∧ D.tup [D.arr .u64 4 (subL l m x), D.val (.int .u64 (↑(bor (vB 18446744073709551616 (List.take x l)) (vB 18446744073709551616 (List.take x m))) : Int))] = F) := by kernel_rfl
theorem m54 : Meets Try.prog 54 sp54 := by
 refine meets_extern Try.func54 (by kernel_rfl) (by kernel_rfl) (by kernel_rfl) (e := (Go.Extern.MathBitsCarry.rows.getD 1 ("", fun _ => default)).2) (by kernel_rfl) ?_
 rintro _ ⟨x, y, b, rfl, hx, hy, hb⟩
 refine ⟨rfl, fun X w vs h => ?_⟩
 obtain ⟨v1, v2, v3, rfl, h1, h2, h3⟩ := all2_3 h
 obtain rfl := vr_num h1
 obtain rfl := vr_num h2
 obtain rfl := vr_num h3
 refine ⟨_, ?_, pair_vr w X .u64 .u64 ((sbd x y b : Nat) : Int) ((sbb x y b : Nat) : Int)⟩
 obtain rfl | rfl : b = 0 ∨ b = 1 := by omega
 ·rfl
 ·rfl
end Go.Proofs.Ytpkcmjfmoemekaa
namespace Go.Proofs.Ytpkcmjfmoemekaa
open Go Go.Vg
theorem sbd_spec (x y b : Nat) (hx : x < B64) (hy : y < B64) (hb : b ≤ 1) : (sbd x y b < B64) ∧ ((y + b ≤ x ∧ sbd x y b + y + b = x ∧ sbb x y b = 0) ∨ (x < y + b ∧ sbd x y b + y + b = x + B64 ∧ sbb x y b = 1)) := by
 unfold sbd sbb
 refine ⟨Nat.mod_lt _ (by decide), ?_⟩
 rcases Nat.lt_or_ge x (y + b) with h | h
 ·right
  refine ⟨h, ?_, if_pos h⟩
  rw [Nat.mod_eq_of_lt (by omega)]
  omega
 ·left
  refine ⟨h, ?_, if_neg (by omega)⟩
  rw [show x + B64 - y - b = (x - y - b) + B64 by omega, Nat.add_mod_right, Nat.mod_eq_of_lt (by omega)]
  omega
theorem sub_num (P A C x y : Nat) (hA : A < P) (hC : C < P) (hx : x < B64) (hy : y < B64) :
  (A + P * x + P * B64 - (C + P * y)) % (P * B64) = (A + P - C) % P + P * sbd x y (bor A C) ∧ bor (A + P * x) (C + P * y) = sbb x y (bor A C) := by
 have hb : bor A C ≤ 1 := by unfold bor; split <;> omega
 have hAC : (A < C ∧ bor A C = 1 ∧ (A + P - C) % P = A + P - C) ∨ (C ≤ A ∧ bor A C = 0 ∧ (A + P - C) % P = A - C) := by
  rcases Nat.lt_or_ge A C with h | h
  ·exact .inl ⟨h, if_pos h, Nat.mod_eq_of_lt (by omega)⟩
  ·exact .inr ⟨h, if_neg (by omega), mod_one _ _ _ (.inr (by omega)) (by omega)⟩
 obtain ⟨hd, hcase⟩ := sbd_spec x y (bor A C) hx hy hb
 generalize bor A C = b at hb hAC hd hcase ⊢
 generalize sbd x y b = d at hd hcase ⊢
 generalize sbb x y b = e at hcase ⊢
 have m1x : P * (d + 1) ≤ P * B64 := Nat.mul_le_mul_left P hd
 rw [Nat.mul_add, Nat.mul_one] at m1x
 have hr : (A + P - C) % P < P := Nat.mod_lt _ (by omega)
 have lin : ∀ u v : Nat, u = v → P * u = P * v := fun u v h => by rw [h]
 have fin : ∀ s t : Nat, (s < t ↔ e = 1) → (e = 0 ∨ e = 1) → bor s t = e := by
  intro s t h1 h2
  unfold bor
  split
  ·rename_i h; exact (h1.1 h).symm
  ·rename_i h; rcases h2 with h2 | h2
   ·exact h2.symm
   ·exact absurd (h1.2 h2) h
 rcases hAC with ⟨h1, h2, h3⟩ | ⟨h1, h2, h3⟩ <;> rcases hcase with ⟨c1x, c2x, c3xx⟩ | ⟨c1x, c2x, c3xx⟩
 all_goals
  have q := lin _ _ c2x
  subst h2
  simp only [Nat.mul_add, Nat.mul_one, Nat.mul_zero, Nat.add_zero] at q
  rw [h3] at hr ⊢
  have hB : P ≤ P * B64 := Nat.le_mul_of_pos_right P (by decide)
  generalize P * B64 = PB at *
  generalize P * x = Px at *
  generalize P * y = Py at *
  generalize P * d = Pd at *
  refine ⟨mod_one _ _ _ (by omega) (by omega), fin _ _ (by omega) (by omega)⟩
theorem okw_get {l : List Int} (h : okw l) {i : Nat} (hi : i < l.length) : ∃ n : Nat, l.getD i 0 = (n : Int) ∧ n < B64 := by
 have := h _ (getD_memN hi)
 exact ⟨(l.getD i 0).toNat, by omega, by show _ < 18446744073709551616; omega⟩
theorem subL_get (l m : List Int) {i : Nat} (hi : i < l.length) : (subL l m i).getD i 0 = l.getD i 0 := by
 unfold subL
 rw [List.getD_eq_getElem?_getD, List.getElem?_append_right (by rw [nB_length]; exact Nat.le_refl _), nB_length, Nat.sub_self, List.getElem?_drop, Nat.add_zero, ← List.getD_eq_getElem?_getD]
theorem subL_set {l m : List Int} (hl : okw l) (hl4 : l.length = 4) (hm : okw m) (hm4 : m.length = 4) {i : Nat} (hi : i < 4) {x y : Nat} (ex : l.getD i 0 = (x : Int)) (ey : m.getD i 0 = (y : Int)) (hx : x < B64) (hy : y < B64) :
  (subL l m i).set i ((sbd x y (bor (vB 18446744073709551616 (l.take i)) (vB 18446744073709551616 (m.take i))) : Nat) : Int) = subL l m (i + 1) ∧
   sbb x y (bor (vB 18446744073709551616 (l.take i)) (vB 18446744073709551616 (m.take i))) = bor (vB 18446744073709551616 (l.take (i + 1))) (vB 18446744073709551616 (m.take (i + 1))) := by
 have e1 := vB_take1 (b := 18446744073709551616) (l := l) i (by omega)
 have e2 := vB_take1 (b := 18446744073709551616) (l := m) i (by omega)
 rw [ex, Int.toNat_natCast] at e1
 rw [ey, Int.toNat_natCast] at e2
 have hA := vB_lt (b := 18446744073709551616) (l := l.take i) fun z hz => hl z (List.mem_of_mem_take hz)
 have hC := vB_lt (b := 18446744073709551616) (l := m.take i) fun z hz => hm z (List.mem_of_mem_take hz)
 rw [List.length_take, show min i l.length = i by omega] at hA
 rw [List.length_take, show min i m.length = i by omega] at hC
 obtain ⟨n1, n2⟩ := sub_num (18446744073709551616 ^ i) _ _ x y hA hC hx hy
 rw [← e1, ← e2] at n2
 refine ⟨?_, n2.symm⟩
 have hd : l.drop i = l.getD i 0 :: l.drop (i + 1) := by
  rw [List.drop_eq_getElem_cons (by omega)]
  simp [show i < l.length by omega]
 unfold subL
 have hlo : (vB 18446744073709551616 (l.take i) + 18446744073709551616 ^ i - vB 18446744073709551616 (m.take i)) % 18446744073709551616 ^ i < 18446744073709551616 ^ i := Nat.mod_lt _ (Nat.pow_pos (by decide))
 have hsd := (sbd_spec x y (bor (vB 18446744073709551616 (l.take i)) (vB 18446744073709551616 (m.take i))) hx hy (by unfold bor; split <;> omega)).1
 rw [e1, e2, Nat.pow_succ, n1, nB_push, nB_low _ _ _ _ hlo, hd, List.set_append_right _ _ (by rw [nB_length]; exact Nat.le_refl _), nB_length, Nat.sub_self, List.set_cons_zero, Nat.add_mul_div_left _ _ (Nat.pow_pos (by decide)), Nat.div_eq_of_lt hlo, Nat.zero_add, Nat.mod_eq_of_lt hsd, List.append_assoc]
 rfl
set_option maxRecDepth 100000 in
theorem m44 : Meets Try.prog 44 sp44 := by
 refine meets_of_owed (C := c44) ⟨tab_ok, lkS_ok ⟨m54, trivial⟩⟩ (by kernel_rfl) (by kernel_rfl : Try.prog.funcs[44]? = some Try.f44) (by kernel_rfl) (by kernel_rfl) (by kernel_rfl) _ ?_
 rintro _ ⟨l, m, rfl, ⟨hl, hl4⟩, hm, hm4⟩
 refine ⟨fun _ => rfl, inv44 l m, ?_⟩
 show owed c44 (inv44 l m) Try.f44 [num4 l, num4 m] (.tup [num4 (nB 18446744073709551616 4 (dif (wv l) (wv m))), u64n (bor (wv l) (wv m))])
 rw [vc44]
 simp (decide := true) only [eq_self, true_and, and_true, ne_eq, not_false_eq_true, Int.toNat_natCast]
 refine ⟨?_, ?_⟩
 ·have e : subL l m 0 = l := by simp [subL, nB]
  rw [show (Int.toNat 0) = 0 from rfl, e]
  and_intros <;> first | rfl | trivial
 intro i hi
 split
 ·rename_i h
  have h := of_decide_eq_true h
  obtain ⟨x, ex, hx⟩ := okw_get hl (i := i) (by omega)
  obtain ⟨y, ey, hy⟩ := okw_get hm (i := i) (by omega)
  obtain ⟨s1, s2⟩ := subL_set hl hl4 hm hm4 (i := i) (by omega) ex ey hx hy
  have hb : bor (vB 18446744073709551616 (l.take i)) (vB 18446744073709551616 (m.take i)) ≤ 1 := by unfold bor; split <;> omega
  rw [subL_get l m (by omega), ex, ey, show ((i : Int) + 1) = ((i + 1 : Nat) : Int) by omega, wi (n := ((i + 1 : Nat) : Int)) (by omega) (by omega)]
  simp only [Int.toNat_natCast]
  rw [s1, s2]
  have hp : ∃ x_1 y_1 b : Nat, [u64n x, u64n y, u64n (bor (vB 18446744073709551616 (l.take i)) (vB 18446744073709551616 (m.take i)))] = [u64n x_1, u64n y_1, u64n b] ∧ x_1 < 18446744073709551616 ∧ y_1 < 18446744073709551616 ∧ b ≤ 1 := ⟨x, y, _, rfl, hx, hy, hb⟩
  and_intros <;> first | exact hp | omega | rfl | trivial
 ·rename_i h
  have h := of_decide_eq_false h
  obtain rfl : i = 4 := by omega
  have t1 : l.take 4 = l := List.take_of_length_le (by omega)
  have t2 : m.take 4 = m := List.take_of_length_le (by omega)
  have e : subL l m 4 = nB 18446744073709551616 4 (dif (wv l) (wv m)) := by
   unfold subL dif
   rw [t1, t2, List.drop_of_length_le (by omega), List.append_nil]
  rw [e, t1, t2]
theorem vB_cut {l : List Int} (hl : okw l) {i : Nat} (hi : i < l.length) {x : Nat} (ex : l.getD i 0 = (x : Int)) : ∃ A, A < 18446744073709551616 ^ i ∧ wv l = A + 18446744073709551616 ^ i * (x + 18446744073709551616 * vB 18446744073709551616 (l.drop (i + 1))) := by
 have hA := vB_lt (b := 18446744073709551616) (l := l.take i) fun z hz => hl z (List.mem_of_mem_take hz)
 rw [List.length_take, show min i l.length = i by omega] at hA
 refine ⟨_, hA, ?_⟩
 have := vB_append 18446744073709551616 (l.take i) (l.drop i)
 rw [List.take_append_drop, List.length_take, show min i l.length = i by omega, vB_dropS 18446744073709551616 i hi, ex, Int.toNat_natCast] at this
 exact this
end Go.Proofs.Ytpkcmjfmoemekaa
namespace Go.Proofs.Ytpkcmjfmoemekaa
open Go Go.Vg
def adl (x y b : Nat) : Nat := (x + y + b) % B64
def adc (x y b : Nat) : Nat := (x + y + b) / B64
def mulL (x y : Nat) : Nat := x * y % B64
def mulH (x y : Nat) : Nat := x * y / B64
def stL (a b c d : Nat) : Nat := (a * b + c + d) % B64
def stH (a b c d : Nat) : Nat := (a * b + c + d) / B64
def smN (a b : Nat) : Nat := (a + b) % 2 ^ 256
def smC (a b : Nat) : Nat := (a + b) / 2 ^ 256
def sp48 : Go.Vg.Spec := ⟨fun ds => ∃ x y b, ds = [u64n x, u64n y, u64n b] ∧ x < B64 ∧ y < B64 ∧ b ≤ 1,
 fun ds => .tup [u64n (adl (nn (ds.headD default)) (nn (ds.getD 1 default)) (nn (ds.getD 2 default))), u64n (adc (nn (ds.headD default)) (nn (ds.getD 1 default)) (nn (ds.getD 2 default)))], true, [22, 22, 22]⟩
def sp47 : Go.Vg.Spec := ⟨fun ds => ∃ x y, ds = [u64n x, u64n y] ∧ x < B64 ∧ y < B64,
 fun ds => .tup [u64n (mulH (nn (ds.headD default)) (nn (ds.getD 1 default))), u64n (mulL (nn (ds.headD default)) (nn (ds.getD 1 default)))], true, [22, 22]⟩
def sp55 : Go.Vg.Spec := ⟨fun ds => ∃ a b c d, ds = [u64n a, u64n b, u64n c, u64n d] ∧ a < B64 ∧ b < B64 ∧ c < B64 ∧ d < B64,
 fun ds => .tup [u64n (stL (nn (ds.headD default)) (nn (ds.getD 1 default)) (nn (ds.getD 2 default)) (nn (ds.getD 3 default))), u64n (stH (nn (ds.headD default)) (nn (ds.getD 1 default)) (nn (ds.getD 2 default)) (nn (ds.getD 3 default)))], true, [22, 22, 22, 22]⟩
def isN (l : List Int) : Prop := okw l ∧ l.length = 4
def sp49 : Go.Vg.Spec := ⟨fun ds => ∃ l m, ds = [num4 l, num4 m] ∧ isN l ∧ isN m,
 fun ds => .tup [num4 (nB 18446744073709551616 4 (smN (wv (arrOf (ds.headD default))) (wv (arrOf (ds.getD 1 default))))), u64n (smC (wv (arrOf (ds.headD default))) (wv (arrOf (ds.getD 1 default))))], true, [24, 24]⟩
def sp46 : Go.Vg.Spec := ⟨fun ds => ∃ l m, ds = [num4 l, num4 m] ∧ isN l ∧ isN m,
 fun ds => num8 (nB 18446744073709551616 8 (wv (arrOf (ds.headD default)) * wv (arrOf (ds.getD 1 default)))), true, [24, 24]⟩
def c49 : Ctx := ⟨tab, lkS [(48, sp48)], [], []⟩
def c55 : Ctx := ⟨tab, lkS [(48, sp48), (47, sp47)], [], []⟩
def c46 : Ctx := ⟨tab, lkS [(55, sp55)], [], []⟩
def addV (l m : List Int) (i : Nat) : Nat := vB 18446744073709551616 (l.take i) + vB 18446744073709551616 (m.take i)
def addL (l m : List Int) (i : Nat) : List Int := nB 18446744073709551616 i (addV l m i) ++ l.drop i
def addK (l m : List Int) (i : Nat) : Nat := addV l m i / 18446744073709551616 ^ i
def inv49 (l m : List Int) : Nat → Option Inv
 | 3 => some ⟨Nat, fun i => [(8, .d (i64 i)), (6, .d (u64n (addK l m i)))], fun i => [(2, .fix (num4 (addL l m i)))], fun s => (slotN s 8).toNat, fun _ i => i ≤ 4, fun i => 4 - i⟩
 | _ => none
structure TimI (l m : List Int) (i : Nat) (out : List Int) : Prop where
 len : out.length = 8
 ok : okw out
 zero : ∀ j, i + 4 ≤ j → out.getD j 0 = 0
 val : wv out = wv (l.take i) * wv m
structure TimJ (l m : List Int) (i k : Nat) (c : Nat) (out : List Int) : Prop where
 len : out.length = 8
 ok : okw out
 zero : ∀ j, i + 4 ≤ j → out.getD j 0 = 0
 car : c < 18446744073709551616
 val : wv out + 18446744073709551616 ^ (i + k) * c = wv (l.take i) * wv m + 18446744073709551616 ^ i * ((l.getD i 0).toNat * wv (m.take k))
def inv46 (l m : List Int) : Nat → Option Inv
 | 3 => some ⟨Nat × List Int, fun x => [(9, .d (i64 x.1))], fun x => [(5, .fix (num8 x.2))], fun s => ((slotN s 9).toNat, rowD s 5), fun _ x => x.1 ≤ 4 ∧ TimI l m x.1 x.2, fun x => 4 - x.1⟩
 | 7 => some ⟨Nat × Nat × List Int, fun x => [(12, .d (i64 x.1)), (7, .d (u64n x.2.1))], fun x => [(5, .fix (num8 x.2.2))], fun s => ((slotN s 12).toNat, (slotN s 7).toNat, rowD s 5), fun s x => x.1 ≤ 4 ∧ TimJ l m (slotN s 9).toNat x.1 x.2.1 x.2.2, fun x => 4 - x.1⟩
 | _ => none
set_option maxRecDepth 100000 in
theorem vc49  (l m : List Int) (F : D)  :
    (owed c49 (inv49 l m) Try.f49 [num4 l, num4 m] F) = (
 (True ∧ false = false) ∧ (True ∧ false = false) ∧ (True ∧ 4 ≠ 0) ∧ True ∧ True ∧ True ∧ (((AV.d (D.val (.int .i64 0)) = AV.d (D.val (.int .i64 (↑(Int.toNat (0 : Int)) : Int))) ∧ AV.d (D.val (.int .u64 0)) = AV.d (D.val (.int .u64 (↑(addK l m (Int.toNat (0 : Int))) : Int))) ∧ True) ∧ (some (Blk.fix (D.arr .u64 4 l)) = some (Blk.fix (D.arr .u64 4 (addL l m (Int.toNat (0 : Int))))) ∧ sm (some (Blk.fix (D.arr .u64 4 m))) ∧ sm (some (Blk.fix (D.arr .u64 4 [(0 : Int), (0 : Int), (0 : Int), (0 : Int)]))) ∧ True) ∧ true = true) ∧ Int.toNat (0 : Int) ≤ 4) ∧ ∀ (x : Nat), x ≤ 4 → true = true ∧ True ∧ match decide ((↑x : Int) < (4 : Int)) with
 | true => True ∧ True ∧ True ∧ True ∧ ((0 : Int) ≤ (↑x : Int) ∧ (↑x : Int) < (↑(4 : Nat) : Int) ∧ 4 = 4 ∧ 1 = 1) ∧ (1 ≠ 0 ∧ 1 = 1 ∧ false = false) ∧ True ∧ ((0 : Int) ≤ (↑x : Int) ∧ (↑x : Int) < (↑(4 : Nat) : Int) ∧ 4 = 4 ∧ 1 = 1) ∧ (1 ≠ 0 ∧ 1 = 1 ∧ false = false) ∧ True ∧ (∃ (x_1 : Nat), ∃ (y : Nat), ∃ (b : Nat), [D.val (.int .u64 ((addL l m x).getD (↑x : Int).toNat (0 : Int))), D.val (.int .u64 (m.getD (↑x : Int).toNat (0 : Int))), D.val (.int .u64 (↑(addK l m x) : Int))] = [D.val (.int .u64 (↑x_1 : Int)), D.val (.int .u64 (↑y : Int)), D.val (.int .u64 (↑b : Int))] ∧ x_1 < 18446744073709551616 ∧ y < 18446744073709551616 ∧ b ≤ 1) ∧ True ∧ (0 < 2 ∧ false = false) ∧ (1 < 2 ∧ false = false) ∧ ((0 : Int) ≤ (↑x : Int) ∧ (↑x : Int) < (↑(4 : Nat) : Int) ∧ 4 = 4 ∧ 1 = 1) ∧ (((↑x : Int).toNat < 4 ∧ ([] : List Nat) = [] ∧ true = true) ∧ 1 ≠ 0 ∧ 1 = 1 ∧ false = false) ∧ True ∧ True ∧ True ∧ ((AV.d (D.val (.int .i64 (IntKind.i64.wrap ((↑x : Int) + (1 : Int))))) = AV.d (D.val (.int .i64 (↑(IntKind.i64.wrap ((↑x : Int) + (1 : Int))).toNat : Int))) ∧ AV.d (D.val (.int .u64 (↑(adc ((addL l m x).getD (↑x : Int).toNat (0 : Int)).toNat (m.getD (↑x : Int).toNat (0 : Int)).toNat (↑(addK l m x) : Int).toNat) : Int))) = AV.d (D.val (.int .u64 (↑(addK l m (IntKind.i64.wrap ((↑x : Int) + (1 : Int))).toNat) : Int))) ∧ True) ∧ (some (Blk.fix (D.arr .u64 4 ((addL l m x).set (↑x : Int).toNat (↑(adl ((addL l m x).getD (↑x : Int).toNat (0 : Int)).toNat (m.getD (↑x : Int).toNat (0 : Int)).toNat (↑(addK l m x) : Int).toNat) : Int)))) = some (Blk.fix (D.arr .u64 4 (addL l m (IntKind.i64.wrap ((↑x : Int) + (1 : Int))).toNat))) ∧ sm (some (Blk.fix (D.arr .u64 4 m))) ∧ sm (some (Blk.fix (D.arr .u64 4 [(0 : Int), (0 : Int), (0 : Int), (0 : Int)]))) ∧ True) ∧ true = true) ∧ (IntKind.i64.wrap ((↑x : Int) + (1 : Int))).toNat ≤ 4 ∧ 4 - (IntKind.i64.wrap ((↑x : Int) + (1 : Int))).toNat < 4 - x
 | false => (4 ≠ 0 ∧ 4 = 4 ∧ true = true) ∧ True ∧ (Sk.arr 4 = Sk.arr 4 ∧ 4 ≠ 0 ∧ 4 = 4 ∧ false = false) ∧ True ∧ ((4 ≠ 0 ∧ 4 = 4 ∧ true = true) ∧ false = false ∧ True) ∧ D.tup [D.arr .u64 4 (addL l m x), D.val (.int .u64 (↑(addK l m x) : Int))] = F) := by kernel_rfl
set_option maxRecDepth 100000 in
theorem vc47  (x y : Nat) (F : D)  :
    (owed c39 (fun _ => none) Try.f47 [u64n x, u64n y] F) = (
 True ∧ True ∧ True ∧ True ∧ True ∧ True ∧ (0 : Int) ≤ 32 ∧ True ∧ True ∧ True ∧ True ∧ True ∧ (0 : Int) ≤ 32 ∧ True ∧ True ∧ True ∧ True ∧ True ∧ True ∧ True ∧ True ∧ True ∧ (0 : Int) ≤ 32 ∧ True ∧ True ∧ True ∧ True ∧ True ∧ True ∧ (0 : Int) ≤ 32 ∧ True ∧ True ∧ True ∧ True ∧ True ∧ True ∧ True ∧ True ∧ True ∧ True ∧ True ∧ True ∧ True ∧ (0 : Int) ≤ 32 ∧ True ∧ True ∧ True ∧ True ∧ True ∧ True ∧ (false = false ∧ false = false ∧ True) ∧ D.tup [D.val (Value.int IntKind.u64 (IntKind.u64.wrap (IntKind.u64.wrap (IntKind.u64.wrap (ishr IntKind.u64 (↑x : Int) (32 : Int) * ishr IntKind.u64 (↑y : Int) (32 : Int)) + ishr IntKind.u64 (IntKind.u64.wrap (IntKind.u64.wrap (ishr IntKind.u64 (↑x : Int) (32 : Int) * iand IntKind.u64 (↑y : Int) (4294967295 : Int)) + ishr IntKind.u64 (IntKind.u64.wrap (iand IntKind.u64 (↑x : Int) (4294967295 : Int) * iand IntKind.u64 (↑y : Int) (4294967295 : Int))) (32 : Int))) (32 : Int)) + ishr IntKind.u64 (IntKind.u64.wrap (iand IntKind.u64 (IntKind.u64.wrap (IntKind.u64.wrap (ishr IntKind.u64 (↑x : Int) (32 : Int) * iand IntKind.u64 (↑y : Int) (4294967295 : Int)) + ishr IntKind.u64 (IntKind.u64.wrap (iand IntKind.u64 (↑x : Int) (4294967295 : Int) * iand IntKind.u64 (↑y : Int) (4294967295 : Int))) (32 : Int))) (4294967295 : Int) + IntKind.u64.wrap (iand IntKind.u64 (↑x : Int) (4294967295 : Int) * ishr IntKind.u64 (↑y : Int) (32 : Int)))) (32 : Int)))), D.val (.int .u64 (IntKind.u64.wrap ((↑x : Int) * (↑y : Int))))] = F) := by kernel_rfl
set_option maxRecDepth 100000 in
theorem vc55  (a b c d : Nat) (F : D)  :
    (owed c55 (fun _ => none) Try.f55 [u64n a, u64n b, u64n c, u64n d] F) = (
 True ∧ True ∧ True ∧ True ∧ (∃ (x : Nat), ∃ (y : Nat), [D.val (.int .u64 (↑a : Int)), D.val (.int .u64 (↑b : Int))] = [D.val (.int .u64 (↑x : Int)), D.val (.int .u64 (↑y : Int))] ∧ x < 18446744073709551616 ∧ y < 18446744073709551616) ∧ True ∧ (0 < 2 ∧ false = false) ∧ (1 < 2 ∧ false = false) ∧ True ∧ True ∧ True ∧ True ∧ (∃ (x : Nat), ∃ (y : Nat), ∃ (b_1 : Nat), [D.val (.int .u64 (↑(mulL (↑a : Int).toNat (↑b : Int).toNat) : Int)), D.val (.int .u64 (↑c : Int)), D.val (.int .u64 0)] = [D.val (.int .u64 (↑x : Int)), D.val (.int .u64 (↑y : Int)), D.val (.int .u64 (↑b_1 : Int))] ∧ x < 18446744073709551616 ∧ y < 18446744073709551616 ∧ b_1 ≤ 1) ∧ True ∧ (0 < 2 ∧ false = false) ∧ (1 < 2 ∧ false = false) ∧ True ∧ True ∧ True ∧ True ∧ True ∧ True ∧ True ∧ True ∧ (∃ (x : Nat), ∃ (y : Nat), ∃ (b_1 : Nat), [D.val (.int .u64 (↑(adl (↑(mulL (↑a : Int).toNat (↑b : Int).toNat) : Int).toNat (↑c : Int).toNat 0) : Int)), D.val (.int .u64 (↑d : Int)), D.val (.int .u64 0)] = [D.val (.int .u64 (↑x : Int)), D.val (.int .u64 (↑y : Int)), D.val (.int .u64 (↑b_1 : Int))] ∧ x < 18446744073709551616 ∧ y < 18446744073709551616 ∧ b_1 ≤ 1) ∧ True ∧ (0 < 2 ∧ false = false) ∧ (1 < 2 ∧ false = false) ∧ True ∧ True ∧ True ∧ True ∧ True ∧ True ∧ True ∧ True ∧ (false = false ∧ false = false ∧ True) ∧ D.tup [D.val (.int .u64 (↑(adl (↑(adl (↑(mulL (↑a : Int).toNat (↑b : Int).toNat) : Int).toNat (↑c : Int).toNat 0) : Int).toNat (↑d : Int).toNat 0) : Int)), D.val (Value.int IntKind.u64 (IntKind.u64.wrap (IntKind.u64.wrap ((↑(mulH (↑a : Int).toNat (↑b : Int).toNat) : Int) + (↑(adc (↑(mulL (↑a : Int).toNat (↑b : Int).toNat) : Int).toNat (↑c : Int).toNat 0) : Int)) + (↑(adc (↑(adl (↑(mulL (↑a : Int).toNat (↑b : Int).toNat) : Int).toNat (↑c : Int).toNat 0) : Int).toNat (↑d : Int).toNat 0) : Int))))] = F) := by kernel_rfl
set_option maxRecDepth 100000 in
theorem vc46  (l m : List Int) (F : D)  :
    (owed c46 (inv46 l m) Try.f46 [num4 l, num4 m] F) = (
 (True ∧ false = false) ∧ (True ∧ false = false) ∧ (True ∧ 8 ≠ 0) ∧ (True ∧ 8 ≠ 0) ∧ True ∧ (((AV.d (D.val (.int .i64 0)) = AV.d (D.val (.int .i64 (↑(0 : Nat) : Int))) ∧ True) ∧ (sm (some (Blk.fix (D.arr .u64 4 l))) ∧ sm (some (Blk.fix (D.arr .u64 4 m))) ∧ sm (some (Blk.fix (D.arr .u64 8 [(0 : Int), (0 : Int), (0 : Int), (0 : Int), (0 : Int), (0 : Int), (0 : Int), (0 : Int)]))) ∧ sm (some (Blk.fix (D.arr .u64 8 [(0 : Int), (0 : Int), (0 : Int), (0 : Int), (0 : Int), (0 : Int), (0 : Int), (0 : Int)]))) ∧ True) ∧ true = true) ∧ 0 ≤ 4 ∧ TimI l m 0 [(0 : Int), (0 : Int), (0 : Int), (0 : Int), (0 : Int), (0 : Int), (0 : Int), (0 : Int)]) ∧ ∀ (x : Nat × List Int), x.fst ≤ 4 ∧ TimI l m x.fst x.snd → true = true ∧ True ∧ match decide ((↑x.fst : Int) < (4 : Int)) with
 | true => True ∧ True ∧ True ∧ True ∧ (((AV.d (D.val (.int .i64 0)) = AV.d (D.val (.int .i64 (↑(0 : Nat) : Int))) ∧ AV.d (D.val (.int .u64 0)) = AV.d (D.val (.int .u64 (↑(0 : Nat) : Int))) ∧ True) ∧ (sm (some (Blk.fix (D.arr .u64 4 l))) ∧ sm (some (Blk.fix (D.arr .u64 4 m))) ∧ sm (some (Blk.fix (D.arr .u64 8 [(0 : Int), (0 : Int), (0 : Int), (0 : Int), (0 : Int), (0 : Int), (0 : Int), (0 : Int)]))) ∧ sm (some (Blk.fix (D.arr .u64 8 x.snd))) ∧ True) ∧ true = true) ∧ 0 ≤ 4 ∧ TimJ l m (↑x.fst : Int).toNat 0 0 x.snd) ∧ ∀ (x_1 : Nat × Nat × List Int), x_1.fst ≤ 4 ∧ TimJ l m (↑x.fst : Int).toNat x_1.fst x_1.snd.fst x_1.snd.snd → true = true ∧ True ∧ match decide ((↑x_1.fst : Int) < (4 : Int)) with
  | true => True ∧ True ∧ True ∧ True ∧ True ∧ True ∧ ((0 : Int) ≤ (↑x.fst : Int) ∧ (↑x.fst : Int) < (↑(4 : Nat) : Int) ∧ 4 = 4 ∧ 1 = 1) ∧ (1 ≠ 0 ∧ 1 = 1 ∧ false = false) ∧ True ∧ ((0 : Int) ≤ (↑x_1.fst : Int) ∧ (↑x_1.fst : Int) < (↑(4 : Nat) : Int) ∧ 4 = 4 ∧ 1 = 1) ∧ (1 ≠ 0 ∧ 1 = 1 ∧ false = false) ∧ True ∧ True ∧ True ∧ ((0 : Int) ≤ IntKind.i64.wrap ((↑x.fst : Int) + (↑x_1.fst : Int)) ∧ IntKind.i64.wrap ((↑x.fst : Int) + (↑x_1.fst : Int)) < (↑(8 : Nat) : Int) ∧ 8 = 8 ∧ 1 = 1) ∧ (1 ≠ 0 ∧ 1 = 1 ∧ false = false) ∧ True ∧ (∃ (a : Nat), ∃ (b : Nat), ∃ (c : Nat), ∃ (d : Nat), [D.val (.int .u64 (l.getD (↑x.fst : Int).toNat (0 : Int))), D.val (.int .u64 (m.getD (↑x_1.fst : Int).toNat (0 : Int))), D.val (.int .u64 (x_1.snd.snd.getD (IntKind.i64.wrap ((↑x.fst : Int) + (↑x_1.fst : Int))).toNat (0 : Int))), D.val (.int .u64 (↑x_1.snd.fst : Int))] = [D.val (.int .u64 (↑a : Int)), D.val (.int .u64 (↑b : Int)), D.val (.int .u64 (↑c : Int)), D.val (.int .u64 (↑d : Int))] ∧ a < 18446744073709551616 ∧ b < 18446744073709551616 ∧ c < 18446744073709551616 ∧ d < 18446744073709551616) ∧ True ∧ (0 < 2 ∧ false = false) ∧ (1 < 2 ∧ false = false) ∧ ((0 : Int) ≤ IntKind.i64.wrap ((↑x.fst : Int) + (↑x_1.fst : Int)) ∧ IntKind.i64.wrap ((↑x.fst : Int) + (↑x_1.fst : Int)) < (↑(8 : Nat) : Int) ∧ 8 = 8 ∧ 1 = 1) ∧ (((IntKind.i64.wrap ((↑x.fst : Int) + (↑x_1.fst : Int))).toNat < 8 ∧ ([] : List Nat) = [] ∧ true = true) ∧ 1 ≠ 0 ∧ 1 = 1 ∧ false = false) ∧ True ∧ True ∧ True ∧ ((AV.d (D.val (.int .i64 (IntKind.i64.wrap ((↑x_1.fst : Int) + (1 : Int))))) = AV.d (D.val (.int .i64 (↑(IntKind.i64.wrap ((↑x_1.fst : Int) + (1 : Int))).toNat : Int))) ∧ AV.d (D.val (.int .u64 (↑(stH (l.getD (↑x.fst : Int).toNat (0 : Int)).toNat (m.getD (↑x_1.fst : Int).toNat (0 : Int)).toNat (x_1.snd.snd.getD (IntKind.i64.wrap ((↑x.fst : Int) + (↑x_1.fst : Int))).toNat (0 : Int)).toNat (↑x_1.snd.fst : Int).toNat) : Int))) = AV.d (D.val (.int .u64 (↑(↑(stH (l.getD (↑x.fst : Int).toNat (0 : Int)).toNat (m.getD (↑x_1.fst : Int).toNat (0 : Int)).toNat (x_1.snd.snd.getD (IntKind.i64.wrap ((↑x.fst : Int) + (↑x_1.fst : Int))).toNat (0 : Int)).toNat (↑x_1.snd.fst : Int).toNat) : Int).toNat : Int))) ∧ True) ∧ (sm (some (Blk.fix (D.arr .u64 4 l))) ∧ sm (some (Blk.fix (D.arr .u64 4 m))) ∧ sm (some (Blk.fix (D.arr .u64 8 [(0 : Int), (0 : Int), (0 : Int), (0 : Int), (0 : Int), (0 : Int), (0 : Int), (0 : Int)]))) ∧ sm (some (Blk.fix (D.arr .u64 8 (x_1.snd.snd.set (IntKind.i64.wrap ((↑x.fst : Int) + (↑x_1.fst : Int))).toNat (↑(stL (l.getD (↑x.fst : Int).toNat (0 : Int)).toNat (m.getD (↑x_1.fst : Int).toNat (0 : Int)).toNat (x_1.snd.snd.getD (IntKind.i64.wrap ((↑x.fst : Int) + (↑x_1.fst : Int))).toNat (0 : Int)).toNat (↑x_1.snd.fst : Int).toNat) : Int))))) ∧ True) ∧ true = true) ∧ ((IntKind.i64.wrap ((↑x_1.fst : Int) + (1 : Int))).toNat ≤ 4 ∧ TimJ l m (↑x.fst : Int).toNat (IntKind.i64.wrap ((↑x_1.fst : Int) + (1 : Int))).toNat (↑(stH (l.getD (↑x.fst : Int).toNat (0 : Int)).toNat (m.getD (↑x_1.fst : Int).toNat (0 : Int)).toNat (x_1.snd.snd.getD (IntKind.i64.wrap ((↑x.fst : Int) + (↑x_1.fst : Int))).toNat (0 : Int)).toNat (↑x_1.snd.fst : Int).toNat) : Int).toNat
   (x_1.snd.snd.set (IntKind.i64.wrap ((↑x.fst : Int) + (↑x_1.fst : Int))).toNat (↑(stL (l.getD (↑x.fst : Int).toNat (0 : Int)).toNat (m.getD (↑x_1.fst : Int).toNat (0 : Int)).toNat (x_1.snd.snd.getD (IntKind.i64.wrap ((↑x.fst : Int) + (↑x_1.fst : Int))).toNat (0 : Int)).toNat (↑x_1.snd.fst : Int).toNat) : Int))) ∧ 4 - (IntKind.i64.wrap ((↑x_1.fst : Int) + (1 : Int))).toNat < 4 - x_1.fst
  | false => True ∧ True ∧ True ∧ ((0 : Int) ≤ IntKind.i64.wrap ((↑x.fst : Int) + (4 : Int)) ∧ IntKind.i64.wrap ((↑x.fst : Int) + (4 : Int)) < (↑(8 : Nat) : Int) ∧ 8 = 8 ∧ 1 = 1) ∧ (((IntKind.i64.wrap ((↑x.fst : Int) + (4 : Int))).toNat < 8 ∧ ([] : List Nat) = [] ∧ true = true) ∧ 1 ≠ 0 ∧ 1 = 1 ∧ false = false) ∧ True ∧ True ∧ ((AV.d (D.val (.int .i64 (IntKind.i64.wrap ((↑x.fst : Int) + (1 : Int))))) = AV.d (D.val (.int .i64 (↑(IntKind.i64.wrap ((↑x.fst : Int) + (1 : Int))).toNat : Int))) ∧ True) ∧ (sm (some (Blk.fix (D.arr .u64 4 l))) ∧ sm (some (Blk.fix (D.arr .u64 4 m))) ∧ sm (some (Blk.fix (D.arr .u64 8 [(0 : Int), (0 : Int), (0 : Int), (0 : Int), (0 : Int), (0 : Int), (0 : Int), (0 : Int)]))) ∧ sm (some (Blk.fix (D.arr .u64 8 (x_1.snd.snd.set (IntKind.i64.wrap ((↑x.fst : Int) + (4 : Int))).toNat (↑x_1.snd.fst : Int))))) ∧ True) ∧ true = true) ∧ ((IntKind.i64.wrap ((↑x.fst : Int) + (1 : Int))).toNat ≤ 4 ∧ TimI l m (IntKind.i64.wrap ((↑x.fst : Int) + (1 : Int))).toNat (x_1.snd.snd.set (IntKind.i64.wrap ((↑x.fst : Int) + (4 : Int))).toNat (↑x_1.snd.fst : Int))) ∧ 4 - (IntKind.i64.wrap ((↑x.fst : Int) + (1 : Int))).toNat < 4 - x.fst
 | false => (8 ≠ 0 ∧ 8 = 8 ∧ true = true) ∧ (Sk.arr 8 = Sk.arr 8 ∧ 8 ≠ 0 ∧ 8 = 8 ∧ false = false) ∧ ((8 ≠ 0 ∧ 8 = 8 ∧ true = true) ∧ True) ∧ D.arr .u64 8 x.snd = F) := by kernel_rfl
theorem m48 : Meets Try.prog 48 sp48 := by
 refine meets_extern Try.func48 (by kernel_rfl) (by kernel_rfl) (by kernel_rfl) (e := (Go.Extern.MathBitsCarry.rows.getD 0 ("", fun _ => default)).2) (by kernel_rfl) ?_
 rintro _ ⟨x, y, b, rfl, hx, hy, hb⟩
 refine ⟨rfl, fun X w vs h => ?_⟩
 obtain ⟨v1, v2, v3, rfl, h1, h2, h3⟩ := all2_3 h
 obtain rfl := vr_num h1
 obtain rfl := vr_num h2
 obtain rfl := vr_num h3
 refine ⟨_, ?_, pair_vr w X .u64 .u64 ((adl x y b : Nat) : Int) ((adc x y b : Nat) : Int)⟩
 obtain rfl | rfl : b = 0 ∨ b = 1 := by omega
 ·rfl
 ·rfl
end Go.Proofs.Ytpkcmjfmoemekaa
namespace Go.Proofs.Ytpkcmjfmoemekaa
open Go Go.Vg
theorem num_nB {l : List Int} (hl : isN l) : nB 18446744073709551616 4 (wv l) = l := by
 have := nB_vB (b := 18446744073709551616) hl.1
 rwa [hl.2] at this
theorem low32 (x : Nat) (hx : x < B64) : iand .u64 (x : Int) 4294967295 = ((x % 4294967296 : Nat) : Int) := by
 rw [show (4294967295 : Int) = ((4294967295 : Nat) : Int) from rfl, iandN .u64 (show x < 18446744073709551616 from hx) (show 4294967295 < 18446744073709551616 by decide)]
 congr 1
 exact Nat.and_two_pow_sub_one_eq_mod x 32
theorem shr32 (x : Nat) : ishr .u64 (x : Int) 32 = ((x / 4294967296 : Nat) : Int) := ishrN .u64 (a := x) (m := 32) (by decide)
theorem sq_le {a b : Nat} (ha : a < 4294967296) (hb : b < 4294967296) : a * b ≤ 18446744065119617025 := Nat.mul_le_mul (show a ≤ 4294967295 by omega) (show b ≤ 4294967295 by omega)
theorem wB {n : Nat} (h : n < 18446744073709551616) : IntKind.u64.wrap (n : Int) = (n : Int) := wrapN .u64 (show n < 18446744073709551616 from h)
theorem hiI (p q r s : Nat) (hp : p ≤ 18446744065119617025) (hq : q ≤ 18446744065119617025) (hr : r ≤ 18446744065119617025) (hs : s ≤ 18446744065119617025)
  (hh : s + (q + p / 4294967296) / 4294967296 + ((q + p / 4294967296) % 4294967296 + r) / 4294967296 < 18446744073709551616) :
  IntKind.u64.wrap (IntKind.u64.wrap (IntKind.u64.wrap (s : Int) + ishr .u64 (IntKind.u64.wrap (IntKind.u64.wrap (q : Int) + ishr .u64 (IntKind.u64.wrap (p : Int)) 32)) 32) +
   ishr .u64 (IntKind.u64.wrap (iand .u64 (IntKind.u64.wrap (IntKind.u64.wrap (q : Int) + ishr .u64 (IntKind.u64.wrap (p : Int)) 32)) 4294967295 + IntKind.u64.wrap (r : Int))) 32) =
  ((s + (q + p / 4294967296) / 4294967296 + ((q + p / 4294967296) % 4294967296 + r) / 4294967296 : Nat) : Int) := by
 rw [wB (n := p) (by omega), shr32, wB (n := q) (by omega), ← Int.natCast_add, wB (n := q + p / 4294967296) (by omega), shr32, low32 _ (show _ < 18446744073709551616 by omega), wB (n := r) (by omega),
  ← Int.natCast_add, wB (n := (q + p / 4294967296) % 4294967296 + r) (by omega), shr32, wB (n := s) (by omega), ← Int.natCast_add, wB (n := s + (q + p / 4294967296) / 4294967296) (by omega), ← Int.natCast_add, wB (by omega)]
theorem mul_parts (a b c d : Nat) : (4294967296 * a + b) * (4294967296 * c + d) = 18446744073709551616 * (a * c) + 4294967296 * (a * d) + 4294967296 * (b * c) + b * d := by
 rw [Nat.add_mul, Nat.mul_add, Nat.mul_add, Nat.mul_mul_mul_comm, Nat.mul_assoc 4294967296 a d, Nat.mul_left_comm b 4294967296 c]
 omega
theorem hi_eq (x y : Nat) (hx : x < B64) (hy : y < B64) :
  (x / 4294967296) * (y / 4294967296) + ((x / 4294967296) * (y % 4294967296) + (x % 4294967296) * (y % 4294967296) / 4294967296) / 4294967296 +
   (((x / 4294967296) * (y % 4294967296) + (x % 4294967296) * (y % 4294967296) / 4294967296) % 4294967296 + (x % 4294967296) * (y / 4294967296)) / 4294967296 = mulH x y ∧ mulH x y < 18446744073709551616 := by
 have e1 := Nat.div_add_mod x 4294967296
 have e2 := Nat.div_add_mod y 4294967296
 have hm := mul_parts (x / 4294967296) (x % 4294967296) (y / 4294967296) (y % 4294967296)
 rw [e1, e2] at hm
 have h1 : x % 4294967296 < 4294967296 := Nat.mod_lt _ (by decide)
 have h2 : y % 4294967296 < 4294967296 := Nat.mod_lt _ (by decide)
 have h3 : x / 4294967296 < 4294967296 := by have : x < 18446744073709551616 := hx; omega
 have h4 : y / 4294967296 < 4294967296 := by have : y < 18446744073709551616 := hy; omega
 have p1 := sq_le h1 h2
 have p2 := sq_le h3 h2
 have p3 := sq_le h1 h4
 have p4 := sq_le h3 h4
 unfold mulH
 show _ = x * y / 18446744073709551616 ∧ x * y / 18446744073709551616 < _
 rw [hm]
 generalize x / 4294967296 * (y / 4294967296) = s at *
 generalize x / 4294967296 * (y % 4294967296) = q at *
 generalize x % 4294967296 * (y / 4294967296) = r at *
 generalize x % 4294967296 * (y % 4294967296) = p at *
 omega
set_option maxRecDepth 100000 in
theorem m47 : Meets Try.prog 47 sp47 := by
 refine meets_of_owed (C := c39) ⟨tab_ok, fun f s h => by cases h⟩ (by kernel_rfl) (by kernel_rfl : Try.prog.funcs[47]? = some Try.f47) (by kernel_rfl) (by kernel_rfl) (by kernel_rfl) _ ?_
 rintro _ ⟨x, y, rfl, hx, hy⟩
 refine ⟨fun _ => rfl, fun _ => none, ?_⟩
 show owed c39 (fun _ => none) Try.f47 [u64n x, u64n y] (.tup [u64n (mulH x y), u64n (mulL x y)])
 rw [vc47]
 obtain ⟨e, eb⟩ := hi_eq x y hx hy
 have h1 : x % 4294967296 < 4294967296 := Nat.mod_lt _ (by decide)
 have h2 : y % 4294967296 < 4294967296 := Nat.mod_lt _ (by decide)
 have h3 : x / 4294967296 < 4294967296 := by have : x < 18446744073709551616 := hx; omega
 have h4 : y / 4294967296 < 4294967296 := by have : y < 18446744073709551616 := hy; omega
 rw [shr32, shr32, low32 x hx, low32 y hy, ← Int.natCast_mul, ← Int.natCast_mul, ← Int.natCast_mul, ← Int.natCast_mul, ← Int.natCast_mul, hiI _ _ _ _ (sq_le h1 h2) (sq_le h3 h2) (sq_le h1 h4) (sq_le h3 h4) (by rw [e]; exact eb), e, wN64]
 and_intros <;> first | rfl | omega | trivial
theorem step_eq (q c d : Nat) (hq : q ≤ 340282366920938463426481119284349108225) (hc : c < 18446744073709551616) (hd : d < 18446744073709551616) :
  ((q % 18446744073709551616 + c + 0) % 18446744073709551616 + d + 0) % 18446744073709551616 = (q + c + d) % 18446744073709551616 ∧
  q / 18446744073709551616 + (q % 18446744073709551616 + c + 0) / 18446744073709551616 + ((q % 18446744073709551616 + c + 0) % 18446744073709551616 + d + 0) / 18446744073709551616 = (q + c + d) / 18446744073709551616 ∧
  (q + c + d) / 18446744073709551616 < 18446744073709551616 := by omega
theorem sq_leB {a b : Nat} (ha : a < 18446744073709551616) (hb : b < 18446744073709551616) : a * b ≤ 340282366920938463426481119284349108225 := Nat.mul_le_mul (show a ≤ 18446744073709551615 by omega) (show b ≤ 18446744073709551615 by omega)
set_option maxRecDepth 100000 in
theorem m55 : Meets Try.prog 55 sp55 := by
 refine meets_of_owed (C := c55) ⟨tab_ok, lkS_ok ⟨m48, m47, trivial⟩⟩ (by kernel_rfl) (by kernel_rfl : Try.prog.funcs[55]? = some Try.f55) (by kernel_rfl) (by kernel_rfl) (by kernel_rfl) _ ?_
 rintro _ ⟨a, b, c, d, rfl, ha, hb, hc, hd⟩
 refine ⟨fun _ => rfl, fun _ => none, ?_⟩
 show owed c55 (fun _ => none) Try.f55 [u64n a, u64n b, u64n c, u64n d] (.tup [u64n (stL a b c d), u64n (stH a b c d)])
 rw [vc55]
 obtain ⟨s1, s2, s3⟩ := step_eq (a * b) c d (sq_leB ha hb) hc hd
 have l1 : mulL a b < 18446744073709551616 := Nat.mod_lt _ (by decide)
 have l2 : adl (mulL a b) c 0 < 18446744073709551616 := Nat.mod_lt _ (by decide)
 have e1 : adl (adl (mulL a b) c 0) d 0 = stL a b c d := s1
 have e2 : mulH a b + adc (mulL a b) c 0 + adc (adl (mulL a b) c 0) d 0 = stH a b c d := s2
 have e3 : stH a b c d < 18446744073709551616 := s3
 simp (decide := true) only [Int.toNat_natCast, eq_self, true_and, and_true, ne_eq, not_false_eq_true]
 refine ⟨⟨a, b, rfl, ha, hb⟩, ⟨_, c, 0, rfl, l1, hc, by decide⟩, ⟨_, d, 0, rfl, l2, hd, by decide⟩, ?_⟩
 rw [e1, ← Int.natCast_add, wB (by omega), ← Int.natCast_add, wB (by omega), e2]
theorem addL_get (l m : List Int) {i : Nat} : (addL l m i).getD i 0 = l.getD i 0 := by
 unfold addL
 rw [List.getD_eq_getElem?_getD, List.getElem?_append_right (by rw [nB_length]; exact Nat.le_refl _), nB_length, Nat.sub_self, List.getElem?_drop, Nat.add_zero, ← List.getD_eq_getElem?_getD]
theorem add_num (P V x y : Nat) (hP : 0 < P) : (V + P * (x + y)) / P = V / P + (x + y) ∧ (V + P * (x + y)) / (P * 18446744073709551616) = (x + y + V / P) / 18446744073709551616 := by
 have h := Nat.add_mul_div_left V (x + y) hP
 refine ⟨h, ?_⟩
 rw [← Nat.div_div_eq_div_mul, h, Nat.add_comm (V / P)]
theorem addV_lt {l m : List Int} (hl : okw l) (hm : okw m) {i : Nat} (h1 : i ≤ l.length) (h2 : i ≤ m.length) : addK l m i ≤ 1 := by
 have hA := vB_lt (b := 18446744073709551616) (l := l.take i) fun z hz => hl z (List.mem_of_mem_take hz)
 have hC := vB_lt (b := 18446744073709551616) (l := m.take i) fun z hz => hm z (List.mem_of_mem_take hz)
 rw [List.length_take, show min i l.length = i by omega] at hA
 rw [List.length_take, show min i m.length = i by omega] at hC
 unfold addK addV
 have : vB 18446744073709551616 (l.take i) + vB 18446744073709551616 (m.take i) < 2 * 18446744073709551616 ^ i := by omega
 have := Nat.div_lt_of_lt_mul (show _ < 18446744073709551616 ^ i * 2 by rw [Nat.mul_comm]; exact this)
 omega
theorem addL_set {l m : List Int} {i : Nat} (hil : i < l.length) (him : i < m.length) {x y : Nat} (ex : l.getD i 0 = (x : Int)) (ey : m.getD i 0 = (y : Int)) :
  (addL l m i).set i ((adl x y (addK l m i) : Nat) : Int) = addL l m (i + 1) ∧ adc x y (addK l m i) = addK l m (i + 1) := by
 have e1 := vB_take1 (b := 18446744073709551616) (l := l) i hil
 have e2 := vB_take1 (b := 18446744073709551616) (l := m) i him
 rw [ex, Int.toNat_natCast] at e1
 rw [ey, Int.toNat_natCast] at e2
 have hV : addV l m (i + 1) = addV l m i + 18446744073709551616 ^ i * (x + y) := by
  unfold addV
  rw [e1, e2, Nat.mul_add]
  omega
 obtain ⟨n1, n2⟩ := add_num (18446744073709551616 ^ i) (addV l m i) x y (Nat.pow_pos (by decide))
 have hk : addK l m (i + 1) = adc x y (addK l m i) := by
  unfold addK adc
  rw [hV, Nat.pow_succ, n2]
 refine ⟨?_, hk.symm⟩
 have hd : l.drop i = l.getD i 0 :: l.drop (i + 1) := by
  rw [List.drop_eq_getElem_cons hil]
  simp [hil]
 have hlow : nB 18446744073709551616 i (addV l m (i + 1)) = nB 18446744073709551616 i (addV l m i) := by
  rw [hV, ← nB_mod 18446744073709551616 i (addV l m i + _), Nat.add_mul_mod_self_left, nB_mod]
 unfold addL
 rw [nB_push, hlow, hd, List.set_append_right _ _ (by rw [nB_length]; exact Nat.le_refl _), nB_length, Nat.sub_self, List.set_cons_zero, hV, n1, List.append_assoc]
 have : adl x y (addK l m i) = (addV l m i / 18446744073709551616 ^ i + (x + y)) % 18446744073709551616 := by
  unfold adl addK
  rw [Nat.add_comm (x + y)]
 rw [this]
 rfl
set_option maxRecDepth 100000 in
theorem m49 : Meets Try.prog 49 sp49 := by
 refine meets_of_owed (C := c49) ⟨tab_ok, lkS_ok ⟨m48, trivial⟩⟩ (by kernel_rfl) (by kernel_rfl : Try.prog.funcs[49]? = some Try.f49) (by kernel_rfl) (by kernel_rfl) (by kernel_rfl) _ ?_
 rintro _ ⟨l, m, rfl, ⟨hl, hl4⟩, hm, hm4⟩
 refine ⟨fun _ => rfl, inv49 l m, ?_⟩
 show owed c49 (inv49 l m) Try.f49 [num4 l, num4 m] (.tup [num4 (nB 18446744073709551616 4 (smN (wv l) (wv m))), u64n (smC (wv l) (wv m))])
 rw [vc49]
 simp (decide := true) only [eq_self, true_and, and_true, ne_eq, not_false_eq_true, Int.toNat_natCast]
 refine ⟨?_, ?_⟩
 ·have e : addL l m 0 = l := by simp [addL, nB]
  have e2 : addK l m 0 = 0 := by simp [addK, addV, vB]
  rw [show (Int.toNat 0) = 0 from rfl, e, e2]
  and_intros <;> first | rfl | trivial
 intro i hi
 split
 ·rename_i h
  have h := of_decide_eq_true h
  obtain ⟨x, ex, hx⟩ := okw_get hl (i := i) (by omega)
  obtain ⟨y, ey, hy⟩ := okw_get hm (i := i) (by omega)
  obtain ⟨s1, s2⟩ := addL_set (l := l) (m := m) (i := i) (by omega) (by omega) ex ey
  have hb := addV_lt hl hm (i := i) (by omega) (by omega)
  rw [addL_get, ex, ey, show ((i : Int) + 1) = ((i + 1 : Nat) : Int) by omega, wi (n := ((i + 1 : Nat) : Int)) (by omega) (by omega)]
  simp only [Int.toNat_natCast]
  rw [s1, s2]
  have hp : ∃ x_1 y_1 b : Nat, [u64n x, u64n y, u64n (addK l m i)] = [u64n x_1, u64n y_1, u64n b] ∧ x_1 < 18446744073709551616 ∧ y_1 < 18446744073709551616 ∧ b ≤ 1 := ⟨x, y, _, rfl, hx, hy, hb⟩
  and_intros <;> first | exact hp | omega | rfl | trivial
 ·rename_i h
  have h := of_decide_eq_false h
  obtain rfl : i = 4 := by omega
  have t1 : l.take 4 = l := List.take_of_length_le (by omega)
  have t2 : m.take 4 = m := List.take_of_length_le (by omega)
  have e : addL l m 4 = nB 18446744073709551616 4 (smN (wv l) (wv m)) := by
   unfold addL addV smN
   rw [t1, t2, List.drop_of_length_le (by omega), List.append_nil]
   exact (nB_mod 18446744073709551616 4 _).symm
  have e2 : addK l m 4 = smC (wv l) (wv m) := by
   unfold addK addV smC
   rw [t1, t2]
  rw [e, e2]
end Go.Proofs.Ytpkcmjfmoemekaa
namespace Go.Proofs.Ytpkcmjfmoemekaa
open Go Go.Vg
theorem okw_set {l : List Int} (h : okw l) {i : Nat} {x : Nat} (hx : x < 18446744073709551616) : okw (l.set i (x : Int)) := by
 intro y hy
 rcases List.mem_or_eq_of_mem_set hy with h1 | rfl
 ·exact h y h1
 ·exact ⟨by omega, by omega⟩
theorem timW_step {l m : List Int} (hl : isN l) (hm : isN m) {i k c : Nat} {out : List Int} (h : TimJ l m i k c out) (hi : i < 4) (hk : k < 4) :
  ∃ a b o : Nat, l.getD i 0 = (a : Int) ∧ m.getD k 0 = (b : Int) ∧ out.getD (i + k) 0 = (o : Int) ∧ a < 18446744073709551616 ∧ b < 18446744073709551616 ∧ o < 18446744073709551616 ∧
   TimJ l m i (k + 1) (stH a b o c) (out.set (i + k) ((stL a b o c : Nat) : Int)) := by
 obtain ⟨a, ea, ha⟩ := okw_get hl.1 (i := i) (by have := hl.2; omega)
 obtain ⟨b, eb, hb⟩ := okw_get hm.1 (i := k) (by have := hm.2; omega)
 obtain ⟨o, eo, ho⟩ := okw_get h.ok (i := i + k) (by have := h.len; omega)
 refine ⟨a, b, o, ea, eb, eo, ha, hb, ho, ?_⟩
 have hq := sq_leB ha hb
 have hc := h.car
 have s3 := (step_eq (a * b) o c hq ho hc).2.2
 have sL : stL a b o c < 18446744073709551616 := Nat.mod_lt _ (by decide)
 have hv := vB_set (b := 18446744073709551616) out (i + k) ((stL a b o c : Nat) : Int) (by have := h.len; omega)
 have ht := vB_take1 (b := 18446744073709551616) (l := m) k (by have := hm.2; omega)
 have hval := h.val
 refine ⟨by simp [h.len], okw_set h.ok sL, fun j hj => ?_, s3, ?_⟩
 ·rw [getD_set, if_neg (by omega)]
  exact h.zero j hj
 ·rw [eo, Int.toNat_natCast, Int.toNat_natCast] at hv
  rw [ea, Int.toNat_natCast] at hval ⊢
  rw [eb, Int.toNat_natCast] at ht
  unfold wv at hval ⊢
  rw [ht, Nat.mul_add, Nat.mul_add, Nat.mul_left_comm a (18446744073709551616 ^ k), ← Nat.mul_assoc (18446744073709551616 ^ i) (18446744073709551616 ^ k), ← Nat.pow_add]
  rw [show i + (k + 1) = (i + k) + 1 by omega, Nat.pow_succ]
  generalize 18446744073709551616 ^ (i + k) = B at hv hval ⊢
  have e : B * stL a b o c + B * 18446744073709551616 * stH a b o c = B * (a * b) + B * o + B * c := by
   rw [Nat.mul_assoc, ← Nat.mul_add, ← Nat.mul_add, ← Nat.mul_add]
   congr 1
   unfold stL stH
   exact Nat.mod_add_div _ _
  omega
theorem timW_start {l m : List Int} {i : Nat} {out : List Int} (h : TimI l m i out) : TimJ l m i 0 0 out :=
 ⟨h.len, h.ok, h.zero, by decide, by have := h.val; simp [vB]; exact this⟩
theorem timW_next {l m : List Int} (hl : isN l) (hm : isN m) {i c : Nat} {out : List Int} (h : TimJ l m i 4 c out) (hi : i < 4) : TimI l m (i + 1) (out.set (i + 4) ((c : Nat) : Int)) := by
 have hz := h.zero (i + 4) (Nat.le_refl _)
 have hv := vB_set (b := 18446744073709551616) out (i + 4) ((c : Nat) : Int) (by have := h.len; omega)
 have ht := vB_take1 (b := 18446744073709551616) (l := l) i (by have := hl.2; omega)
 have hval := h.val
 refine ⟨by simp [h.len], okw_set h.ok h.car, fun j hj => ?_, ?_⟩
 ·rw [getD_set, if_neg (by omega)]
  exact h.zero j (by omega)
 ·rw [hz, show Int.toNat 0 = 0 from rfl, Nat.mul_zero, Nat.add_zero, Int.toNat_natCast] at hv
  rw [show m.take 4 = m from List.take_of_length_le (by have := hm.2; omega)] at hval
  unfold wv at hval ⊢
  rw [ht, hv, Nat.add_mul, Nat.mul_assoc, hval]
theorem timW_zero (l m : List Int) : TimI l m 0 (List.replicate 8 0) :=
 ⟨by simp, fun x hx => by rw [List.mem_replicate] at hx; rw [hx.2]; decide, fun j _ => by simp only [List.getD_eq_getElem?_getD, List.getElem?_replicate]; split <;> rfl, by unfold wv; rw [vB_rep]; simp [vB]⟩
set_option maxRecDepth 100000 in
theorem m46 : Meets Try.prog 46 sp46 := by
 refine meets_of_owed (C := c46) ⟨tab_ok, lkS_ok ⟨m55, trivial⟩⟩ (by kernel_rfl) (by kernel_rfl : Try.prog.funcs[46]? = some Try.f46) (by kernel_rfl) (by kernel_rfl) (by kernel_rfl) _ ?_
 rintro _ ⟨l, m, rfl, hl, hm⟩
 refine ⟨fun _ => rfl, inv46 l m, ?_⟩
 show owed c46 (inv46 l m) Try.f46 [num4 l, num4 m] (num8 (nB 18446744073709551616 8 (wv l * wv m)))
 rw [vc46]
 simp (decide := true) only [eq_self, true_and, and_true, ne_eq, not_false_eq_true, Int.toNat_natCast]
 refine ⟨⟨rfl, timW_zero l m⟩, ?_⟩
 rintro ⟨i, out⟩ ⟨hi, hT⟩
 simp only at hi hT ⊢
 split
 ·rename_i h
  have h := of_decide_eq_true h
  refine ⟨⟨by and_intros <;> first | rfl | trivial, timW_start hT⟩, ?_⟩
  rintro ⟨k, c, out⟩ ⟨hk, hJ⟩
  simp only at hk hJ ⊢
  split
  ·rename_i h2
   have h2 := of_decide_eq_true h2
   obtain ⟨a, b, o, ea, eb, eo, ha, hb, ho, hS⟩ := timW_step hl hm hJ (by omega) (by omega)
   have e1 : IntKind.i64.wrap ((i : Int) + (k : Int)) = ((i + k : Nat) : Int) := by rw [wi (by omega) (by omega)]; omega
   have e2 : IntKind.i64.wrap ((k : Int) + 1) = ((k + 1 : Nat) : Int) := by rw [wi (by omega) (by omega)]; omega
   simp only [e1, e2, Int.toNat_natCast, ea, eb, eo]
   have hp : ∃ a_1 b_1 c_1 d : Nat, [u64n a, u64n b, u64n o, u64n c] = [u64n a_1, u64n b_1, u64n c_1, u64n d] ∧ a_1 < 18446744073709551616 ∧ b_1 < 18446744073709551616 ∧ c_1 < 18446744073709551616 ∧ d < 18446744073709551616 := ⟨a, b, o, c, rfl, ha, hb, ho, hJ.car⟩
   and_intros <;> first | exact hp | exact hS | omega | rfl | trivial
  ·rename_i h2
   have h2 := of_decide_eq_false h2
   obtain rfl : k = 4 := by omega
   have e1 : IntKind.i64.wrap ((i : Int) + 4) = ((i + 4 : Nat) : Int) := by rw [wi (by omega) (by omega)]; omega
   have e2 : IntKind.i64.wrap ((i : Int) + 1) = ((i + 1 : Nat) : Int) := by rw [wi (by omega) (by omega)]; omega
   have hN := timW_next hl hm hJ (by omega)
   simp only [e1, e2, Int.toNat_natCast]
   and_intros <;> first | exact hN | omega | rfl | trivial
 ·rename_i h
  have h := of_decide_eq_false h
  obtain rfl : i = 4 := by omega
  have hv := hT.val
  rw [List.take_of_length_le (by have := hl.2; omega)] at hv
  have := nB_vB (b := 18446744073709551616) hT.ok
  rw [hT.len] at this
  rw [← hv, this]
end Go.Proofs.Ytpkcmjfmoemekaa
namespace Go.Proofs.Ytpkcmjfmoemekaa
open Go Go.Vg
theorem B_pow (i : Nat) : 18446744073709551616 ^ i = 2 ^ (64 * i) := by
 rw [show (18446744073709551616 : Nat) = 2 ^ 64 by decide, ← Nat.pow_mul]
abbrev i64n (n : Nat) : D := i64 (n : Int)
def bl2 (n : Nat) : Nat := if n = 0 then 0 else Nat.log2 n + 1
def bitN (v : Nat) (i : Int) : Nat := if 0 ≤ i ∧ i ≤ 255 then v / 2 ^ i.toNat % 2 else 0
def sp15 : Go.Vg.Spec := ⟨fun ds => ∃ l i, ds = [num4 l, i64 i] ∧ isN l ∧ i64ok i, fun ds => u64n (bitN (wv (arrOf (ds.headD default))) (numOf (ds.getD 1 default))), true, [24, 3]⟩
def sp13 : Go.Vg.Spec := ⟨fun ds => ∃ l, ds = [num4 l] ∧ isN l, fun ds => i64n (bl2 (wv (arrOf (ds.headD default)))), true, [24]⟩
def sp32 : Go.Vg.Spec := ⟨fun ds => ∃ x, ds = [u64n x] ∧ x < B64, fun ds => i64n (bl2 (nn (ds.headD default))), true, [22]⟩
def c13 : Ctx := ⟨tab, lkS [(32, sp32)], [], []⟩
def inv13 (l : List Int) : Nat → Option Inv
 | 2 => some ⟨Int, fun i => [(3, .d (i64 i))], fun _ => [], fun s => slotN s 3, fun _ i => (-1 ≤ i ∧ i ≤ 3) ∧ wv (l.drop (i + 1).toNat) = 0, fun i => (i + 1).toNat⟩
 | _ => none
set_option maxRecDepth 100000 in
theorem vc15  (l : List Int) (i : Int) (F : D)  :
    (owed c39 (fun _ => none) Try.f15 [num4 l, i64 i] F) = (
 (True ∧ false = false) ∧ True ∧ True ∧ True ∧ True ∧ match decide (i < (0 : Int)) with
 | true => True ∧ True ∧ (false = false ∧ True) ∧ D.val (.int .u64 0) = F
 | false => True ∧ True ∧ True ∧ match decide (i > (255 : Int)) with
  | true => True ∧ (false = false ∧ True) ∧ D.val (.int .u64 0) = F
  | false => True ∧ (64 : Int) ≠ 0 ∧ ((0 : Int) ≤ IntKind.i64.wrap (i.tdiv (64 : Int)) ∧ IntKind.i64.wrap (i.tdiv (64 : Int)) < (↑(4 : Nat) : Int) ∧ 4 = 4 ∧ 1 = 1) ∧ (1 ≠ 0 ∧ 1 = 1 ∧ false = false) ∧ True ∧ (64 : Int) ≠ 0 ∧ True ∧ (0 : Int) ≤ IntKind.u64.wrap (i.tmod (64 : Int)) ∧ True ∧ True ∧ (false = false ∧ True) ∧ D.val (.int .u64 (iand IntKind.u64 (ishr IntKind.u64 (l.getD (IntKind.i64.wrap (i.tdiv (64 : Int))).toNat (0 : Int)) (IntKind.u64.wrap (i.tmod (64 : Int)))) (1 : Int))) = F) := by kernel_rfl
set_option maxRecDepth 100000 in
theorem vc13  (l : List Int) (F : D)  :
    (owed c13 (inv13 l) Try.f13 [num4 l] F) = (
 (True ∧ false = false) ∧ True ∧ True ∧ (((sm (AV.d (D.val (.int .i64 3))) ∧ True) ∧ (sm (some (Blk.fix (D.arr .u64 4 l))) ∧ True) ∧ true = true) ∧ ((-1 : Int) ≤ (3 : Int) ∧ (3 : Int) ≤ 3) ∧ vB 18446744073709551616 (List.drop ((3 : Int) + (1 : Int)).toNat l) = 0) ∧ ∀ (x : Int), ((-1 : Int) ≤ x ∧ x ≤ (3 : Int)) ∧ vB 18446744073709551616 (List.drop (x + (1 : Int)).toNat l) = 0 → true = true ∧ True ∧ True ∧ match decide (x ≥ (0 : Int)) with
 | true => True ∧ ((0 : Int) ≤ x ∧ x < (↑(4 : Nat) : Int) ∧ 4 = 4 ∧ 1 = 1) ∧ (1 ≠ 0 ∧ 1 = 1 ∧ false = false) ∧ True ∧ match l.getD x.toNat (0 : Int) != (0 : Int) with
  | true => True ∧ True ∧ True ∧ ((0 : Int) ≤ x ∧ x < (↑(4 : Nat) : Int) ∧ 4 = 4 ∧ 1 = 1) ∧ (1 ≠ 0 ∧ 1 = 1 ∧ false = false) ∧ (∃ (x_1 : Nat), [D.val (.int .u64 (l.getD x.toNat (0 : Int)))] = [D.val (.int .u64 (↑x_1 : Int))] ∧ x_1 < 18446744073709551616) ∧ True ∧ True ∧ (false = false ∧ True) ∧ D.val (.int .i64 (IntKind.i64.wrap (IntKind.i64.wrap ((64 : Int) * x) + (↑(bl2 (l.getD x.toNat (0 : Int)).toNat) : Int)))) = F
  | false => True ∧ True ∧ True ∧ ((sm (AV.d (D.val (.int .i64 (IntKind.i64.wrap (x - (1 : Int)))))) ∧ True) ∧ (sm (some (Blk.fix (D.arr .u64 4 l))) ∧ True) ∧ true = true) ∧ (((-1 : Int) ≤ IntKind.i64.wrap (x - (1 : Int)) ∧ IntKind.i64.wrap (x - (1 : Int)) ≤ (3 : Int)) ∧ vB 18446744073709551616 (List.drop (IntKind.i64.wrap (x - (1 : Int)) + (1 : Int)).toNat l) = 0) ∧ (IntKind.i64.wrap (x - (1 : Int)) + (1 : Int)).toNat < (x + (1 : Int)).toNat
 | false => True ∧ (false = false ∧ True) ∧ D.val (.int .i64 0) = F) := by kernel_rfl
set_option maxRecDepth 100000 in
theorem vc32  (x : Nat) (F : D)  :
    (owed c39 (fun _ => none) Try.f32 [u64n x] F) = (
 True ∧ True ∧ True ∧ match decide ((↑x : Int) ≥ (4294967296 : Int)) with
 | true => True ∧ (0 : Int) ≤ 32 ∧ True ∧ True ∧ True ∧ True ∧ match decide (ishr IntKind.u64 (↑x : Int) (32 : Int) ≥ 65536) with
  | true => True ∧ (0 : Int) ≤ 16 ∧ True ∧ True ∧ True ∧ True ∧ True ∧ True ∧ match decide (ishr IntKind.u64 (ishr IntKind.u64 (↑x : Int) (32 : Int)) (16 : Int) ≥ 256) with
   | true => True ∧ (0 : Int) ≤ 8 ∧ True ∧ True ∧ True ∧ True ∧ True ∧ True ∧ True ∧ ((0 : Int) ≤ IntKind.u8.wrap (ishr IntKind.u64 (ishr IntKind.u64 (ishr IntKind.u64 (↑x : Int) (32 : Int)) (16 : Int)) (8 : Int)) ∧ IntKind.u8.wrap (ishr IntKind.u64 (ishr IntKind.u64 (ishr IntKind.u64 (↑x : Int) (32 : Int)) (16 : Int)) (8 : Int)) < (↑(ints { data := { toList := [0, 1, 2, 2, 3, 3, 3, 3, 4, 4, 4, 4, 4, 4, 4, 4, 5, 5, 5, 5, 5, 5, 5, 5, 5, 5, 5, 5, 5, 5, 5, 5, 6, 6, 6, 6, 6, 6, 6, 6, 6, 6, 6, 6, 6, 6, 6, 6, 6, 6, 6, 6, 6, 6, 6, 6, 6, 6, 6, 6, 6, 6, 6, 6, 7, 7, 7, 7, 7, 7, 7, 7, 7, 7, 7, 7, 7, 7, 7, 7, 7, 7, 7, 7, 7, 7, 7, 7, 7, 7, 7, 7, 7, 7, 7, 7, 7, 7, 7, 7, 7, 7, 7, 7, 7, 7, 7, 7, 7, 7, 7, 7, 7, 7, 7, 7, 7, 7, 7, 7, 7, 7, 7, 7, 7, 7, 7, 7, 8, 8, 8, 8, 8, 8, 8, 8, 8, 8, 8, 8, 8, 8, 8, 8, 8, 8, 8, 8, 8, 8, 8, 8, 8, 8, 8, 8, 8, 8, 8, 8, 8, 8, 8, 8, 8, 8, 8, 8, 8, 8, 8, 8, 8, 8, 8, 8, 8, 8, 8, 8, 8, 8, 8, 8, 8, 8, 8, 8, 8, 8, 8, 8, 8, 8, 8, 8, 8, 8, 8, 8, 8, 8, 8, 8, 8, 8, 8, 8, 8, 8, 8, 8, 8, 8, 8, 8, 8, 8, 8, 8, 8, 8, 8, 8, 8, 8, 8, 8, 8, 8, 8, 8, 8, 8, 8, 8, 8, 8, 8, 8, 8, 8, 8, 8, 8, 8, 8, 8, 8, 8, 8, 8, 8, 8, 8, 8] } }).length : Int)) ∧ True ∧ True ∧ True ∧ (false = false ∧ True) ∧ D.val (Value.int IntKind.i64 (IntKind.i64.wrap (IntKind.i64.wrap (IntKind.i64.wrap ((32 : Int) + (16 : Int)) + (8 : Int)) + IntKind.i64.wrap ((ints { data := { toList := [0, 1, 2, 2, 3, 3, 3, 3, 4, 4, 4, 4, 4, 4, 4, 4, 5, 5, 5, 5, 5, 5, 5, 5, 5, 5, 5, 5, 5, 5, 5, 5, 6, 6, 6, 6, 6, 6, 6, 6, 6, 6, 6, 6, 6, 6, 6, 6, 6, 6, 6, 6, 6, 6, 6, 6, 6, 6, 6, 6, 6, 6, 6, 6, 7, 7, 7, 7, 7, 7, 7, 7, 7, 7, 7, 7, 7, 7, 7, 7, 7, 7, 7, 7, 7, 7, 7, 7, 7, 7, 7, 7, 7, 7, 7, 7, 7, 7, 7, 7, 7, 7, 7, 7, 7, 7, 7, 7, 7, 7, 7, 7, 7, 7, 7, 7, 7, 7, 7, 7, 7, 7, 7, 7, 7, 7, 7, 7, 8, 8, 8, 8, 8, 8, 8, 8, 8, 8, 8, 8, 8, 8, 8, 8, 8, 8, 8, 8, 8, 8, 8, 8, 8, 8, 8, 8, 8, 8, 8, 8, 8, 8, 8, 8, 8, 8, 8, 8, 8, 8, 8, 8, 8, 8, 8, 8, 8, 8, 8, 8, 8, 8, 8, 8, 8, 8, 8, 8, 8, 8, 8, 8, 8, 8, 8, 8, 8, 8, 8, 8, 8, 8, 8, 8, 8, 8, 8, 8, 8, 8, 8, 8, 8, 8, 8, 8, 8, 8, 8, 8, 8, 8, 8, 8, 8, 8, 8, 8, 8, 8, 8, 8, 8, 8, 8, 8, 8, 8, 8, 8, 8, 8, 8, 8, 8, 8, 8, 8, 8, 8, 8, 8, 8, 8, 8, 8] } }).getD (IntKind.u8.wrap (ishr IntKind.u64 (ishr IntKind.u64 (ishr IntKind.u64 (↑x : Int) (32 : Int)) (16 : Int)) (8 : Int))).toNat (0 : Int))))) = F
   | false => True ∧ True ∧ True ∧ ((0 : Int) ≤ IntKind.u8.wrap (ishr IntKind.u64 (ishr IntKind.u64 (↑x : Int) (32 : Int)) (16 : Int)) ∧ IntKind.u8.wrap (ishr IntKind.u64 (ishr IntKind.u64 (↑x : Int) (32 : Int)) (16 : Int)) < (↑(ints { data := { toList := [0, 1, 2, 2, 3, 3, 3, 3, 4, 4, 4, 4, 4, 4, 4, 4, 5, 5, 5, 5, 5, 5, 5, 5, 5, 5, 5, 5, 5, 5, 5, 5, 6, 6, 6, 6, 6, 6, 6, 6, 6, 6, 6, 6, 6, 6, 6, 6, 6, 6, 6, 6, 6, 6, 6, 6, 6, 6, 6, 6, 6, 6, 6, 6, 7, 7, 7, 7, 7, 7, 7, 7, 7, 7, 7, 7, 7, 7, 7, 7, 7, 7, 7, 7, 7, 7, 7, 7, 7, 7, 7, 7, 7, 7, 7, 7, 7, 7, 7, 7, 7, 7, 7, 7, 7, 7, 7, 7, 7, 7, 7, 7, 7, 7, 7, 7, 7, 7, 7, 7, 7, 7, 7, 7, 7, 7, 7, 7, 8, 8, 8, 8, 8, 8, 8, 8, 8, 8, 8, 8, 8, 8, 8, 8, 8, 8, 8, 8, 8, 8, 8, 8, 8, 8, 8, 8, 8, 8, 8, 8, 8, 8, 8, 8, 8, 8, 8, 8, 8, 8, 8, 8, 8, 8, 8, 8, 8, 8, 8, 8, 8, 8, 8, 8, 8, 8, 8, 8, 8, 8, 8, 8, 8, 8, 8, 8, 8, 8, 8, 8, 8, 8, 8, 8, 8, 8, 8, 8, 8, 8, 8, 8, 8, 8, 8, 8, 8, 8, 8, 8, 8, 8, 8, 8, 8, 8, 8, 8, 8, 8, 8, 8, 8, 8, 8, 8, 8, 8, 8, 8, 8, 8, 8, 8, 8, 8, 8, 8, 8, 8, 8, 8, 8, 8, 8, 8] } }).length : Int)) ∧ True ∧ True ∧ True ∧ (false = false ∧ True) ∧ D.val (Value.int IntKind.i64 (IntKind.i64.wrap (IntKind.i64.wrap ((32 : Int) + (16 : Int)) + IntKind.i64.wrap ((ints { data := { toList := [0, 1, 2, 2, 3, 3, 3, 3, 4, 4, 4, 4, 4, 4, 4, 4, 5, 5, 5, 5, 5, 5, 5, 5, 5, 5, 5, 5, 5, 5, 5, 5, 6, 6, 6, 6, 6, 6, 6, 6, 6, 6, 6, 6, 6, 6, 6, 6, 6, 6, 6, 6, 6, 6, 6, 6, 6, 6, 6, 6, 6, 6, 6, 6, 7, 7, 7, 7, 7, 7, 7, 7, 7, 7, 7, 7, 7, 7, 7, 7, 7, 7, 7, 7, 7, 7, 7, 7, 7, 7, 7, 7, 7, 7, 7, 7, 7, 7, 7, 7, 7, 7, 7, 7, 7, 7, 7, 7, 7, 7, 7, 7, 7, 7, 7, 7, 7, 7, 7, 7, 7, 7, 7, 7, 7, 7, 7, 7, 8, 8, 8, 8, 8, 8, 8, 8, 8, 8, 8, 8, 8, 8, 8, 8, 8, 8, 8, 8, 8, 8, 8, 8, 8, 8, 8, 8, 8, 8, 8, 8, 8, 8, 8, 8, 8, 8, 8, 8, 8, 8, 8, 8, 8, 8, 8, 8, 8, 8, 8, 8, 8, 8, 8, 8, 8, 8, 8, 8, 8, 8, 8, 8, 8, 8, 8, 8, 8, 8, 8, 8, 8, 8, 8, 8, 8, 8, 8, 8, 8, 8, 8, 8, 8, 8, 8, 8, 8, 8, 8, 8, 8, 8, 8, 8, 8, 8, 8, 8, 8, 8, 8, 8, 8, 8, 8, 8, 8, 8, 8, 8, 8, 8, 8, 8, 8, 8, 8, 8, 8, 8, 8, 8, 8, 8, 8, 8] } }).getD (IntKind.u8.wrap (ishr IntKind.u64 (ishr IntKind.u64 (↑x : Int) (32 : Int)) (16 : Int))).toNat (0 : Int))))) = F
  | false => True ∧ True ∧ match decide (ishr IntKind.u64 (↑x : Int) (32 : Int) ≥ 256) with
   | true => True ∧ (0 : Int) ≤ 8 ∧ True ∧ True ∧ True ∧ True ∧ True ∧ True ∧ True ∧ ((0 : Int) ≤ IntKind.u8.wrap (ishr IntKind.u64 (ishr IntKind.u64 (↑x : Int) (32 : Int)) (8 : Int)) ∧ IntKind.u8.wrap (ishr IntKind.u64 (ishr IntKind.u64 (↑x : Int) (32 : Int)) (8 : Int)) < (↑(ints { data := { toList := [0, 1, 2, 2, 3, 3, 3, 3, 4, 4, 4, 4, 4, 4, 4, 4, 5, 5, 5, 5, 5, 5, 5, 5, 5, 5, 5, 5, 5, 5, 5, 5, 6, 6, 6, 6, 6, 6, 6, 6, 6, 6, 6, 6, 6, 6, 6, 6, 6, 6, 6, 6, 6, 6, 6, 6, 6, 6, 6, 6, 6, 6, 6, 6, 7, 7, 7, 7, 7, 7, 7, 7, 7, 7, 7, 7, 7, 7, 7, 7, 7, 7, 7, 7, 7, 7, 7, 7, 7, 7, 7, 7, 7, 7, 7, 7, 7, 7, 7, 7, 7, 7, 7, 7, 7, 7, 7, 7, 7, 7, 7, 7, 7, 7, 7, 7, 7, 7, 7, 7, 7, 7, 7, 7, 7, 7, 7, 7, 8, 8, 8, 8, 8, 8, 8, 8, 8, 8, 8, 8, 8, 8, 8, 8, 8, 8, 8, 8, 8, 8, 8, 8, 8, 8, 8, 8, 8, 8, 8, 8, 8, 8, 8, 8, 8, 8, 8, 8, 8, 8, 8, 8, 8, 8, 8, 8, 8, 8, 8, 8, 8, 8, 8, 8, 8, 8, 8, 8, 8, 8, 8, 8, 8, 8, 8, 8, 8, 8, 8, 8, 8, 8, 8, 8, 8, 8, 8, 8, 8, 8, 8, 8, 8, 8, 8, 8, 8, 8, 8, 8, 8, 8, 8, 8, 8, 8, 8, 8, 8, 8, 8, 8, 8, 8, 8, 8, 8, 8, 8, 8, 8, 8, 8, 8, 8, 8, 8, 8, 8, 8, 8, 8, 8, 8, 8, 8] } }).length : Int)) ∧ True ∧ True ∧ True ∧ (false = false ∧ True) ∧ D.val (Value.int IntKind.i64 (IntKind.i64.wrap (IntKind.i64.wrap ((32 : Int) + (8 : Int)) + IntKind.i64.wrap ((ints { data := { toList := [0, 1, 2, 2, 3, 3, 3, 3, 4, 4, 4, 4, 4, 4, 4, 4, 5, 5, 5, 5, 5, 5, 5, 5, 5, 5, 5, 5, 5, 5, 5, 5, 6, 6, 6, 6, 6, 6, 6, 6, 6, 6, 6, 6, 6, 6, 6, 6, 6, 6, 6, 6, 6, 6, 6, 6, 6, 6, 6, 6, 6, 6, 6, 6, 7, 7, 7, 7, 7, 7, 7, 7, 7, 7, 7, 7, 7, 7, 7, 7, 7, 7, 7, 7, 7, 7, 7, 7, 7, 7, 7, 7, 7, 7, 7, 7, 7, 7, 7, 7, 7, 7, 7, 7, 7, 7, 7, 7, 7, 7, 7, 7, 7, 7, 7, 7, 7, 7, 7, 7, 7, 7, 7, 7, 7, 7, 7, 7, 8, 8, 8, 8, 8, 8, 8, 8, 8, 8, 8, 8, 8, 8, 8, 8, 8, 8, 8, 8, 8, 8, 8, 8, 8, 8, 8, 8, 8, 8, 8, 8, 8, 8, 8, 8, 8, 8, 8, 8, 8, 8, 8, 8, 8, 8, 8, 8, 8, 8, 8, 8, 8, 8, 8, 8, 8, 8, 8, 8, 8, 8, 8, 8, 8, 8, 8, 8, 8, 8, 8, 8, 8, 8, 8, 8, 8, 8, 8, 8, 8, 8, 8, 8, 8, 8, 8, 8, 8, 8, 8, 8, 8, 8, 8, 8, 8, 8, 8, 8, 8, 8, 8, 8, 8, 8, 8, 8, 8, 8, 8, 8, 8, 8, 8, 8, 8, 8, 8, 8, 8, 8, 8, 8, 8, 8, 8, 8] } }).getD (IntKind.u8.wrap (ishr IntKind.u64 (ishr IntKind.u64 (↑x : Int) (32 : Int)) (8 : Int))).toNat (0 : Int))))) = F
   | false => True ∧ True ∧ True ∧ ((0 : Int) ≤ IntKind.u8.wrap (ishr IntKind.u64 (↑x : Int) (32 : Int)) ∧ IntKind.u8.wrap (ishr IntKind.u64 (↑x : Int) (32 : Int)) < (↑(ints { data := { toList := [0, 1, 2, 2, 3, 3, 3, 3, 4, 4, 4, 4, 4, 4, 4, 4, 5, 5, 5, 5, 5, 5, 5, 5, 5, 5, 5, 5, 5, 5, 5, 5, 6, 6, 6, 6, 6, 6, 6, 6, 6, 6, 6, 6, 6, 6, 6, 6, 6, 6, 6, 6, 6, 6, 6, 6, 6, 6, 6, 6, 6, 6, 6, 6, 7, 7, 7, 7, 7, 7, 7, 7, 7, 7, 7, 7, 7, 7, 7, 7, 7, 7, 7, 7, 7, 7, 7, 7, 7, 7, 7, 7, 7, 7, 7, 7, 7, 7, 7, 7, 7, 7, 7, 7, 7, 7, 7, 7, 7, 7, 7, 7, 7, 7, 7, 7, 7, 7, 7, 7, 7, 7, 7, 7, 7, 7, 7, 7, 8, 8, 8, 8, 8, 8, 8, 8, 8, 8, 8, 8, 8, 8, 8, 8, 8, 8, 8, 8, 8, 8, 8, 8, 8, 8, 8, 8, 8, 8, 8, 8, 8, 8, 8, 8, 8, 8, 8, 8, 8, 8, 8, 8, 8, 8, 8, 8, 8, 8, 8, 8, 8, 8, 8, 8, 8, 8, 8, 8, 8, 8, 8, 8, 8, 8, 8, 8, 8, 8, 8, 8, 8, 8, 8, 8, 8, 8, 8, 8, 8, 8, 8, 8, 8, 8, 8, 8, 8, 8, 8, 8, 8, 8, 8, 8, 8, 8, 8, 8, 8, 8, 8, 8, 8, 8, 8, 8, 8, 8, 8, 8, 8, 8, 8, 8, 8, 8, 8, 8, 8, 8, 8, 8, 8, 8, 8, 8] } }).length : Int)) ∧ True ∧ True ∧ True ∧ (false = false ∧ True) ∧ D.val (Value.int IntKind.i64 (IntKind.i64.wrap ((32 : Int) + IntKind.i64.wrap ((ints { data := { toList := [0, 1, 2, 2, 3, 3, 3, 3, 4, 4, 4, 4, 4, 4, 4, 4, 5, 5, 5, 5, 5, 5, 5, 5, 5, 5, 5, 5, 5, 5, 5, 5, 6, 6, 6, 6, 6, 6, 6, 6, 6, 6, 6, 6, 6, 6, 6, 6, 6, 6, 6, 6, 6, 6, 6, 6, 6, 6, 6, 6, 6, 6, 6, 6, 7, 7, 7, 7, 7, 7, 7, 7, 7, 7, 7, 7, 7, 7, 7, 7, 7, 7, 7, 7, 7, 7, 7, 7, 7, 7, 7, 7, 7, 7, 7, 7, 7, 7, 7, 7, 7, 7, 7, 7, 7, 7, 7, 7, 7, 7, 7, 7, 7, 7, 7, 7, 7, 7, 7, 7, 7, 7, 7, 7, 7, 7, 7, 7, 8, 8, 8, 8, 8, 8, 8, 8, 8, 8, 8, 8, 8, 8, 8, 8, 8, 8, 8, 8, 8, 8, 8, 8, 8, 8, 8, 8, 8, 8, 8, 8, 8, 8, 8, 8, 8, 8, 8, 8, 8, 8, 8, 8, 8, 8, 8, 8, 8, 8, 8, 8, 8, 8, 8, 8, 8, 8, 8, 8, 8, 8, 8, 8, 8, 8, 8, 8, 8, 8, 8, 8, 8, 8, 8, 8, 8, 8, 8, 8, 8, 8, 8, 8, 8, 8, 8, 8, 8, 8, 8, 8, 8, 8, 8, 8, 8, 8, 8, 8, 8, 8, 8, 8, 8, 8, 8, 8, 8, 8, 8, 8, 8, 8, 8, 8, 8, 8, 8, 8, 8, 8, 8, 8, 8, 8, 8, 8] } }).getD (IntKind.u8.wrap (ishr IntKind.u64 (↑x : Int) (32 : Int))).toNat (0 : Int))))) = F
 | false => True ∧ True ∧ match decide ((↑x : Int) ≥ (65536 : Int)) with
  | true => True ∧ (0 : Int) ≤ 16 ∧ True ∧ True ∧ True ∧ True ∧ True ∧ True ∧ match decide (ishr IntKind.u64 (↑x : Int) (16 : Int) ≥ 256) with
   | true => True ∧ (0 : Int) ≤ 8 ∧ True ∧ True ∧ True ∧ True ∧ True ∧ True ∧ True ∧ ((0 : Int) ≤ IntKind.u8.wrap (ishr IntKind.u64 (ishr IntKind.u64 (↑x : Int) (16 : Int)) (8 : Int)) ∧ IntKind.u8.wrap (ishr IntKind.u64 (ishr IntKind.u64 (↑x : Int) (16 : Int)) (8 : Int)) < (↑(ints { data := { toList := [0, 1, 2, 2, 3, 3, 3, 3, 4, 4, 4, 4, 4, 4, 4, 4, 5, 5, 5, 5, 5, 5, 5, 5, 5, 5, 5, 5, 5, 5, 5, 5, 6, 6, 6, 6, 6, 6, 6, 6, 6, 6, 6, 6, 6, 6, 6, 6, 6, 6, 6, 6, 6, 6, 6, 6, 6, 6, 6, 6, 6, 6, 6, 6, 7, 7, 7, 7, 7, 7, 7, 7, 7, 7, 7, 7, 7, 7, 7, 7, 7, 7, 7, 7, 7, 7, 7, 7, 7, 7, 7, 7, 7, 7, 7, 7, 7, 7, 7, 7, 7, 7, 7, 7, 7, 7, 7, 7, 7, 7, 7, 7, 7, 7, 7, 7, 7, 7, 7, 7, 7, 7, 7, 7, 7, 7, 7, 7, 8, 8, 8, 8, 8, 8, 8, 8, 8, 8, 8, 8, 8, 8, 8, 8, 8, 8, 8, 8, 8, 8, 8, 8, 8, 8, 8, 8, 8, 8, 8, 8, 8, 8, 8, 8, 8, 8, 8, 8, 8, 8, 8, 8, 8, 8, 8, 8, 8, 8, 8, 8, 8, 8, 8, 8, 8, 8, 8, 8, 8, 8, 8, 8, 8, 8, 8, 8, 8, 8, 8, 8, 8, 8, 8, 8, 8, 8, 8, 8, 8, 8, 8, 8, 8, 8, 8, 8, 8, 8, 8, 8, 8, 8, 8, 8, 8, 8, 8, 8, 8, 8, 8, 8, 8, 8, 8, 8, 8, 8, 8, 8, 8, 8, 8, 8, 8, 8, 8, 8, 8, 8, 8, 8, 8, 8, 8, 8] } }).length : Int)) ∧ True ∧ True ∧ True ∧ (false = false ∧ True) ∧ D.val (Value.int IntKind.i64 (IntKind.i64.wrap (IntKind.i64.wrap (IntKind.i64.wrap ((0 : Int) + (16 : Int)) + (8 : Int)) + IntKind.i64.wrap ((ints { data := { toList := [0, 1, 2, 2, 3, 3, 3, 3, 4, 4, 4, 4, 4, 4, 4, 4, 5, 5, 5, 5, 5, 5, 5, 5, 5, 5, 5, 5, 5, 5, 5, 5, 6, 6, 6, 6, 6, 6, 6, 6, 6, 6, 6, 6, 6, 6, 6, 6, 6, 6, 6, 6, 6, 6, 6, 6, 6, 6, 6, 6, 6, 6, 6, 6, 7, 7, 7, 7, 7, 7, 7, 7, 7, 7, 7, 7, 7, 7, 7, 7, 7, 7, 7, 7, 7, 7, 7, 7, 7, 7, 7, 7, 7, 7, 7, 7, 7, 7, 7, 7, 7, 7, 7, 7, 7, 7, 7, 7, 7, 7, 7, 7, 7, 7, 7, 7, 7, 7, 7, 7, 7, 7, 7, 7, 7, 7, 7, 7, 8, 8, 8, 8, 8, 8, 8, 8, 8, 8, 8, 8, 8, 8, 8, 8, 8, 8, 8, 8, 8, 8, 8, 8, 8, 8, 8, 8, 8, 8, 8, 8, 8, 8, 8, 8, 8, 8, 8, 8, 8, 8, 8, 8, 8, 8, 8, 8, 8, 8, 8, 8, 8, 8, 8, 8, 8, 8, 8, 8, 8, 8, 8, 8, 8, 8, 8, 8, 8, 8, 8, 8, 8, 8, 8, 8, 8, 8, 8, 8, 8, 8, 8, 8, 8, 8, 8, 8, 8, 8, 8, 8, 8, 8, 8, 8, 8, 8, 8, 8, 8, 8, 8, 8, 8, 8, 8, 8, 8, 8, 8, 8, 8, 8, 8, 8, 8, 8, 8, 8, 8, 8, 8, 8, 8, 8, 8, 8] } }).getD (IntKind.u8.wrap (ishr IntKind.u64 (ishr IntKind.u64 (↑x : Int) (16 : Int)) (8 : Int))).toNat (0 : Int))))) = F
   | false => True ∧ True ∧ True ∧ ((0 : Int) ≤ IntKind.u8.wrap (ishr IntKind.u64 (↑x : Int) (16 : Int)) ∧ IntKind.u8.wrap (ishr IntKind.u64 (↑x : Int) (16 : Int)) < (↑(ints { data := { toList := [0, 1, 2, 2, 3, 3, 3, 3, 4, 4, 4, 4, 4, 4, 4, 4, 5, 5, 5, 5, 5, 5, 5, 5, 5, 5, 5, 5, 5, 5, 5, 5, 6, 6, 6, 6, 6, 6, 6, 6, 6, 6, 6, 6, 6, 6, 6, 6, 6, 6, 6, 6, 6, 6, 6, 6, 6, 6, 6, 6, 6, 6, 6, 6, 7, 7, 7, 7, 7, 7, 7, 7, 7, 7, 7, 7, 7, 7, 7, 7, 7, 7, 7, 7, 7, 7, 7, 7, 7, 7, 7, 7, 7, 7, 7, 7, 7, 7, 7, 7, 7, 7, 7, 7, 7, 7, 7, 7, 7, 7, 7, 7, 7, 7, 7, 7, 7, 7, 7, 7, 7, 7, 7, 7, 7, 7, 7, 7, 8, 8, 8, 8, 8, 8, 8, 8, 8, 8, 8, 8, 8, 8, 8, 8, 8, 8, 8, 8, 8, 8, 8, 8, 8, 8, 8, 8, 8, 8, 8, 8, 8, 8, 8, 8, 8, 8, 8, 8, 8, 8, 8, 8, 8, 8, 8, 8, 8, 8, 8, 8, 8, 8, 8, 8, 8, 8, 8, 8, 8, 8, 8, 8, 8, 8, 8, 8, 8, 8, 8, 8, 8, 8, 8, 8, 8, 8, 8, 8, 8, 8, 8, 8, 8, 8, 8, 8, 8, 8, 8, 8, 8, 8, 8, 8, 8, 8, 8, 8, 8, 8, 8, 8, 8, 8, 8, 8, 8, 8, 8, 8, 8, 8, 8, 8, 8, 8, 8, 8, 8, 8, 8, 8, 8, 8, 8, 8] } }).length : Int)) ∧ True ∧ True ∧ True ∧ (false = false ∧ True) ∧ D.val (Value.int IntKind.i64 (IntKind.i64.wrap (IntKind.i64.wrap ((0 : Int) + (16 : Int)) + IntKind.i64.wrap ((ints { data := { toList := [0, 1, 2, 2, 3, 3, 3, 3, 4, 4, 4, 4, 4, 4, 4, 4, 5, 5, 5, 5, 5, 5, 5, 5, 5, 5, 5, 5, 5, 5, 5, 5, 6, 6, 6, 6, 6, 6, 6, 6, 6, 6, 6, 6, 6, 6, 6, 6, 6, 6, 6, 6, 6, 6, 6, 6, 6, 6, 6, 6, 6, 6, 6, 6, 7, 7, 7, 7, 7, 7, 7, 7, 7, 7, 7, 7, 7, 7, 7, 7, 7, 7, 7, 7, 7, 7, 7, 7, 7, 7, 7, 7, 7, 7, 7, 7, 7, 7, 7, 7, 7, 7, 7, 7, 7, 7, 7, 7, 7, 7, 7, 7, 7, 7, 7, 7, 7, 7, 7, 7, 7, 7, 7, 7, 7, 7, 7, 7, 8, 8, 8, 8, 8, 8, 8, 8, 8, 8, 8, 8, 8, 8, 8, 8, 8, 8, 8, 8, 8, 8, 8, 8, 8, 8, 8, 8, 8, 8, 8, 8, 8, 8, 8, 8, 8, 8, 8, 8, 8, 8, 8, 8, 8, 8, 8, 8, 8, 8, 8, 8, 8, 8, 8, 8, 8, 8, 8, 8, 8, 8, 8, 8, 8, 8, 8, 8, 8, 8, 8, 8, 8, 8, 8, 8, 8, 8, 8, 8, 8, 8, 8, 8, 8, 8, 8, 8, 8, 8, 8, 8, 8, 8, 8, 8, 8, 8, 8, 8, 8, 8, 8, 8, 8, 8, 8, 8, 8, 8, 8, 8, 8, 8, 8, 8, 8, 8, 8, 8, 8, 8, 8, 8, 8, 8, 8, 8] } }).getD (IntKind.u8.wrap (ishr IntKind.u64 (↑x : Int) (16 : Int))).toNat (0 : Int))))) = F
  | false => True ∧ True ∧ match decide ((↑x : Int) ≥ (256 : Int)) with
   | true => True ∧ (0 : Int) ≤ 8 ∧ True ∧ True ∧ True ∧ True ∧ True ∧ True ∧ True ∧ ((0 : Int) ≤ IntKind.u8.wrap (ishr IntKind.u64 (↑x : Int) (8 : Int)) ∧ IntKind.u8.wrap (ishr IntKind.u64 (↑x : Int) (8 : Int)) < (↑(ints { data := { toList := [0, 1, 2, 2, 3, 3, 3, 3, 4, 4, 4, 4, 4, 4, 4, 4, 5, 5, 5, 5, 5, 5, 5, 5, 5, 5, 5, 5, 5, 5, 5, 5, 6, 6, 6, 6, 6, 6, 6, 6, 6, 6, 6, 6, 6, 6, 6, 6, 6, 6, 6, 6, 6, 6, 6, 6, 6, 6, 6, 6, 6, 6, 6, 6, 7, 7, 7, 7, 7, 7, 7, 7, 7, 7, 7, 7, 7, 7, 7, 7, 7, 7, 7, 7, 7, 7, 7, 7, 7, 7, 7, 7, 7, 7, 7, 7, 7, 7, 7, 7, 7, 7, 7, 7, 7, 7, 7, 7, 7, 7, 7, 7, 7, 7, 7, 7, 7, 7, 7, 7, 7, 7, 7, 7, 7, 7, 7, 7, 8, 8, 8, 8, 8, 8, 8, 8, 8, 8, 8, 8, 8, 8, 8, 8, 8, 8, 8, 8, 8, 8, 8, 8, 8, 8, 8, 8, 8, 8, 8, 8, 8, 8, 8, 8, 8, 8, 8, 8, 8, 8, 8, 8, 8, 8, 8, 8, 8, 8, 8, 8, 8, 8, 8, 8, 8, 8, 8, 8, 8, 8, 8, 8, 8, 8, 8, 8, 8, 8, 8, 8, 8, 8, 8, 8, 8, 8, 8, 8, 8, 8, 8, 8, 8, 8, 8, 8, 8, 8, 8, 8, 8, 8, 8, 8, 8, 8, 8, 8, 8, 8, 8, 8, 8, 8, 8, 8, 8, 8, 8, 8, 8, 8, 8, 8, 8, 8, 8, 8, 8, 8, 8, 8, 8, 8, 8, 8] } }).length : Int)) ∧ True ∧ True ∧ True ∧ (false = false ∧ True) ∧ D.val (Value.int IntKind.i64 (IntKind.i64.wrap (IntKind.i64.wrap ((0 : Int) + (8 : Int)) + IntKind.i64.wrap ((ints { data := { toList := [0, 1, 2, 2, 3, 3, 3, 3, 4, 4, 4, 4, 4, 4, 4, 4, 5, 5, 5, 5, 5, 5, 5, 5, 5, 5, 5, 5, 5, 5, 5, 5, 6, 6, 6, 6, 6, 6, 6, 6, 6, 6, 6, 6, 6, 6, 6, 6, 6, 6, 6, 6, 6, 6, 6, 6, 6, 6, 6, 6, 6, 6, 6, 6, 7, 7, 7, 7, 7, 7, 7, 7, 7, 7, 7, 7, 7, 7, 7, 7, 7, 7, 7, 7, 7, 7, 7, 7, 7, 7, 7, 7, 7, 7, 7, 7, 7, 7, 7, 7, 7, 7, 7, 7, 7, 7, 7, 7, 7, 7, 7, 7, 7, 7, 7, 7, 7, 7, 7, 7, 7, 7, 7, 7, 7, 7, 7, 7, 8, 8, 8, 8, 8, 8, 8, 8, 8, 8, 8, 8, 8, 8, 8, 8, 8, 8, 8, 8, 8, 8, 8, 8, 8, 8, 8, 8, 8, 8, 8, 8, 8, 8, 8, 8, 8, 8, 8, 8, 8, 8, 8, 8, 8, 8, 8, 8, 8, 8, 8, 8, 8, 8, 8, 8, 8, 8, 8, 8, 8, 8, 8, 8, 8, 8, 8, 8, 8, 8, 8, 8, 8, 8, 8, 8, 8, 8, 8, 8, 8, 8, 8, 8, 8, 8, 8, 8, 8, 8, 8, 8, 8, 8, 8, 8, 8, 8, 8, 8, 8, 8, 8, 8, 8, 8, 8, 8, 8, 8, 8, 8, 8, 8, 8, 8, 8, 8, 8, 8, 8, 8, 8, 8, 8, 8, 8, 8] } }).getD (IntKind.u8.wrap (ishr IntKind.u64 (↑x : Int) (8 : Int))).toNat (0 : Int))))) = F
   | false => True ∧ True ∧ True ∧ ((0 : Int) ≤ IntKind.u8.wrap (↑x : Int) ∧ IntKind.u8.wrap (↑x : Int) < (↑(ints { data := { toList := [0, 1, 2, 2, 3, 3, 3, 3, 4, 4, 4, 4, 4, 4, 4, 4, 5, 5, 5, 5, 5, 5, 5, 5, 5, 5, 5, 5, 5, 5, 5, 5, 6, 6, 6, 6, 6, 6, 6, 6, 6, 6, 6, 6, 6, 6, 6, 6, 6, 6, 6, 6, 6, 6, 6, 6, 6, 6, 6, 6, 6, 6, 6, 6, 7, 7, 7, 7, 7, 7, 7, 7, 7, 7, 7, 7, 7, 7, 7, 7, 7, 7, 7, 7, 7, 7, 7, 7, 7, 7, 7, 7, 7, 7, 7, 7, 7, 7, 7, 7, 7, 7, 7, 7, 7, 7, 7, 7, 7, 7, 7, 7, 7, 7, 7, 7, 7, 7, 7, 7, 7, 7, 7, 7, 7, 7, 7, 7, 8, 8, 8, 8, 8, 8, 8, 8, 8, 8, 8, 8, 8, 8, 8, 8, 8, 8, 8, 8, 8, 8, 8, 8, 8, 8, 8, 8, 8, 8, 8, 8, 8, 8, 8, 8, 8, 8, 8, 8, 8, 8, 8, 8, 8, 8, 8, 8, 8, 8, 8, 8, 8, 8, 8, 8, 8, 8, 8, 8, 8, 8, 8, 8, 8, 8, 8, 8, 8, 8, 8, 8, 8, 8, 8, 8, 8, 8, 8, 8, 8, 8, 8, 8, 8, 8, 8, 8, 8, 8, 8, 8, 8, 8, 8, 8, 8, 8, 8, 8, 8, 8, 8, 8, 8, 8, 8, 8, 8, 8, 8, 8, 8, 8, 8, 8, 8, 8, 8, 8, 8, 8, 8, 8, 8, 8, 8, 8] } }).length : Int)) ∧ True ∧ True ∧ True ∧ (false = false ∧ True) ∧ D.val (Value.int IntKind.i64 (IntKind.i64.wrap ((0 : Int) + IntKind.i64.wrap ((ints { data := { toList := [0, 1, 2, 2, 3, 3, 3, 3, 4, 4, 4, 4, 4, 4, 4, 4, 5, 5, 5, 5, 5, 5, 5, 5, 5, 5, 5, 5, 5, 5, 5, 5, 6, 6, 6, 6, 6, 6, 6, 6, 6, 6, 6, 6, 6, 6, 6, 6, 6, 6, 6, 6, 6, 6, 6, 6, 6, 6, 6, 6, 6, 6, 6, 6, 7, 7, 7, 7, 7, 7, 7, 7, 7, 7, 7, 7, 7, 7, 7, 7, 7, 7, 7, 7, 7, 7, 7, 7, 7, 7, 7, 7, 7, 7, 7, 7, 7, 7, 7, 7, 7, 7, 7, 7, 7, 7, 7, 7, 7, 7, 7, 7, 7, 7, 7, 7, 7, 7, 7, 7, 7, 7, 7, 7, 7, 7, 7, 7, 8, 8, 8, 8, 8, 8, 8, 8, 8, 8, 8, 8, 8, 8, 8, 8, 8, 8, 8, 8, 8, 8, 8, 8, 8, 8, 8, 8, 8, 8, 8, 8, 8, 8, 8, 8, 8, 8, 8, 8, 8, 8, 8, 8, 8, 8, 8, 8, 8, 8, 8, 8, 8, 8, 8, 8, 8, 8, 8, 8, 8, 8, 8, 8, 8, 8, 8, 8, 8, 8, 8, 8, 8, 8, 8, 8, 8, 8, 8, 8, 8, 8, 8, 8, 8, 8, 8, 8, 8, 8, 8, 8, 8, 8, 8, 8, 8, 8, 8, 8, 8, 8, 8, 8, 8, 8, 8, 8, 8, 8, 8, 8, 8, 8, 8, 8, 8, 8, 8, 8, 8, 8, 8, 8, 8, 8, 8, 8] } }).getD (IntKind.u8.wrap (↑x : Int)).toNat (0 : Int))))) = F) := by kernel_rfl
end Go.Proofs.Ytpkcmjfmoemekaa
namespace Go.Proofs.Ytpkcmjfmoemekaa
open Go Go.Vg
theorem bl2_log {x n : Nat} (h1 : 2 ^ n ≤ x) (h2 : x < 2 ^ (n + 1)) : bl2 x = n + 1 := by
 have h0 : x ≠ 0 := by have := Nat.two_pow_pos n; omega
 unfold bl2
 rw [if_neg h0, (Nat.log2_eq_iff h0).2 ⟨h1, h2⟩]
theorem bl2_up {lo y k : Nat} (hlo : lo < 2 ^ k) (hy : y ≠ 0) : bl2 (lo + 2 ^ k * y) = k + bl2 y := by
 have h1 := Nat.log2_self_le hy
 have h2 := Nat.lt_log2_self (n := y)
 have e : bl2 y = Nat.log2 y + 1 := if_neg hy
 rw [e, ← Nat.add_assoc]
 apply bl2_log
 ·rw [Nat.pow_add]
  have := Nat.mul_le_mul_left (2 ^ k) h1
  omega
 ·rw [Nat.add_assoc, Nat.pow_add]
  have := Nat.mul_le_mul_left (2 ^ k) (show y + 1 ≤ 2 ^ (Nat.log2 y + 1) from h2)
  rw [Nat.mul_add, Nat.mul_one] at this
  omega
theorem bl2_div {x k : Nat} (h : 2 ^ k ≤ x) : bl2 x = k + bl2 (x / 2 ^ k) := by
 have hp : 0 < 2 ^ k := Nat.two_pow_pos k
 have h1 : x / 2 ^ k ≠ 0 := by
  have := Nat.div_pos h hp
  omega
 have h2 := bl2_up (Nat.mod_lt x hp) h1
 rw [Nat.mod_add_div] at h2
 exact h2
def lenTab : List Int := (List.range 256).map fun n => (bl2 n : Int)
theorem tab_eq : ints { data := { toList := [(0 : UInt8), (1 : UInt8), (2 : UInt8), (2 : UInt8), (3 : UInt8), (3 : UInt8), (3 : UInt8), (3 : UInt8), (4 : UInt8), (4 : UInt8), (4 : UInt8), (4 : UInt8), (4 : UInt8), (4 : UInt8), (4 : UInt8), (4 : UInt8), (5 : UInt8), (5 : UInt8), (5 : UInt8), (5 : UInt8), (5 : UInt8), (5 : UInt8), (5 : UInt8), (5 : UInt8), (5 : UInt8), (5 : UInt8), (5 : UInt8), (5 : UInt8), (5 : UInt8), (5 : UInt8), (5 : UInt8), (5 : UInt8), (6 : UInt8), (6 : UInt8), (6 : UInt8), (6 : UInt8), (6 : UInt8), (6 : UInt8), (6 : UInt8), (6 : UInt8), (6 : UInt8), (6 : UInt8), (6 : UInt8), (6 : UInt8), (6 : UInt8), (6 : UInt8), (6 : UInt8), (6 : UInt8), (6 : UInt8), (6 : UInt8), (6 : UInt8), (6 : UInt8), (6 : UInt8), (6 : UInt8), (6 : UInt8), (6 : UInt8), (6 : UInt8), (6 : UInt8), (6 : UInt8), (6 : UInt8), (6 : UInt8), (6 : UInt8), (6 : UInt8), (6 : UInt8), (7 : UInt8), (7 : UInt8), (7 : UInt8), (7 : UInt8), (7 : UInt8), (7 : UInt8), (7 : UInt8), (7 : UInt8), (7 : UInt8), (7 : UInt8), (7 : UInt8), (7 : UInt8), (7 : UInt8), (7 : UInt8), (7 : UInt8), (7 : UInt8), (7 : UInt8), (7 : UInt8), (7 : UInt8), (7 : UInt8), (7 : UInt8), (7 : UInt8), (7 : UInt8), (7 : UInt8), (7 : UInt8), (7 : UInt8), (7 : UInt8), (7 : UInt8), (7 : UInt8), (7 : UInt8), (7 : UInt8), (7 : UInt8), (7 : UInt8), (7 : UInt8), (7 : UInt8), (7 : UInt8), (7 : UInt8), (7 : UInt8), (7 : UInt8), (7 : UInt8), (7 : UInt8), (7 : UInt8), (7 : UInt8), (7 : UInt8), (7 : UInt8), (7 : UInt8), (7 : UInt8), (7 : UInt8), (7 : UInt8), (7 : UInt8), (7 : UInt8), (7 : UInt8), (7 : UInt8), (7 : UInt8), (7 : UInt8), (7 : UInt8), (7 : UInt8), (7 : UInt8), (7 : UInt8), (7 : UInt8), (7 : UInt8), (7 : UInt8), (7 : UInt8), (7 : UInt8), (8 : UInt8), (8 : UInt8), (8 : UInt8), (8 : UInt8), (8 : UInt8), (8 : UInt8), (8 : UInt8), (8 : UInt8), (8 : UInt8), (8 : UInt8), (8 : UInt8), (8 : UInt8), (8 : UInt8), (8 : UInt8), (8 : UInt8), (8 : UInt8), (8 : UInt8), (8 : UInt8), (8 : UInt8), (8 : UInt8), (8 : UInt8), (8 : UInt8), (8 : UInt8), (8 : UInt8), (8 : UInt8), (8 : UInt8), (8 : UInt8), (8 : UInt8), (8 : UInt8), (8 : UInt8), (8 : UInt8), (8 : UInt8), (8 : UInt8), (8 : UInt8), (8 : UInt8), (8 : UInt8), (8 : UInt8), (8 : UInt8), (8 : UInt8), (8 : UInt8), (8 : UInt8), (8 : UInt8), (8 : UInt8), (8 : UInt8), (8 : UInt8), (8 : UInt8), (8 : UInt8), (8 : UInt8), (8 : UInt8), (8 : UInt8), (8 : UInt8), (8 : UInt8), (8 : UInt8), (8 : UInt8), (8 : UInt8), (8 : UInt8), (8 : UInt8), (8 : UInt8), (8 : UInt8), (8 : UInt8), (8 : UInt8), (8 : UInt8), (8 : UInt8), (8 : UInt8), (8 : UInt8), (8 : UInt8), (8 : UInt8), (8 : UInt8), (8 : UInt8), (8 : UInt8), (8 : UInt8), (8 : UInt8), (8 : UInt8), (8 : UInt8), (8 : UInt8), (8 : UInt8), (8 : UInt8), (8 : UInt8), (8 : UInt8), (8 : UInt8), (8 : UInt8), (8 : UInt8), (8 : UInt8), (8 : UInt8), (8 : UInt8), (8 : UInt8), (8 : UInt8), (8 : UInt8), (8 : UInt8), (8 : UInt8), (8 : UInt8), (8 : UInt8), (8 : UInt8), (8 : UInt8), (8 : UInt8), (8 : UInt8), (8 : UInt8), (8 : UInt8), (8 : UInt8), (8 : UInt8), (8 : UInt8), (8 : UInt8), (8 : UInt8), (8 : UInt8), (8 : UInt8), (8 : UInt8), (8 : UInt8), (8 : UInt8), (8 : UInt8), (8 : UInt8), (8 : UInt8), (8 : UInt8), (8 : UInt8), (8 : UInt8), (8 : UInt8), (8 : UInt8), (8 : UInt8), (8 : UInt8), (8 : UInt8), (8 : UInt8), (8 : UInt8), (8 : UInt8), (8 : UInt8), (8 : UInt8), (8 : UInt8), (8 : UInt8), (8 : UInt8), (8 : UInt8)] } } = lenTab := by decide +kernel
theorem tab_get {y : Nat} (h : y < 256) : lenTab.getD y 0 = ((bl2 y : Nat) : Int) := by
 unfold lenTab
 rw [List.getD_eq_getElem?_getD, List.getElem?_map, List.getElem?_range h]
 rfl
theorem bl2_small {y : Nat} (h : y < 256) : bl2 y ≤ 8 := by
 unfold bl2
 split
 ·omega
 ·have := (Nat.log2_lt (k := 8) (by omega)).2 h
  omega
theorem leaf {y : Nat} (h : y < 256) (n : Int) (h0 : 0 ≤ n) (h1 : n ≤ 56) : (0 ≤ IntKind.u8.wrap (y : Int) ∧ IntKind.u8.wrap (y : Int) < (lenTab.length : Int)) ∧
  IntKind.i64.wrap (n + IntKind.i64.wrap (lenTab.getD (IntKind.u8.wrap (y : Int)).toNat 0)) = n + ((bl2 y : Nat) : Int) := by
 have hl : lenTab.length = 256 := by unfold lenTab; rw [List.length_map, List.length_range]
 have hs := bl2_small h
 rw [wN8, Nat.mod_eq_of_lt h, Int.toNat_natCast, tab_get h, hl, wi (n := ((bl2 y : Nat) : Int)) (by omega) (by omega), wi (by omega) (by omega)]
 omega
theorem i64e {a b : Int} (h : a = b) : D.val (Value.int .i64 a) = D.val (Value.int .i64 b) := by rw [h]
set_option maxRecDepth 100000 in
theorem m32 : Meets Try.prog 32 sp32 := by
 refine meets_of_owed (C := c39) ⟨tab_ok, fun f s h => by cases h⟩ (by kernel_rfl) (by kernel_rfl : Try.prog.funcs[32]? = some Try.f32) (by kernel_rfl) (by kernel_rfl) (by kernel_rfl) _ ?_
 rintro _ ⟨x, rfl, hx⟩
 refine ⟨fun _ => rfl, fun _ => none, ?_⟩
 show owed c39 (fun _ => none) Try.f32 [u64n x] (i64n (bl2 x))
 rw [vc32]
 have hx : x < 18446744073709551616 := hx
 have s32 : ∀ y : Nat, ishr .u64 (y : Int) 32 = ((y / 4294967296 : Nat) : Int) := fun y => ishrN .u64 (a := y) (m := 32) (by decide)
 have s16 : ∀ y : Nat, ishr .u64 (y : Int) 16 = ((y / 65536 : Nat) : Int) := fun y => ishrN .u64 (a := y) (m := 16) (by decide)
 have s8 : ∀ y : Nat, ishr .u64 (y : Int) 8 = ((y / 256 : Nat) : Int) := fun y => ishrN .u64 (a := y) (m := 8) (by decide)
 have c1x : IntKind.i64.wrap (32 + 16) = 48 := by decide
 have c2x : IntKind.i64.wrap (48 + 8) = 56 := by decide
 have c3xx : IntKind.i64.wrap (32 + 8) = 40 := by decide
 have c4xx : IntKind.i64.wrap (0 + 16) = 16 := by decide
 have c5xx : IntKind.i64.wrap (16 + 8) = 24 := by decide
 have c6xx : IntKind.i64.wrap (0 + 8) = 8 := by decide
 have d32 : ∀ {y : Nat}, 4294967296 ≤ y → bl2 y = 32 + bl2 (y / 4294967296) := fun {y} h => bl2_div (k := 32) h
 have d16 : ∀ {y : Nat}, 65536 ≤ y → bl2 y = 16 + bl2 (y / 65536) := fun {y} h => bl2_div (k := 16) h
 have d8 : ∀ {y : Nat}, 256 ≤ y → bl2 y = 8 + bl2 (y / 256) := fun {y} h => bl2_div (k := 8) h
 simp (decide := true) only [tab_eq, s32, s16, s8, c1x, c2x, c3xx, c4xx, c5xx, c6xx, eq_self, true_and, and_true, ne_eq, not_false_eq_true]
 split
 ·rename_i h1
  have h1 : 4294967296 ≤ x := by have := of_decide_eq_true h1; omega
  rw [d32 h1]
  split
  ·rename_i h2
   have h2 : 65536 ≤ x / 4294967296 := by have := of_decide_eq_true h2; omega
   rw [d16 h2]
   split
   ·rename_i h3
    have h3 : 256 ≤ x / 4294967296 / 65536 := by have := of_decide_eq_true h3; omega
    rw [d8 h3]
    obtain ⟨l1, l2⟩ := leaf (y := x / 4294967296 / 65536 / 256) (by omega) 56 (by omega) (by omega)
    exact ⟨l1, i64e (by rw [l2]; omega)⟩
   ·rename_i h3
    have h3 := of_decide_eq_false h3
    obtain ⟨l1, l2⟩ := leaf (y := x / 4294967296 / 65536) (by omega) 48 (by omega) (by omega)
    exact ⟨l1, i64e (by rw [l2]; omega)⟩
  ·rename_i h2
   have h2 := of_decide_eq_false h2
   split
   ·rename_i h3
    have h3 : 256 ≤ x / 4294967296 := by have := of_decide_eq_true h3; omega
    rw [d8 h3]
    obtain ⟨l1, l2⟩ := leaf (y := x / 4294967296 / 256) (by omega) 40 (by omega) (by omega)
    exact ⟨l1, i64e (by rw [l2]; omega)⟩
   ·rename_i h3
    have h3 := of_decide_eq_false h3
    obtain ⟨l1, l2⟩ := leaf (y := x / 4294967296) (by omega) 32 (by omega) (by omega)
    exact ⟨l1, i64e (by rw [l2]; omega)⟩
 ·rename_i h1
  have h1 := of_decide_eq_false h1
  split
  ·rename_i h2
   have h2 : 65536 ≤ x := by have := of_decide_eq_true h2; omega
   rw [d16 h2]
   split
   ·rename_i h3
    have h3 : 256 ≤ x / 65536 := by have := of_decide_eq_true h3; omega
    rw [d8 h3]
    obtain ⟨l1, l2⟩ := leaf (y := x / 65536 / 256) (by omega) 24 (by omega) (by omega)
    exact ⟨l1, i64e (by rw [l2]; omega)⟩
   ·rename_i h3
    have h3 := of_decide_eq_false h3
    obtain ⟨l1, l2⟩ := leaf (y := x / 65536) (by omega) 16 (by omega) (by omega)
    exact ⟨l1, i64e (by rw [l2]; omega)⟩
  ·rename_i h2
   have h2 := of_decide_eq_false h2
   split
   ·rename_i h3
    have h3 : 256 ≤ x := by have := of_decide_eq_true h3; omega
    rw [d8 h3]
    obtain ⟨l1, l2⟩ := leaf (y := x / 256) (by omega) 8 (by omega) (by omega)
    exact ⟨l1, i64e (by rw [l2]; omega)⟩
   ·rename_i h3
    have h3 := of_decide_eq_false h3
    obtain ⟨l1, l2⟩ := leaf (y := x) (by omega) 0 (by omega) (by omega)
    exact ⟨l1, i64e (by rw [l2]; omega)⟩
set_option maxRecDepth 100000 in
theorem m15 : Meets Try.prog 15 sp15 := by
 refine meets_of_owed (C := c39) ⟨tab_ok, fun f s h => by cases h⟩ (by kernel_rfl) (by kernel_rfl : Try.prog.funcs[15]? = some Try.f15) (by kernel_rfl) (by kernel_rfl) (by kernel_rfl) _ ?_
 rintro _ ⟨l, i, rfl, hl, hi1, hi2⟩
 refine ⟨fun _ => rfl, fun _ => none, ?_⟩
 show owed c39 (fun _ => none) Try.f15 [num4 l, i64 i] (u64n (bitN (wv l) i))
 rw [vc15]
 simp (decide := true) only [eq_self, true_and, and_true, ne_eq, not_false_eq_true]
 split
 ·rename_i h
  have h := of_decide_eq_true h
  rw [show bitN (wv l) i = 0 from if_neg (by omega)]
  rfl
 ·rename_i h
  have h := of_decide_eq_false h
  split
  ·rename_i h2
   have h2 := of_decide_eq_true h2
   rw [show bitN (wv l) i = 0 from if_neg (by omega)]
   rfl
  ·rename_i h2
   have h2 := of_decide_eq_false h2
   obtain ⟨n, rfl⟩ := Int.eq_ofNat_of_zero_le (a := i) (by omega)
   have e : bitN (wv l) (n : Int) = wv l / 2 ^ n % 2 := by
    unfold bitN
    rw [if_pos ⟨by omega, by omega⟩, Int.toNat_natCast]
   have d1 : ((n : Nat) : Int).tdiv 64 = ((n / 64 : Nat) : Int) := tdivN _ 64
   have d2 : ((n : Nat) : Int).tmod 64 = ((n % 64 : Nat) : Int) := tmodN _ 64
   rw [e, d1, d2, wi (n := ((n / 64 : Nat) : Int)) (by omega) (by omega), wB (n := n % 64) (by omega), Int.toNat_natCast]
   have hg := vB_get (b := 18446744073709551616) hl.1 (i := n / 64) (by rw [hl.2]; omega)
   rw [hg, ishrN .u64 (m := n % 64) (show n % 64 ≤ 64 by omega)]
   have hs := sub_at 2 64 (wv l) n (by decide)
   have hB : (2 : Nat) ^ 64 = 18446744073709551616 := rfl
   rw [hB] at hs
   have hw : wv l / 18446744073709551616 ^ (n / 64) % 18446744073709551616 / 2 ^ (n % 64) < 18446744073709551616 := Nat.lt_of_le_of_lt (Nat.div_le_self _ _) (Nat.mod_lt _ (by decide))
   have ha : iand .u64 ((wv l / 18446744073709551616 ^ (n / 64) % 18446744073709551616 / 2 ^ (n % 64) : Nat) : Int) 1 = ((wv l / 18446744073709551616 ^ (n / 64) % 18446744073709551616 / 2 ^ (n % 64) % 2 : Nat) : Int) := by
    rw [show (1 : Int) = ((1 : Nat) : Int) from rfl, iandN .u64 (show _ < 18446744073709551616 from hw) (show 1 < 18446744073709551616 by decide), Nat.and_one_is_mod]
   rw [ha, hs]
   and_intros <;> first | rfl | omega
set_option maxRecDepth 100000 in
theorem m13 : Meets Try.prog 13 sp13 := by
 refine meets_of_owed (C := c13) ⟨tab_ok, lkS_ok ⟨m32, trivial⟩⟩ (by kernel_rfl) (by kernel_rfl : Try.prog.funcs[13]? = some Try.f13) (by kernel_rfl) (by kernel_rfl) (by kernel_rfl) _ ?_
 rintro _ ⟨l, rfl, hl⟩
 refine ⟨fun _ => rfl, inv13 l, ?_⟩
 show owed c13 (inv13 l) Try.f13 [num4 l] (i64n (bl2 (wv l)))
 rw [vc13]
 have hl4 := hl.2
 have h4 : List.drop (Int.toNat (3 + 1)) l = [] := List.drop_of_length_le (by rw [hl4]; decide)
 rw [h4]
 simp (decide := true) only [eq_self, true_and, and_true, ne_eq, not_false_eq_true]
 rintro i ⟨⟨hi1, hi2⟩, hz⟩
 split
 ·rename_i h
  have h := of_decide_eq_true h
  obtain ⟨n, rfl⟩ := Int.eq_ofNat_of_zero_le (a := i) (by omega)
  have e1 : (((n : Nat) : Int) + 1).toNat = n + 1 := by omega
  rw [e1] at hz
  obtain ⟨x, ex, hx⟩ := okw_get hl.1 (i := n) (by omega)
  obtain ⟨A, hA, hV⟩ := vB_cut hl.1 (i := n) (by omega) ex
  rw [hz, Nat.mul_zero, Nat.add_zero] at hV
  rw [Int.toNat_natCast, ex]
  split
  ·rename_i h2
   have h2 : x ≠ 0 := by
    rintro rfl
    cases h2
   have hb := bl2_up (lo := A) (y := x) (k := 64 * n) (by rw [← B_pow]; exact hA) h2
   rw [← B_pow, ← hV] at hb
   have hx2 : bl2 x ≤ 64 := by
    have := (Nat.log2_lt (n := x) (k := 64) h2).2 hx
    unfold bl2
    rw [if_neg h2]
    omega
   rw [Int.toNat_natCast, hb, wi (n := 64 * ((n : Nat) : Int)) (by omega) (by omega), wi (by omega) (by omega)]
   refine ⟨by omega, by omega, ⟨x, rfl, hx⟩, i64e (by omega)⟩
  ·rename_i h2
   have h2 : x = 0 := by
    have := bne_eq_false_iff_eq.1 h2
    omega
   subst h2
   have e2 : IntKind.i64.wrap (((n : Nat) : Int) - 1) = ((n : Nat) : Int) - 1 := wi (by omega) (by omega)
   have e3 : (((n : Nat) : Int) - 1 + 1).toNat = n := by omega
   rw [e2, e3, e1]
   have hz2 : vB 18446744073709551616 (l.drop n) = 0 := by
    rw [vB_dropS 18446744073709551616 n (by omega), hz, ex]
    rfl
   refine ⟨by omega, ⟨⟨by omega, by omega⟩, hz2⟩, by omega⟩
 ·rename_i h
  have h := of_decide_eq_false h
  obtain rfl : i = -1 := by omega
  have hz : wv l = 0 := hz
  rw [hz]
  rfl
end Go.Proofs.Ytpkcmjfmoemekaa
namespace Go.Proofs.Ytpkcmjfmoemekaa
open Go Go.Vg
def FP : Nat := 57896044618658097711785492504343953926634992332820282019728792003956564819949
abbrev n4 (v : Nat) : D := num4 (nB 18446744073709551616 4 v)
def fsb (a b : Nat) : Nat := (a % FP + FP - b % FP) % FP
noncomputable def fpw (a n : Nat) : Nat := opq (a ^ n % FP)
def dNum : List Int := [8496970652267935907, 31536524315187371, 10144147576115030168, 5909686906226998899]
abbrev wA (ds : List D) : Nat := wv (arrOf (ds.headD default))
abbrev wB2 (ds : List D) : Nat := wv (arrOf (ds.getD 1 default))
def lowI (v : Nat) : Nat → Nat
 | 0 => v
 | i + 1 => if lowI v i < FP then lowI v i else lowI v i - FP
def mlS (W i : Nat) : Nat := W % 18446744073709551616 ^ i + 38 * (W / 18446744073709551616 ^ 4 % 18446744073709551616 ^ i)
def mlI (W i : Nat) : List Int := nB 18446744073709551616 i (mlS W i) ++ List.replicate (4 - i) 0
def sp45 : Go.Vg.Spec := ⟨fun ds => ds.length = 0, fun _ => n4 FP, true, []⟩
def sp31 : Go.Vg.Spec := ⟨fun ds => ds.length = 0, fun _ => num4 dNum, true, []⟩
def sp27 : Go.Vg.Spec := ⟨fun ds => ∃ l, ds = [num4 l] ∧ isN l, fun ds => n4 (wA ds % FP), true, [24]⟩
def sp30 : Go.Vg.Spec := ⟨fun ds => ∃ l m, ds = [num4 l, num4 m] ∧ isN l ∧ isN m, fun ds => n4 ((wA ds + wB2 ds) % FP), true, [24, 24]⟩
def sp29 : Go.Vg.Spec := ⟨fun ds => ∃ l m, ds = [num4 l, num4 m] ∧ isN l ∧ isN m, fun ds => n4 (fsb (wA ds) (wB2 ds)), true, [24, 24]⟩
def sp28 : Go.Vg.Spec := ⟨fun ds => ∃ l m, ds = [num4 l, num4 m] ∧ isN l ∧ isN m, fun ds => n4 (wA ds * wB2 ds % FP), true, [24, 24]⟩
noncomputable def sp50 : Go.Vg.Spec := ⟨fun ds => ∃ l m, ds = [num4 l, num4 m] ∧ isN l ∧ isN m, fun ds => n4 (fpw (wA ds) (wB2 ds)), true, [24, 24]⟩
noncomputable def sp33 : Go.Vg.Spec := ⟨fun ds => ∃ l, ds = [num4 l] ∧ isN l, fun ds => n4 (fpw (wA ds) (FP - 2)), true, [24]⟩
def c27 : Ctx := ⟨tab, lkS [(44, sp44), (45, sp45)], [], []⟩
def c30 : Ctx := ⟨tab, lkS [(27, sp27), (49, sp49)], [], []⟩
def c29 : Ctx := ⟨tab, lkS [(27, sp27), (44, sp44), (49, sp49), (45, sp45)], [], []⟩
def c28 : Ctx := ⟨tab, lkS [(46, sp46), (47, sp47), (48, sp48), (49, sp49), (27, sp27)], [], []⟩
def c50 : Ctx := ⟨tab, lkS [(13, sp13), (28, sp28), (15, sp15)], [], []⟩
noncomputable def c33 : Ctx := ⟨tab, lkS [(45, sp45), (44, sp44), (50, sp50)], [], []⟩
def inv27 (l : List Int) : Nat → Option Inv
 | 2 => some ⟨Nat, fun i => [(5, .d (i64n i))], fun i => [(1, .fix (n4 (lowI (wv l) i)))], fun s => (slotN s 5).toNat, fun _ i => i ≤ 2, fun i => 2 - i⟩
 | _ => none
def inv28 (l m : List Int) : Nat → Option Inv
 | 5 => some ⟨Nat, fun i => [(16, .d (i64n i)), (7, .d (u64n (mlS (wv l * wv m) i / 18446744073709551616 ^ i)))], fun i => [(6, .fix (num4 (mlI (wv l * wv m) i)))], fun s => (slotN s 16).toNat, fun _ i => i ≤ 4, fun i => 4 - i⟩
 | _ => none
noncomputable def inv50 (l m : List Int) : Nat → Option Inv
 | 3 => some ⟨Nat, fun z => [(6, .d (i64 ((z : Int) - 1)))], fun z => [(5, .fix (n4 (fpw (wv l) (wv m / 2 ^ z))))], fun s => (slotN s 6 + 1).toNat, fun _ z => z ≤ 256, fun z => z⟩
 | _ => none
set_option maxRecDepth 100000 in
theorem vc45  (F : D)  :
    (owed c39 (fun _ => none) Try.f45 [] F) = (
 (True ∧ 4 ≠ 0) ∧ (1 = 1 ∧ false = false ∧ (0 < 4 ∧ ([] : List Nat) = [] ∧ true = true) ∧ false = false ∧ (1 < 4 ∧ ([] : List Nat) = [] ∧ true = true) ∧ false = false ∧ (2 < 4 ∧ ([] : List Nat) = [] ∧ true = true) ∧ false = false ∧ (3 < 4 ∧ ([] : List Nat) = [] ∧ true = true) ∧ True) ∧ (Sk.arr 4 = Sk.arr 4 ∧ 4 ≠ 0 ∧ 4 = 4 ∧ false = false) ∧ ((4 ≠ 0 ∧ 4 = 4 ∧ true = true) ∧ True) ∧ D.arr .u64 4 [(18446744073709551597 : Int), (18446744073709551615 : Int), (18446744073709551615 : Int), (9223372036854775807 : Int)] = F) := by kernel_rfl
set_option maxRecDepth 100000 in
theorem vc31  (F : D)  :
    (owed c39 (fun _ => none) Try.f31 [] F) = (
 (True ∧ 4 ≠ 0) ∧ (1 = 1 ∧ false = false ∧ (0 < 4 ∧ ([] : List Nat) = [] ∧ true = true) ∧ false = false ∧ (1 < 4 ∧ ([] : List Nat) = [] ∧ true = true) ∧ false = false ∧ (2 < 4 ∧ ([] : List Nat) = [] ∧ true = true) ∧ false = false ∧ (3 < 4 ∧ ([] : List Nat) = [] ∧ true = true) ∧ True) ∧ (Sk.arr 4 = Sk.arr 4 ∧ 4 ≠ 0 ∧ 4 = 4 ∧ false = false) ∧ ((4 ≠ 0 ∧ 4 = 4 ∧ true = true) ∧ True) ∧ D.arr .u64 4 [(8496970652267935907 : Int), (31536524315187371 : Int), (10144147576115030168 : Int), (5909686906226998899 : Int)] = F) := by kernel_rfl
set_option maxRecDepth 100000 in
theorem vc27  (l : List Int) (F : D)  :
    (owed c27 (inv27 l) Try.f27 [num4 l] F) = (
 (True ∧ false = false) ∧ (True ∧ 4 ≠ 0) ∧ True ∧ (((AV.d (D.val (.int .i64 0)) = AV.d (D.val (.int .i64 (↑(Int.toNat (0 : Int)) : Int))) ∧ True) ∧ (some (Blk.fix (D.arr .u64 4 l)) = some (Blk.fix (D.arr .u64 4 (nB 18446744073709551616 4 (lowI (vB 18446744073709551616 l) (Int.toNat (0 : Int)))))) ∧ sm (some (Blk.fix (D.arr .u64 4 [(0 : Int), (0 : Int), (0 : Int), (0 : Int)]))) ∧ True) ∧ true = true) ∧ Int.toNat (0 : Int) ≤ 2) ∧ ∀ (x : Nat), x ≤ 2 → true = true ∧ True ∧ match decide ((↑x : Int) < (2 : Int)) with
 | true => (4 ≠ 0 ∧ 4 = 4 ∧ true = true) ∧ 0 = 0 ∧ (∃ (l_1 : List Int), ∃ (m : List Int), [D.arr .u64 4 (nB 18446744073709551616 4 (lowI (vB 18446744073709551616 l) x)), D.arr .u64 4 (nB 18446744073709551616 4 FP)] = [D.arr .u64 4 l_1, D.arr .u64 4 m] ∧ (okw l_1 ∧ l_1.length = 4) ∧ okw m ∧ m.length = 4) ∧ True ∧ (0 < 2 ∧ false = false) ∧ (1 < 2 ∧ false = false) ∧ (True ∧ 4 ≠ 0) ∧ (Sk.arr 4 = Sk.arr 4 ∧ 4 ≠ 0 ∧ 4 = 4 ∧ false = false) ∧ True ∧ True ∧ True ∧ match (↑(bor (vB 18446744073709551616 (nB 18446744073709551616 4 (lowI (vB 18446744073709551616 l) x))) (vB 18446744073709551616 (nB 18446744073709551616 4 FP))) : Int) == (0 : Int) with
  | true => (4 ≠ 0 ∧ 4 = 4 ∧ true = true) ∧ (Sk.arr 4 = Sk.arr 4 ∧ 4 ≠ 0 ∧ 4 = 4 ∧ false = false) ∧ True ∧ True ∧ ((AV.d (D.val (.int .i64 (IntKind.i64.wrap ((↑x : Int) + (1 : Int))))) = AV.d (D.val (.int .i64 (↑(IntKind.i64.wrap ((↑x : Int) + (1 : Int))).toNat : Int))) ∧ True) ∧ (some (Blk.fix (D.arr .u64 4 (nB 18446744073709551616 4 (dif (vB 18446744073709551616 (nB 18446744073709551616 4 (lowI (vB 18446744073709551616 l) x))) (vB 18446744073709551616 (nB 18446744073709551616 4 FP)))))) = some (Blk.fix (D.arr .u64 4 (nB 18446744073709551616 4 (lowI (vB 18446744073709551616 l) (IntKind.i64.wrap ((↑x : Int) + (1 : Int))).toNat)))) ∧ sm (some (Blk.fix (D.arr .u64 4 [(0 : Int), (0 : Int), (0 : Int), (0 : Int)]))) ∧ True) ∧ true = true) ∧ (IntKind.i64.wrap ((↑x : Int) + (1 : Int))).toNat ≤ 2 ∧ 2 - (IntKind.i64.wrap ((↑x : Int) + (1 : Int))).toNat < 2 - x
  | false => True ∧ True ∧ ((AV.d (D.val (.int .i64 (IntKind.i64.wrap ((↑x : Int) + (1 : Int))))) = AV.d (D.val (.int .i64 (↑(IntKind.i64.wrap ((↑x : Int) + (1 : Int))).toNat : Int))) ∧ True) ∧ (some (Blk.fix (D.arr .u64 4 (nB 18446744073709551616 4 (lowI (vB 18446744073709551616 l) x)))) = some (Blk.fix (D.arr .u64 4 (nB 18446744073709551616 4 (lowI (vB 18446744073709551616 l) (IntKind.i64.wrap ((↑x : Int) + (1 : Int))).toNat)))) ∧ sm (some (Blk.fix (D.arr .u64 4 [(0 : Int), (0 : Int), (0 : Int), (0 : Int)]))) ∧ True) ∧ true = true) ∧ (IntKind.i64.wrap ((↑x : Int) + (1 : Int))).toNat ≤ 2 ∧ 2 - (IntKind.i64.wrap ((↑x : Int) + (1 : Int))).toNat < 2 - x
 | false => (4 ≠ 0 ∧ 4 = 4 ∧ true = true) ∧ (Sk.arr 4 = Sk.arr 4 ∧ 4 ≠ 0 ∧ 4 = 4 ∧ false = false) ∧ ((4 ≠ 0 ∧ 4 = 4 ∧ true = true) ∧ True) ∧ D.arr .u64 4 (nB 18446744073709551616 4 (lowI (vB 18446744073709551616 l) x)) = F) := by kernel_rfl
set_option maxRecDepth 100000 in
theorem vc30  (l m : List Int) (F : D)  :
    (owed c30 (fun _ => none) Try.f30 [num4 l, num4 m] F) = (
 (True ∧ false = false) ∧ (True ∧ false = false) ∧ (True ∧ 4 ≠ 0) ∧ (4 ≠ 0 ∧ 4 = 4 ∧ true = true) ∧ (∃ (l_1 : List Int), [D.arr .u64 4 l] = [D.arr .u64 4 l_1] ∧ isN l_1) ∧ (4 ≠ 0 ∧ 4 = 4 ∧ true = true) ∧ (∃ (l : List Int), [D.arr .u64 4 m] = [D.arr .u64 4 l] ∧ isN l) ∧ (∃ (l_1 : List Int), ∃ (m_1 : List Int), [D.arr .u64 4 (nB 18446744073709551616 4 (vB 18446744073709551616 l % FP)), D.arr .u64 4 (nB 18446744073709551616 4 (vB 18446744073709551616 m % FP))] = [D.arr .u64 4 l_1, D.arr .u64 4 m_1] ∧ isN l_1 ∧ isN m_1) ∧ True ∧ (0 < 2 ∧ false = false) ∧ (1 < 2 ∧ false = false) ∧ (True ∧ 4 ≠ 0) ∧ (Sk.arr 4 = Sk.arr 4 ∧ 4 ≠ 0 ∧ 4 = 4 ∧ false = false) ∧ True ∧ (4 ≠ 0 ∧ 4 = 4 ∧ true = true) ∧ (∃ (l_1 : List Int), [D.arr .u64 4 (nB 18446744073709551616 4 (smN (vB 18446744073709551616 (nB 18446744073709551616 4 (vB 18446744073709551616 l % FP))) (vB 18446744073709551616 (nB 18446744073709551616 4 (vB 18446744073709551616 m % FP)))))] = [D.arr .u64 4 l_1] ∧ isN l_1) ∧ (Sk.arr 4 = Sk.arr 4 ∧ 4 ≠ 0 ∧ 4 = 4 ∧ false = false) ∧ ((4 ≠ 0 ∧ 4 = 4 ∧ true = true) ∧ True) ∧ D.arr .u64 4 (nB 18446744073709551616 4 (vB 18446744073709551616 (nB 18446744073709551616 4 (smN (vB 18446744073709551616 (nB 18446744073709551616 4 (vB 18446744073709551616 l % FP))) (vB 18446744073709551616 (nB 18446744073709551616 4 (vB 18446744073709551616 m % FP))))) % FP)) = F) := by kernel_rfl
set_option maxRecDepth 100000 in
theorem vc29  (l m : List Int) (F : D)  :
    (owed c29 (fun _ => none) Try.f29 [num4 l, num4 m] F) = (
 (True ∧ false = false) ∧ (True ∧ false = false) ∧ (True ∧ 4 ≠ 0) ∧ (4 ≠ 0 ∧ 4 = 4 ∧ true = true) ∧ (∃ (l_1 : List Int), [D.arr .u64 4 l] = [D.arr .u64 4 l_1] ∧ isN l_1) ∧ (4 ≠ 0 ∧ 4 = 4 ∧ true = true) ∧ (∃ (l : List Int), [D.arr .u64 4 m] = [D.arr .u64 4 l] ∧ isN l) ∧ (∃ (l_1 : List Int), ∃ (m_1 : List Int), [D.arr .u64 4 (nB 18446744073709551616 4 (vB 18446744073709551616 l % FP)), D.arr .u64 4 (nB 18446744073709551616 4 (vB 18446744073709551616 m % FP))] = [D.arr .u64 4 l_1, D.arr .u64 4 m_1] ∧ (okw l_1 ∧ l_1.length = 4) ∧ okw m_1 ∧ m_1.length = 4) ∧ True ∧ (0 < 2 ∧ false = false) ∧ (1 < 2 ∧ false = false) ∧ (True ∧ 4 ≠ 0) ∧ (Sk.arr 4 = Sk.arr 4 ∧ 4 ≠ 0 ∧ 4 = 4 ∧ false = false) ∧ True ∧ True ∧ True ∧ match (↑(bor (vB 18446744073709551616 (nB 18446744073709551616 4 (vB 18446744073709551616 l % FP))) (vB 18446744073709551616 (nB 18446744073709551616 4 (vB 18446744073709551616 m % FP)))) : Int) == (1 : Int) with
 | true => (4 ≠ 0 ∧ 4 = 4 ∧ true = true) ∧ 0 = 0 ∧ (∃ (l_1 : List Int), ∃ (m_1 : List Int), [D.arr .u64 4 (nB 18446744073709551616 4 (dif (vB 18446744073709551616 (nB 18446744073709551616 4 (vB 18446744073709551616 l % FP))) (vB 18446744073709551616 (nB 18446744073709551616 4 (vB 18446744073709551616 m % FP))))), D.arr .u64 4 (nB 18446744073709551616 4 FP)] = [D.arr .u64 4 l_1, D.arr .u64 4 m_1] ∧ isN l_1 ∧ isN m_1) ∧ True ∧ (0 < 2 ∧ false = false) ∧ (1 < 2 ∧ false = false) ∧ (Sk.arr 4 = Sk.arr 4 ∧ 4 ≠ 0 ∧ 4 = 4 ∧ false = false) ∧ (4 ≠ 0 ∧ 4 = 4 ∧ true = true) ∧ (Sk.arr 4 = Sk.arr 4 ∧ 4 ≠ 0 ∧ 4 = 4 ∧ false = false) ∧ ((4 ≠ 0 ∧ 4 = 4 ∧ true = true) ∧ True) ∧ D.arr .u64 4 (nB 18446744073709551616 4 (smN (vB 18446744073709551616 (nB 18446744073709551616 4 (dif (vB 18446744073709551616 (nB 18446744073709551616 4 (vB 18446744073709551616 l % FP))) (vB 18446744073709551616 (nB 18446744073709551616 4 (vB 18446744073709551616 m % FP)))))) (vB 18446744073709551616 (nB 18446744073709551616 4 FP)))) = F
 | false => (4 ≠ 0 ∧ 4 = 4 ∧ true = true) ∧ (Sk.arr 4 = Sk.arr 4 ∧ 4 ≠ 0 ∧ 4 = 4 ∧ false = false) ∧ ((4 ≠ 0 ∧ 4 = 4 ∧ true = true) ∧ True) ∧ D.arr .u64 4 (nB 18446744073709551616 4 (dif (vB 18446744073709551616 (nB 18446744073709551616 4 (vB 18446744073709551616 l % FP))) (vB 18446744073709551616 (nB 18446744073709551616 4 (vB 18446744073709551616 m % FP))))) = F) := by kernel_rfl
set_option maxRecDepth 100000 in
theorem vc28  (l m : List Int) (F : D)  :
    (owed c28 (inv28 l m) Try.f28 [num4 l, num4 m] F) = (
 (True ∧ false = false) ∧ (True ∧ false = false) ∧ (True ∧ 4 ≠ 0) ∧ (4 ≠ 0 ∧ 4 = 4 ∧ true = true) ∧ (4 ≠ 0 ∧ 4 = 4 ∧ true = true) ∧ (∃ (l_1 : List Int), ∃ (m_1 : List Int), [D.arr .u64 4 l, D.arr .u64 4 m] = [D.arr .u64 4 l_1, D.arr .u64 4 m_1] ∧ isN l_1 ∧ isN m_1) ∧ (True ∧ 8 ≠ 0) ∧ (Sk.arr 8 = Sk.arr 8 ∧ 8 ≠ 0 ∧ 8 = 8 ∧ false = false) ∧ (True ∧ 4 ≠ 0) ∧ True ∧ True ∧ (((AV.d (D.val (.int .i64 0)) = AV.d (D.val (.int .i64 (↑(Int.toNat (0 : Int)) : Int))) ∧ AV.d (D.val (.int .u64 0)) = AV.d (D.val (.int .u64 (↑(mlS (vB 18446744073709551616 l * vB 18446744073709551616 m) (Int.toNat (0 : Int)) / 1) : Int))) ∧ True) ∧ (sm (some (Blk.fix (D.arr .u64 4 l))) ∧ sm (some (Blk.fix (D.arr .u64 4 m))) ∧ sm (some (Blk.fix (D.arr .u64 4 [(0 : Int), (0 : Int), (0 : Int), (0 : Int)]))) ∧ sm (some (Blk.fix (D.arr .u64 8 (nB 18446744073709551616 8 (vB 18446744073709551616 l * vB 18446744073709551616 m))))) ∧ some (Blk.fix (D.arr .u64 4 [(0 : Int), (0 : Int), (0 : Int), (0 : Int)])) = some (Blk.fix (D.arr .u64 4 (mlI (vB 18446744073709551616 l * vB 18446744073709551616 m) (Int.toNat (0 : Int))))) ∧ True) ∧ true = true) ∧ Int.toNat (0 : Int) ≤ 4) ∧ ∀ (x : Nat), x ≤ 4 → true = true ∧ True ∧ match decide ((↑x : Int) < (4 : Int)) with
 | true => True ∧ True ∧ True ∧ True ∧ ((0 : Int) ≤ IntKind.i64.wrap ((↑x : Int) + (4 : Int)) ∧ IntKind.i64.wrap ((↑x : Int) + (4 : Int)) < (↑(8 : Nat) : Int) ∧ 8 = 8 ∧ 1 = 1) ∧ (1 ≠ 0 ∧ 1 = 1 ∧ false = false) ∧ (∃ (x_1 : Nat), ∃ (y : Nat), [D.val (.int .u64 ((nB 18446744073709551616 8 (vB 18446744073709551616 l * vB 18446744073709551616 m)).getD (IntKind.i64.wrap ((↑x : Int) + (4 : Int))).toNat (0 : Int))), D.val (.int .u64 38)] = [D.val (.int .u64 (↑x_1 : Int)), D.val (.int .u64 (↑y : Int))] ∧ x_1 < 18446744073709551616 ∧ y < 18446744073709551616) ∧ True ∧ (0 < 2 ∧ false = false) ∧ (1 < 2 ∧ false = false) ∧ True ∧ True ∧ True ∧ True ∧ ((0 : Int) ≤ (↑x : Int) ∧ (↑x : Int) < (↑(8 : Nat) : Int) ∧ 8 = 8 ∧ 1 = 1) ∧ (1 ≠ 0 ∧ 1 = 1 ∧ false = false) ∧ (∃ (x_1 : Nat), ∃ (y : Nat), ∃ (b : Nat), [D.val (.int .u64 (↑(mulL ((nB 18446744073709551616 8 (vB 18446744073709551616 l * vB 18446744073709551616 m)).getD (IntKind.i64.wrap ((↑x : Int) + (4 : Int))).toNat (0 : Int)).toNat 38) : Int)), D.val (.int .u64 ((nB 18446744073709551616 8 (vB 18446744073709551616 l * vB 18446744073709551616 m)).getD (↑x : Int).toNat (0 : Int))), D.val (.int .u64 0)] = [D.val (.int .u64 (↑x_1 : Int)), D.val (.int .u64 (↑y : Int)), D.val (.int .u64 (↑b : Int))] ∧ x_1 < 18446744073709551616 ∧ y < 18446744073709551616 ∧ b ≤ 1) ∧ True ∧ (0 < 2 ∧ false = false) ∧ (1 < 2 ∧ false = false) ∧ True ∧ True ∧ True ∧ True ∧ True ∧ True ∧ True ∧ True ∧ (∃ (x_1 : Nat), ∃ (y : Nat), ∃ (b : Nat), [D.val (Value.int IntKind.u64 (↑(adl (↑(mulL ((nB 18446744073709551616 8 (vB 18446744073709551616 l * vB 18446744073709551616 m)).getD (IntKind.i64.wrap ((↑x : Int) + (4 : Int))).toNat (0 : Int)).toNat 38) : Int).toNat ((nB 18446744073709551616 8 (vB 18446744073709551616 l * vB 18446744073709551616 m)).getD (↑x : Int).toNat (0 : Int)).toNat 0) : Int)), D.val (.int .u64 (↑(mlS (vB 18446744073709551616 l * vB 18446744073709551616 m) x / 18446744073709551616 ^ x) : Int)), D.val (.int .u64 0)] = [D.val (.int .u64 (↑x_1 : Int)), D.val (.int .u64 (↑y : Int)), D.val (.int .u64 (↑b : Int))] ∧ x_1 < 18446744073709551616 ∧ y < 18446744073709551616 ∧ b ≤ 1) ∧ True ∧ (0 < 2 ∧ false = false) ∧ (1 < 2 ∧ false = false) ∧ True ∧ True ∧ True ∧ True ∧ True ∧ True ∧ True ∧ ((0 : Int) ≤ (↑x : Int) ∧ (↑x : Int) < (↑(4 : Nat) : Int) ∧ 4 = 4 ∧ 1 = 1) ∧ (((↑x : Int).toNat < 4 ∧ ([] : List Nat) = [] ∧ true = true) ∧ 1 ≠ 0 ∧ 1 = 1 ∧ false = false) ∧ True ∧ True ∧ True ∧ ((AV.d (D.val (.int .i64 (IntKind.i64.wrap ((↑x : Int) + (1 : Int))))) = AV.d (D.val (.int .i64 (↑(IntKind.i64.wrap ((↑x : Int) + (1 : Int))).toNat : Int))) ∧ AV.d (D.val (Value.int IntKind.u64 (IntKind.u64.wrap (IntKind.u64.wrap ((↑(mulH ((nB 18446744073709551616 8 (vB 18446744073709551616 l * vB 18446744073709551616 m)).getD (IntKind.i64.wrap ((↑x : Int) + (4 : Int))).toNat (0 : Int)).toNat 38) : Int) + (↑(adc (↑(mulL ((nB 18446744073709551616 8 (vB 18446744073709551616 l * vB 18446744073709551616 m)).getD (IntKind.i64.wrap ((↑x : Int) + (4 : Int))).toNat (0 : Int)).toNat 38) : Int).toNat
  ((nB 18446744073709551616 8 (vB 18446744073709551616 l * vB 18446744073709551616 m)).getD (↑x : Int).toNat (0 : Int)).toNat 0) : Int)) + (↑(adc (↑(adl (↑(mulL ((nB 18446744073709551616 8 (vB 18446744073709551616 l * vB 18446744073709551616 m)).getD (IntKind.i64.wrap ((↑x : Int) + (4 : Int))).toNat (0 : Int)).toNat 38) : Int).toNat ((nB 18446744073709551616 8 (vB 18446744073709551616 l * vB 18446744073709551616 m)).getD (↑x : Int).toNat (0 : Int)).toNat 0) : Int).toNat (↑(mlS (vB 18446744073709551616 l * vB 18446744073709551616 m) x / 18446744073709551616 ^ x) : Int).toNat 0) : Int))))) = AV.d (D.val (.int .u64 (↑(mlS (vB 18446744073709551616 l * vB 18446744073709551616 m) (IntKind.i64.wrap ((↑x : Int) + (1 : Int))).toNat / 18446744073709551616 ^ (IntKind.i64.wrap ((↑x : Int) + (1 : Int))).toNat) : Int))) ∧ True) ∧ (sm (some (Blk.fix (D.arr .u64 4 l))) ∧ sm (some (Blk.fix (D.arr .u64 4 m))) ∧ sm (some (Blk.fix (D.arr .u64 4 [(0 : Int), (0 : Int), (0 : Int), (0 : Int)]))) ∧ sm (some (Blk.fix (D.arr .u64 8 (nB 18446744073709551616 8 (vB 18446744073709551616 l * vB 18446744073709551616 m))))) ∧ some (Blk.fix (D.arr .u64 4 ((mlI (vB 18446744073709551616 l * vB 18446744073709551616 m) x).set (↑x : Int).toNat (↑(adl (↑(adl (↑(mulL ((nB 18446744073709551616 8 (vB 18446744073709551616 l * vB 18446744073709551616 m)).getD (IntKind.i64.wrap ((↑x : Int) + (4 : Int))).toNat (0 : Int)).toNat 38) : Int).toNat ((nB 18446744073709551616 8 (vB 18446744073709551616 l * vB 18446744073709551616 m)).getD (↑x : Int).toNat (0 : Int)).toNat 0) : Int).toNat (↑(mlS (vB 18446744073709551616 l * vB 18446744073709551616 m) x / 18446744073709551616 ^ x) : Int).toNat 0) : Int)))) = some (Blk.fix (D.arr .u64 4 (mlI (vB 18446744073709551616 l * vB 18446744073709551616 m) (IntKind.i64.wrap ((↑x : Int) + (1 : Int))).toNat))) ∧ True) ∧ true = true) ∧ (IntKind.i64.wrap ((↑x : Int) + (1 : Int))).toNat ≤ 4 ∧ 4 - (IntKind.i64.wrap ((↑x : Int) + (1 : Int))).toNat < 4 - x
 | false => (4 ≠ 0 ∧ 4 = 4 ∧ true = true) ∧ True ∧ True ∧ (1 = 1 ∧ false = false ∧ (0 < 4 ∧ ([] : List Nat) = [] ∧ true = true) ∧ True) ∧ (∃ (l_1 : List Int), ∃ (m_1 : List Int), [D.arr .u64 4 (mlI (vB 18446744073709551616 l * vB 18446744073709551616 m) x), D.arr .u64 4 [IntKind.u64.wrap ((↑(mlS (vB 18446744073709551616 l * vB 18446744073709551616 m) x / 18446744073709551616 ^ x) : Int) * (38 : Int)), (0 : Int), (0 : Int), (0 : Int)]] = [D.arr .u64 4 l_1, D.arr .u64 4 m_1] ∧ isN l_1 ∧ isN m_1) ∧ True ∧ (0 < 2 ∧ false = false) ∧ (1 < 2 ∧ false = false) ∧ (Sk.arr 4 = Sk.arr 4 ∧ 4 ≠ 0 ∧ 4 = 4 ∧ false = false) ∧ True ∧ True ∧ True ∧ match (↑(smC (vB 18446744073709551616 (mlI (vB 18446744073709551616 l * vB 18446744073709551616 m) x)) (vB 18446744073709551616 [IntKind.u64.wrap ((↑(mlS (vB 18446744073709551616 l * vB 18446744073709551616 m) x / 18446744073709551616 ^ x) : Int) * (38 : Int)), (0 : Int), (0 : Int), (0 : Int)])) : Int) == (1 : Int) with
  | true => (4 ≠ 0 ∧ 4 = 4 ∧ true = true) ∧ (1 = 1 ∧ false = false ∧ (0 < 4 ∧ ([] : List Nat) = [] ∧ true = true) ∧ True) ∧ (∃ (l_1 : List Int), ∃ (m_1 : List Int), [D.arr .u64 4 (nB 18446744073709551616 4 (smN (vB 18446744073709551616 (mlI (vB 18446744073709551616 l * vB 18446744073709551616 m) x)) (vB 18446744073709551616 [IntKind.u64.wrap ((↑(mlS (vB 18446744073709551616 l * vB 18446744073709551616 m) x / 18446744073709551616 ^ x) : Int) * (38 : Int)), (0 : Int), (0 : Int), (0 : Int)]))), D.arr .u64 4 [(38 : Int), (0 : Int), (0 : Int), (0 : Int)]] = [D.arr .u64 4 l_1, D.arr .u64 4 m_1] ∧ isN l_1 ∧ isN m_1) ∧ True ∧ (0 < 2 ∧ false = false) ∧ (1 < 2 ∧ false = false) ∧ (Sk.arr 4 = Sk.arr 4 ∧ 4 ≠ 0 ∧ 4 = 4 ∧ false = false) ∧ (4 ≠ 0 ∧ 4 = 4 ∧ true = true) ∧ (∃ (l_1 : List Int), [D.arr .u64 4 (nB 18446744073709551616 4 (smN (vB 18446744073709551616 (nB 18446744073709551616 4 (smN (vB 18446744073709551616 (mlI (vB 18446744073709551616 l * vB 18446744073709551616 m) x)) (vB 18446744073709551616 [IntKind.u64.wrap ((↑(mlS (vB 18446744073709551616 l * vB 18446744073709551616 m) x / 18446744073709551616 ^ x) : Int) * (38 : Int)), (0 : Int), (0 : Int), (0 : Int)])))) (vB 18446744073709551616 [(38 : Int), (0 : Int), (0 : Int), (0 : Int)])))] = [D.arr .u64 4 l_1] ∧ isN l_1) ∧ (Sk.arr 4 = Sk.arr 4 ∧ 4 ≠ 0 ∧ 4 = 4 ∧ false = false) ∧ ((4 ≠ 0 ∧ 4 = 4 ∧ true = true) ∧ True) ∧ D.arr .u64 4 (nB 18446744073709551616 4 (vB 18446744073709551616 (nB 18446744073709551616 4 (smN (vB 18446744073709551616 (nB 18446744073709551616 4 (smN (vB 18446744073709551616 (mlI (vB 18446744073709551616 l * vB 18446744073709551616 m) x)) (vB 18446744073709551616 [IntKind.u64.wrap ((↑(mlS (vB 18446744073709551616 l * vB 18446744073709551616 m) x / 18446744073709551616 ^ x) : Int) * (38 : Int)), (0 : Int), (0 : Int), (0 : Int)])))) (vB 18446744073709551616 [(38 : Int), (0 : Int), (0 : Int), (0 : Int)]))) % FP)) = F
  | false => (4 ≠ 0 ∧ 4 = 4 ∧ true = true) ∧ (∃ (l_1 : List Int), [D.arr .u64 4 (nB 18446744073709551616 4 (smN (vB 18446744073709551616 (mlI (vB 18446744073709551616 l * vB 18446744073709551616 m) x)) (vB 18446744073709551616 [IntKind.u64.wrap ((↑(mlS (vB 18446744073709551616 l * vB 18446744073709551616 m) x / 18446744073709551616 ^ x) : Int) * (38 : Int)), (0 : Int), (0 : Int), (0 : Int)])))] = [D.arr .u64 4 l_1] ∧ isN l_1) ∧ (Sk.arr 4 = Sk.arr 4 ∧ 4 ≠ 0 ∧ 4 = 4 ∧ false = false) ∧ ((4 ≠ 0 ∧ 4 = 4 ∧ true = true) ∧ True) ∧ D.arr .u64 4 (nB 18446744073709551616 4 (vB 18446744073709551616 (nB 18446744073709551616 4 (smN (vB 18446744073709551616 (mlI (vB 18446744073709551616 l * vB 18446744073709551616 m) x)) (vB 18446744073709551616 [IntKind.u64.wrap ((↑(mlS (vB 18446744073709551616 l * vB 18446744073709551616 m) x / 18446744073709551616 ^ x) : Int) * (38 : Int)), (0 : Int), (0 : Int), (0 : Int)]))) % FP)) = F) := by kernel_rfl
set_option maxRecDepth 100000 in
theorem vc50  (l m : List Int) (F : D)  :
    (owed c50 (inv50 l m) Try.f50 [num4 l, num4 m] F) = (
 (True ∧ false = false) ∧ (True ∧ false = false) ∧ (True ∧ 4 ≠ 0) ∧ (1 = 1 ∧ false = false ∧ (0 < 4 ∧ ([] : List Nat) = [] ∧ true = true) ∧ True) ∧ (True ∧ 4 ≠ 0) ∧ (Sk.arr 4 = Sk.arr 4 ∧ 4 ≠ 0 ∧ 4 = 4 ∧ false = false) ∧ (4 ≠ 0 ∧ 4 = 4 ∧ true = true) ∧ (∃ (l : List Int), [D.arr .u64 4 m] = [D.arr .u64 4 l] ∧ isN l) ∧ True ∧ True ∧ (((AV.d (D.val (.int .i64 (IntKind.i64.wrap ((↑(bl2 (vB 18446744073709551616 m)) : Int) - (1 : Int))))) = AV.d (D.val (.int .i64 ((↑(IntKind.i64.wrap ((↑(bl2 (vB 18446744073709551616 m)) : Int) - (1 : Int)) + (1 : Int)).toNat : Int) - (1 : Int)))) ∧ True) ∧ (sm (some (Blk.fix (D.arr .u64 4 l))) ∧ sm (some (Blk.fix (D.arr .u64 4 m))) ∧ sm (some (Blk.fix (D.arr .u64 4 [(0 : Int), (0 : Int), (0 : Int), (0 : Int)]))) ∧ some (Blk.fix (D.arr .u64 4 [(1 : Int), (0 : Int), (0 : Int), (0 : Int)])) = some (Blk.fix (D.arr .u64 4 (nB 18446744073709551616 4 (fpw (vB 18446744073709551616 l) (vB 18446744073709551616 m / 2 ^ (IntKind.i64.wrap ((↑(bl2 (vB 18446744073709551616 m)) : Int) - (1 : Int)) + (1 : Int)).toNat))))) ∧ True) ∧ true = true) ∧ (IntKind.i64.wrap ((↑(bl2 (vB 18446744073709551616 m)) : Int) - (1 : Int)) + (1 : Int)).toNat ≤ 256) ∧ ∀ (x : Nat), x ≤ 256 → true = true ∧ True ∧ True ∧ match decide ((↑x : Int) - (1 : Int) ≥ 0) with
 | true => (4 ≠ 0 ∧ 4 = 4 ∧ true = true) ∧ (4 ≠ 0 ∧ 4 = 4 ∧ true = true) ∧ (∃ (l_1 : List Int), ∃ (m_1 : List Int), [D.arr .u64 4 (nB 18446744073709551616 4 (fpw (vB 18446744073709551616 l) (vB 18446744073709551616 m / 2 ^ x))), D.arr .u64 4 (nB 18446744073709551616 4 (fpw (vB 18446744073709551616 l) (vB 18446744073709551616 m / 2 ^ x)))] = [D.arr .u64 4 l_1, D.arr .u64 4 m_1] ∧ isN l_1 ∧ isN m_1) ∧ (Sk.arr 4 = Sk.arr 4 ∧ 4 ≠ 0 ∧ 4 = 4 ∧ false = false) ∧ (4 ≠ 0 ∧ 4 = 4 ∧ true = true) ∧ True ∧ (∃ (l : List Int), ∃ (i : Int), [D.arr .u64 4 m, D.val (.int .i64 ((↑x : Int) - (1 : Int)))] = [D.arr .u64 4 l, D.val (Value.int IntKind.i64 i)] ∧ isN l ∧ i64ok i) ∧ True ∧ match (↑(bitN (vB 18446744073709551616 m) ((↑x : Int) - (1 : Int))) : Int) == (1 : Int) with
  | true => (4 ≠ 0 ∧ 4 = 4 ∧ true = true) ∧ (4 ≠ 0 ∧ 4 = 4 ∧ true = true) ∧ (∃ (l_1 : List Int), ∃ (m_1 : List Int), [D.arr .u64 4 (nB 18446744073709551616 4 (vB 18446744073709551616 (nB 18446744073709551616 4 (fpw (vB 18446744073709551616 l) (vB 18446744073709551616 m / 2 ^ x))) * vB 18446744073709551616 (nB 18446744073709551616 4 (fpw (vB 18446744073709551616 l) (vB 18446744073709551616 m / 2 ^ x))) % FP)), D.arr .u64 4 l] = [D.arr .u64 4 l_1, D.arr .u64 4 m_1] ∧ isN l_1 ∧ isN m_1) ∧ (Sk.arr 4 = Sk.arr 4 ∧ 4 ≠ 0 ∧ 4 = 4 ∧ false = false) ∧ True ∧ True ∧ True ∧ ((AV.d (D.val (.int .i64 (IntKind.i64.wrap ((↑x : Int) - (1 : Int) - (1 : Int))))) = AV.d (D.val (.int .i64 ((↑(IntKind.i64.wrap ((↑x : Int) - (1 : Int) - (1 : Int)) + (1 : Int)).toNat : Int) - (1 : Int)))) ∧ True) ∧ (sm (some (Blk.fix (D.arr .u64 4 l))) ∧ sm (some (Blk.fix (D.arr .u64 4 m))) ∧ sm (some (Blk.fix (D.arr .u64 4 [(0 : Int), (0 : Int), (0 : Int), (0 : Int)]))) ∧ some (Blk.fix (D.arr .u64 4 (nB 18446744073709551616 4 (vB 18446744073709551616 (nB 18446744073709551616 4 (vB 18446744073709551616 (nB 18446744073709551616 4 (fpw (vB 18446744073709551616 l) (vB 18446744073709551616 m / 2 ^ x))) * vB 18446744073709551616 (nB 18446744073709551616 4 (fpw (vB 18446744073709551616 l) (vB 18446744073709551616 m / 2 ^ x))) % FP)) * vB 18446744073709551616 l % FP)))) = some (Blk.fix (D.arr .u64 4 (nB 18446744073709551616 4 (fpw (vB 18446744073709551616 l) (vB 18446744073709551616 m / 2 ^ (IntKind.i64.wrap ((↑x : Int) - (1 : Int) - (1 : Int)) + (1 : Int)).toNat))))) ∧ True) ∧ true = true) ∧ (IntKind.i64.wrap ((↑x : Int) - (1 : Int) - (1 : Int)) + (1 : Int)).toNat ≤ 256 ∧ (IntKind.i64.wrap ((↑x : Int) - (1 : Int) - (1 : Int)) + (1 : Int)).toNat < x
  | false => True ∧ True ∧ True ∧ ((AV.d (D.val (.int .i64 (IntKind.i64.wrap ((↑x : Int) - (1 : Int) - (1 : Int))))) = AV.d (D.val (.int .i64 ((↑(IntKind.i64.wrap ((↑x : Int) - (1 : Int) - (1 : Int)) + (1 : Int)).toNat : Int) - (1 : Int)))) ∧ True) ∧ (sm (some (Blk.fix (D.arr .u64 4 l))) ∧ sm (some (Blk.fix (D.arr .u64 4 m))) ∧ sm (some (Blk.fix (D.arr .u64 4 [(0 : Int), (0 : Int), (0 : Int), (0 : Int)]))) ∧ some (Blk.fix (D.arr .u64 4 (nB 18446744073709551616 4 (vB 18446744073709551616 (nB 18446744073709551616 4 (fpw (vB 18446744073709551616 l) (vB 18446744073709551616 m / 2 ^ x))) * vB 18446744073709551616 (nB 18446744073709551616 4 (fpw (vB 18446744073709551616 l) (vB 18446744073709551616 m / 2 ^ x))) % FP)))) = some (Blk.fix (D.arr .u64 4 (nB 18446744073709551616 4 (fpw (vB 18446744073709551616 l) (vB 18446744073709551616 m / 2 ^ (IntKind.i64.wrap ((↑x : Int) - (1 : Int) - (1 : Int)) + (1 : Int)).toNat))))) ∧ True) ∧ true = true) ∧ (IntKind.i64.wrap ((↑x : Int) - (1 : Int) - (1 : Int)) + (1 : Int)).toNat ≤ 256 ∧ (IntKind.i64.wrap ((↑x : Int) - (1 : Int) - (1 : Int)) + (1 : Int)).toNat < x
 | false => (4 ≠ 0 ∧ 4 = 4 ∧ true = true) ∧ (Sk.arr 4 = Sk.arr 4 ∧ 4 ≠ 0 ∧ 4 = 4 ∧ false = false) ∧ ((4 ≠ 0 ∧ 4 = 4 ∧ true = true) ∧ True) ∧ D.arr .u64 4 (nB 18446744073709551616 4 (fpw (vB 18446744073709551616 l) (vB 18446744073709551616 m / 2 ^ x))) = F) := by kernel_rfl
set_option maxRecDepth 100000 in
theorem vc33  (l : List Int) (F : D)  :
    (owed c33 (fun _ => none) Try.f33 [num4 l] F) = (
 (True ∧ false = false) ∧ (True ∧ 4 ≠ 0) ∧ 0 = 0 ∧ (1 = 1 ∧ false = false ∧ (0 < 4 ∧ ([] : List Nat) = [] ∧ true = true) ∧ True) ∧ (∃ (l : List Int), ∃ (m : List Int), [D.arr .u64 4 (nB 18446744073709551616 4 FP), D.arr .u64 4 [(2 : Int), (0 : Int), (0 : Int), (0 : Int)]] = [D.arr .u64 4 l, D.arr .u64 4 m] ∧ (okw l ∧ l.length = 4) ∧ okw m ∧ m.length = 4) ∧ True ∧ (0 < 2 ∧ false = false) ∧ (1 < 2 ∧ false = false) ∧ (True ∧ 4 ≠ 0) ∧ (Sk.arr 4 = Sk.arr 4 ∧ 4 ≠ 0 ∧ 4 = 4 ∧ false = false) ∧ True ∧ (4 ≠ 0 ∧ 4 = 4 ∧ true = true) ∧ (4 ≠ 0 ∧ 4 = 4 ∧ true = true) ∧ (∃ (l_1 : List Int), ∃ (m : List Int), [D.arr .u64 4 l, D.arr .u64 4 (nB 18446744073709551616 4 (dif (vB 18446744073709551616 (nB 18446744073709551616 4 FP)) (vB 18446744073709551616 [(2 : Int), (0 : Int), (0 : Int), (0 : Int)])))] = [D.arr .u64 4 l_1, D.arr .u64 4 m] ∧ isN l_1 ∧ isN m) ∧ (Sk.arr 4 = Sk.arr 4 ∧ 4 ≠ 0 ∧ 4 = 4 ∧ false = false) ∧ ((4 ≠ 0 ∧ 4 = 4 ∧ true = true) ∧ True) ∧ D.arr .u64 4 (nB 18446744073709551616 4 (fpw (vB 18446744073709551616 l) (vB 18446744073709551616 (nB 18446744073709551616 4 (dif (vB 18446744073709551616 (nB 18446744073709551616 4 FP)) (vB 18446744073709551616 [(2 : Int), (0 : Int), (0 : Int), (0 : Int)])))))) = F) := by kernel_rfl
end Go.Proofs.Ytpkcmjfmoemekaa
namespace Go.Proofs.Ytpkcmjfmoemekaa
open Go Go.Vg
theorem FP_eq : FP = 57896044618658097711785492504343953926634992332820282019728792003956564819949 := rfl
theorem FP_pos : 0 < FP := by decide
theorem P256 : (2 : Nat) ^ 256 = 115792089237316195423570985008687907853269984665640564039457584007913129639936 := rfl
theorem B4 : 18446744073709551616 ^ 4 = 115792089237316195423570985008687907853269984665640564039457584007913129639936 := rfl
theorem wn {v : Nat} (h : v < 115792089237316195423570985008687907853269984665640564039457584007913129639936) : vB 18446744073709551616 (nB 18446744073709551616 4 v) = v := by
 rw [vB_nB, B4, Nat.mod_eq_of_lt h]
theorem nN (v : Nat) : isN (nB 18446744073709551616 4 v) := ⟨fun x hx => nB_ok (by decide) _ _ x hx, nB_length _ _ _⟩
theorem wv_lt' {l : List Int} (h : isN l) : vB 18446744073709551616 l < 115792089237316195423570985008687907853269984665640564039457584007913129639936 := wv_lt h.1 h.2
theorem mlt (v : Nat) : v % FP < FP := Nat.mod_lt _ FP_pos
theorem dif_ge {a b : Nat} (ha : a < 115792089237316195423570985008687907853269984665640564039457584007913129639936) (h : b ≤ a) : dif a b = a - b := by
 unfold dif; rw [P256]; omega
theorem dif_lt {a b : Nat} (hb : b < 115792089237316195423570985008687907853269984665640564039457584007913129639936) (h : a < b) : dif a b = a + 115792089237316195423570985008687907853269984665640564039457584007913129639936 - b := by
 unfold dif; rw [P256]; omega
theorem lowI_two {v : Nat} (h : v < 115792089237316195423570985008687907853269984665640564039457584007913129639936) : lowI v 2 = v % FP := by
 show (if (if v < FP then v else v - FP) < FP then (if v < FP then v else v - FP) else (if v < FP then v else v - FP) - FP) = _
 rw [FP_eq]
 by_cases h1 : v < 57896044618658097711785492504343953926634992332820282019728792003956564819949
 ·rw [if_pos h1, if_pos h1]; omega
 ·rw [if_neg h1]
  split <;> omega
theorem lowI_lt {v : Nat} (h : v < 115792089237316195423570985008687907853269984665640564039457584007913129639936) : ∀ i, lowI v i < 115792089237316195423570985008687907853269984665640564039457584007913129639936
 | 0 => h
 | i + 1 => by
  have := lowI_lt h i
  show (if lowI v i < FP then lowI v i else lowI v i - FP) < 115792089237316195423570985008687907853269984665640564039457584007913129639936
  split <;> omega
theorem n4d {a b : Nat} (h : a = b) : n4 a = n4 b := by rw [h]
set_option maxRecDepth 100000 in
theorem m45 : Meets Try.prog 45 sp45 := by
 refine meets_of_owed (C := c39) ⟨tab_ok, fun f s h => by cases h⟩ (by kernel_rfl) (by kernel_rfl : Try.prog.funcs[45]? = some Try.f45) (by kernel_rfl) (by kernel_rfl) (by kernel_rfl) _ ?_
 intro ds hds
 obtain rfl : ds = [] := List.eq_nil_of_length_eq_zero hds
 refine ⟨fun _ => rfl, fun _ => none, ?_⟩
 show owed c39 (fun _ => none) Try.f45 [] (n4 FP)
 rw [vc45]
 simp (decide := true) only [eq_self, true_and, and_true, ne_eq, not_false_eq_true]
 and_intros <;> first | trivial | decide | rfl
set_option maxRecDepth 100000 in
theorem m31 : Meets Try.prog 31 sp31 := by
 refine meets_of_owed (C := c39) ⟨tab_ok, fun f s h => by cases h⟩ (by kernel_rfl) (by kernel_rfl : Try.prog.funcs[31]? = some Try.f31) (by kernel_rfl) (by kernel_rfl) (by kernel_rfl) _ ?_
 intro ds hds
 obtain rfl : ds = [] := List.eq_nil_of_length_eq_zero hds
 refine ⟨fun _ => rfl, fun _ => none, ?_⟩
 show owed c39 (fun _ => none) Try.f31 [] (num4 dNum)
 rw [vc31]
 simp (decide := true) only [eq_self, true_and, and_true, ne_eq, not_false_eq_true]
 and_intros <;> first | trivial | decide | rfl
set_option maxRecDepth 100000 in
theorem m27 : Meets Try.prog 27 sp27 := by
 refine meets_of_owed (C := c27) ⟨tab_ok, lkS_ok ⟨m44, m45, trivial⟩⟩ (by kernel_rfl) (by kernel_rfl : Try.prog.funcs[27]? = some Try.f27) (by kernel_rfl) (by kernel_rfl) (by kernel_rfl) _ ?_
 rintro _ ⟨l, rfl, hl⟩
 refine ⟨fun _ => rfl, inv27 l, ?_⟩
 show owed c27 (inv27 l) Try.f27 [num4 l] (n4 (wv l % FP))
 rw [vc27]
 have hv := wv_lt' hl
 have hF := FP_eq
 have hn := num_nB hl
 simp (decide := true) only [eq_self, true_and, and_true, ne_eq, not_false_eq_true, Int.toNat_natCast]
 refine ⟨⟨rfl, ?_⟩, ?_⟩
 ·rw [show lowI (vB 18446744073709551616 l) (Int.toNat 0) = wv l from rfl, hn]
 intro x hx
 have hb := lowI_lt hv x
 split
 ·rename_i h
  have h := of_decide_eq_true h
  have hx : x < 2 := by omega
  have e1 : IntKind.i64.wrap ((x : Int) + 1) = ((x + 1 : Nat) : Int) := by rw [wi (by omega) (by omega)]; rfl
  rw [e1, Int.toNat_natCast, wn hb, wn (v := FP) (by rw [hF]; decide)]
  refine ⟨⟨_, _, rfl, nN _, nN _⟩, ?_⟩
  have e2 : lowI (vB 18446744073709551616 l) (x + 1) = if lowI (vB 18446744073709551616 l) x < FP then lowI (vB 18446744073709551616 l) x else lowI (vB 18446744073709551616 l) x - FP := rfl
  rw [e2]
  by_cases hc : lowI (vB 18446744073709551616 l) x < FP
  ·rw [show bor (lowI (vB 18446744073709551616 l) x) FP = 1 by unfold bor; rw [if_pos hc], if_pos hc]
   and_intros <;> first | trivial | omega | rfl
  ·rw [show bor (lowI (vB 18446744073709551616 l) x) FP = 0 by unfold bor; rw [if_neg hc], if_neg hc, dif_ge hb (by omega)]
   and_intros <;> first | trivial | omega | rfl
 ·rename_i h
  have h := of_decide_eq_false h
  have hx : x = 2 := by omega
  subst hx
  rw [lowI_two hv]
set_option maxRecDepth 100000 in
theorem m30 : Meets Try.prog 30 sp30 := by
 refine meets_of_owed (C := c30) ⟨tab_ok, lkS_ok ⟨m27, m49, trivial⟩⟩ (by kernel_rfl) (by kernel_rfl : Try.prog.funcs[30]? = some Try.f30) (by kernel_rfl) (by kernel_rfl) (by kernel_rfl) _ ?_
 rintro _ ⟨l, m, rfl, hl, hm⟩
 refine ⟨fun _ => rfl, fun _ => none, ?_⟩
 show owed c30 (fun _ => none) Try.f30 [num4 l, num4 m] (n4 ((wv l + wv m) % FP))
 rw [vc30]
 have hF := FP_eq
 have h1 := mlt (vB 18446744073709551616 l)
 have h2 := mlt (vB 18446744073709551616 m)
 have e1 : smN (vB 18446744073709551616 l % FP) (vB 18446744073709551616 m % FP) = vB 18446744073709551616 l % FP + vB 18446744073709551616 m % FP := by
  unfold smN; rw [P256]; omega
 rw [wn (v := vB 18446744073709551616 l % FP) (by omega), wn (v := vB 18446744073709551616 m % FP) (by omega), e1, wn (v := vB 18446744073709551616 l % FP + vB 18446744073709551616 m % FP) (by omega), ← Nat.add_mod]
 simp (decide := true) only [eq_self, true_and, and_true, ne_eq, not_false_eq_true]
 exact ⟨⟨_, rfl, hl⟩, ⟨_, rfl, hm⟩, ⟨_, _, rfl, nN _, nN _⟩, ⟨_, rfl, nN _⟩⟩
set_option maxRecDepth 100000 in
theorem m29 : Meets Try.prog 29 sp29 := by
 refine meets_of_owed (C := c29) ⟨tab_ok, lkS_ok ⟨m27, m44, m49, m45, trivial⟩⟩ (by kernel_rfl) (by kernel_rfl : Try.prog.funcs[29]? = some Try.f29) (by kernel_rfl) (by kernel_rfl) (by kernel_rfl) _ ?_
 rintro _ ⟨l, m, rfl, hl, hm⟩
 refine ⟨fun _ => rfl, fun _ => none, ?_⟩
 show owed c29 (fun _ => none) Try.f29 [num4 l, num4 m] (n4 (fsb (wv l) (wv m)))
 rw [vc29]
 have hF := FP_eq
 unfold fsb
 have h1 := mlt (vB 18446744073709551616 l)
 have h2 := mlt (vB 18446744073709551616 m)
 have hd : dif (vB 18446744073709551616 l % FP) (vB 18446744073709551616 m % FP) < 115792089237316195423570985008687907853269984665640564039457584007913129639936 := Nat.mod_lt _ (by decide)
 rw [wn (v := vB 18446744073709551616 l % FP) (by omega), wn (v := vB 18446744073709551616 m % FP) (by omega), wn hd, wn (v := FP) (by rw [hF]; decide)]
 simp (decide := true) only [eq_self, true_and, and_true, ne_eq, not_false_eq_true]
 refine ⟨⟨_, rfl, hl⟩, ⟨_, rfl, hm⟩, ⟨_, _, rfl, nN _, nN _⟩, ?_⟩
 generalize vB 18446744073709551616 l % FP = a at *
 generalize vB 18446744073709551616 m % FP = b at *
 by_cases hc : a < b
 ·rw [show bor a b = 1 by unfold bor; rw [if_pos hc], dif_lt (by omega) hc]
  have e1 : smN (a + 115792089237316195423570985008687907853269984665640564039457584007913129639936 - b) FP = (a + FP - b) % FP := by unfold smN; rw [P256]; rw [hF] at h1 h2 ⊢; omega
  rw [e1]
  exact ⟨⟨_, _, rfl, nN _, nN _⟩, rfl⟩
 ·rw [show bor a b = 0 by unfold bor; rw [if_neg hc], dif_ge (by omega) (by omega)]
  have e1 : a - b = (a + FP - b) % FP := by rw [hF] at h1 h2 ⊢; omega
  rw [e1]
  exact (Eq.refl _ : n4 ((a + FP - b) % FP) = n4 ((a + FP - b) % FP))
end Go.Proofs.Ytpkcmjfmoemekaa
namespace Go.Proofs.Ytpkcmjfmoemekaa
open Go Go.Vg
theorem grow {b : Nat} (hb : 0 < b) {i n : Nat} (h : i < n) (S t : Nat) :
  (nB b i S ++ List.replicate (n - i) 0).set i (((S / b ^ i + t) % b : Nat) : Int) = nB b (i + 1) (S + b ^ i * t) ++ List.replicate (n - (i + 1)) 0 := by
 have e : nB b i (S + b ^ i * t) = nB b i S := by rw [← nB_mod b i (S + _), Nat.add_mul_mod_self_left, nB_mod]
 rw [nB_push, e, Nat.add_mul_div_left _ _ (Nat.pow_pos hb), List.set_append_right _ _ (by rw [nB_length]; exact Nat.le_refl _), nB_length, Nat.sub_self, show n - i = (n - (i + 1)) + 1 by omega, List.replicate_succ, List.set_cons_zero, List.append_assoc]
 rfl
theorem grow_div {b : Nat} (hb : 0 < b) (i S t : Nat) : (S + b ^ i * t) / b ^ (i + 1) = (S / b ^ i + t) / b := by
 rw [Nat.pow_succ, ← Nat.div_div_eq_div_mul, Nat.add_mul_div_left _ _ (Nat.pow_pos hb)]
theorem mlS_succ (W i : Nat) : mlS W (i + 1) = mlS W i + 18446744073709551616 ^ i * (W / 18446744073709551616 ^ i % 18446744073709551616 + 38 * (W / 18446744073709551616 ^ (i + 4) % 18446744073709551616)) := by
 unfold mlS
 rw [Nat.mod_pow_succ, Nat.mod_pow_succ (x := W / _), Nat.div_div_eq_div_mul, ← Nat.pow_add, Nat.add_comm 4 i, Nat.mul_add, Nat.mul_add, Nat.mul_left_comm 38]
 omega
theorem mlS_le (W i : Nat) : mlS W i / 18446744073709551616 ^ i ≤ 38 := by
 have h0 : 0 < 18446744073709551616 ^ i := Nat.pow_pos (by decide)
 have h1 := Nat.mod_lt W h0
 have h2 := Nat.mod_lt (W / 18446744073709551616 ^ 4) h0
 have h3 : mlS W i < 39 * 18446744073709551616 ^ i := by unfold mlS; omega
 have := (Nat.div_lt_iff_lt_mul h0).2 h3
 omega
theorem mlS_four {W : Nat} (h : W < 115792089237316195423570985008687907853269984665640564039457584007913129639936 * 115792089237316195423570985008687907853269984665640564039457584007913129639936) :
  mlS W 4 = W % 115792089237316195423570985008687907853269984665640564039457584007913129639936 + 38 * (W / 115792089237316195423570985008687907853269984665640564039457584007913129639936) := by
 unfold mlS
 rw [B4]
 omega
theorem four1 (x : Nat) : vB 18446744073709551616 [(x : Int), 0, 0, 0] = x := by
 show ((x : Int)).toNat + 18446744073709551616 * (0 + 18446744073709551616 * (0 + 18446744073709551616 * (0 + 18446744073709551616 * 0))) = x
 omega
theorem isN_four {x : Nat} (h : x < 18446744073709551616) : isN [(x : Int), 0, 0, 0] := by
 refine ⟨?_, rfl⟩
 intro y hy
 rcases List.mem_cons.1 hy with rfl | hy
 ·omega
 ·rcases List.mem_cons.1 hy with rfl | hy
  ·omega
  ·rcases List.mem_cons.1 hy with rfl | hy
   ·omega
   ·rcases List.mem_cons.1 hy with rfl | hy
    ·omega
    ·cases hy
theorem mlI_ok (W : Nat) : isN (mlI W 4) := by
 have : mlI W 4 = nB 18446744073709551616 4 (mlS W 4) := List.append_nil _
 rw [this]
 exact nN _
theorem mlI_val (W : Nat) : vB 18446744073709551616 (mlI W 4) = mlS W 4 % 115792089237316195423570985008687907853269984665640564039457584007913129639936 := by
 have : mlI W 4 = nB 18446744073709551616 4 (mlS W 4) := List.append_nil _
 rw [this, vB_nB, B4]
theorem fold38 (W : Nat) (S O : Nat) (hS : S = W % 115792089237316195423570985008687907853269984665640564039457584007913129639936 + 38 * (W / 115792089237316195423570985008687907853269984665640564039457584007913129639936))
  (hO : O = S % 115792089237316195423570985008687907853269984665640564039457584007913129639936 + 38 * (S / 115792089237316195423570985008687907853269984665640564039457584007913129639936)) : O % FP = W % FP := by
 rw [FP_eq]; omega
set_option maxRecDepth 100000 in
theorem m28 : Meets Try.prog 28 sp28 := by
 refine meets_of_owed (C := c28) ⟨tab_ok, lkS_ok ⟨m46, m47, m48, m49, m27, trivial⟩⟩ (by kernel_rfl) (by kernel_rfl : Try.prog.funcs[28]? = some Try.f28) (by kernel_rfl) (by kernel_rfl) (by kernel_rfl) _ ?_
 rintro _ ⟨l, m, rfl, hl, hm⟩
 refine ⟨fun _ => rfl, inv28 l m, ?_⟩
 show owed c28 (inv28 l m) Try.f28 [num4 l, num4 m] (n4 (wv l * wv m % FP))
 rw [vc28]
 have h1 := wv_lt' hl
 have h2 := wv_lt' hm
 have hW : vB 18446744073709551616 l * vB 18446744073709551616 m < 115792089237316195423570985008687907853269984665640564039457584007913129639936 * 115792089237316195423570985008687907853269984665640564039457584007913129639936 :=
  Nat.mul_lt_mul'' h1 h2
 generalize vB 18446744073709551616 l * vB 18446744073709551616 m = W at hW ⊢
 simp (decide := true) only [eq_self, true_and, and_true, ne_eq, not_false_eq_true, Int.toNat_natCast]
 refine ⟨⟨_, _, rfl, hl, hm⟩, ?_, ?_⟩
 ·have e0 : mlS W (Int.toNat 0) = 0 := by
   show mlS W 0 = 0
   unfold mlS
   rw [Nat.pow_zero, Nat.mod_one, Nat.mod_one]
  have e1 : mlI W (Int.toNat 0) = [0, 0, 0, 0] := rfl
  rw [e0, e1]
  and_intros <;> first | exact True.intro | rfl | exact Nat.zero_le _
 intro x hx
 have hc := mlS_le W x
 split
 ·rename_i h
  have h := of_decide_eq_true h
  have hx : x < 4 := by omega
  have e1 : IntKind.i64.wrap ((x : Int) + 1) = ((x + 1 : Nat) : Int) := by rw [wi (by omega) (by omega)]; rfl
  have e2 : IntKind.i64.wrap ((x : Int) + 4) = ((x + 4 : Nat) : Int) := by rw [wi (by omega) (by omega)]; rfl
  obtain ⟨c, gc, q1, hs1⟩ : ∃ c : Nat, (nB 18446744073709551616 8 W).getD x 0 = (c : Int) ∧ c < 18446744073709551616 ∧ c = W / 18446744073709551616 ^ x % 18446744073709551616 := ⟨_, nB_get _ _ _ _ (by omega), Nat.mod_lt _ (by decide), rfl⟩
  obtain ⟨a, ga, q2, hs2⟩ : ∃ a : Nat, (nB 18446744073709551616 8 W).getD (x + 4) 0 = (a : Int) ∧ a < 18446744073709551616 ∧ a = W / 18446744073709551616 ^ (x + 4) % 18446744073709551616 := ⟨_, nB_get _ _ _ _ (by omega), Nat.mod_lt _ (by decide), rfl⟩
  have hsucc : mlS W (x + 1) = mlS W x + 18446744073709551616 ^ x * (c + 38 * a) := by rw [hs1, hs2]; exact mlS_succ W x
  clear hs1 hs2
  rw [e1, e2, Int.toNat_natCast, Int.toNat_natCast, gc, ga]
  simp only [Int.toNat_natCast]
  have hg := grow (b := 18446744073709551616) (by decide) hx (mlS W x) (c + 38 * a)
  have hd := grow_div (b := 18446744073709551616) (by decide) x (mlS W x) (c + 38 * a)
  rw [← hsucc] at hg hd
  have hcc := hc
  generalize mlS W x / 18446744073709551616 ^ x = d at hg hd hcc ⊢
  obtain ⟨s1, s2, s3⟩ := step_eq (a * 38) c d (by omega) q1 (by omega)
  have l1 : mulL a 38 < 18446744073709551616 := Nat.mod_lt _ (by decide)
  have l2 : adl (mulL a 38) c 0 < 18446744073709551616 := Nat.mod_lt _ (by decide)
  have f1 : adl (adl (mulL a 38) c 0) d 0 = (d + (c + 38 * a)) % 18446744073709551616 := by
   have : adl (adl (mulL a 38) c 0) d 0 = (a * 38 + c + d) % 18446744073709551616 := s1
   rw [this]; congr 1; omega
  have f2 : mulH a 38 + adc (mulL a 38) c 0 + adc (adl (mulL a 38) c 0) d 0 = mlS W (x + 1) / 18446744073709551616 ^ (x + 1) := by
   have : mulH a 38 + adc (mulL a 38) c 0 + adc (adl (mulL a 38) c 0) d 0 = (a * 38 + c + d) / 18446744073709551616 := s2
   rw [this, hd]; congr 1; omega
  have f3 := mlS_le W (x + 1)
  rw [f1, ← Int.natCast_add, wB (by omega), ← Int.natCast_add, wB (by omega), f2]
  have hI : (mlI W x).set x (((d + (c + 38 * a)) % 18446744073709551616 : Nat) : Int) = mlI W (x + 1) := hg
  rw [hI]
  and_intros <;> first | exact True.intro | omega | rfl | exact ⟨a, 38, rfl, q2, by decide⟩ | exact ⟨_, c, 0, rfl, l1, q1, by decide⟩ | exact ⟨_, d, 0, rfl, l2, by omega, by decide⟩
 ·rename_i h
  have h := of_decide_eq_false h
  have hx : x = 4 := by omega
  subst hx
  have hS := mlS_four hW
  rw [B4] at hc ⊢
  have hO := mlI_val W
  have hok := mlI_ok W
  generalize mlI W 4 = L at hO hok ⊢
  generalize mlS W 4 = S at *
  have hq : S / 115792089237316195423570985008687907853269984665640564039457584007913129639936 * 38 < 18446744073709551616 := by omega
  have e1 : IntKind.u64.wrap (((S / 115792089237316195423570985008687907853269984665640564039457584007913129639936 : Nat) : Int) * 38) = ((S / 115792089237316195423570985008687907853269984665640564039457584007913129639936 * 38 : Nat) : Int) := wB hq
  have e38 := four1 38
  rw [e1, four1, hO]
  have e3 : vB 18446744073709551616 [38, 0, 0, 0] = 38 := four1 38
  have k1 : isN [((S / 115792089237316195423570985008687907853269984665640564039457584007913129639936 * 38 : Nat) : Int), 0, 0, 0] := isN_four (by omega)
  have k2 : isN [38, 0, 0, 0] := isN_four (x := 38) (by decide)
  rw [e3]
  refine ⟨⟨_, _, rfl, hok, k1⟩, ?_⟩
  have hfold := fold38 W S _ hS rfl
  generalize hc1 : smC (S % 115792089237316195423570985008687907853269984665640564039457584007913129639936) (S / 115792089237316195423570985008687907853269984665640564039457584007913129639936 * 38) = cc
  generalize hs1 : smN (S % 115792089237316195423570985008687907853269984665640564039457584007913129639936) (S / 115792089237316195423570985008687907853269984665640564039457584007913129639936 * 38) = ss
  unfold smC at hc1
  unfold smN at hs1
  rw [P256] at hc1 hs1
  have hss : ss < 115792089237316195423570985008687907853269984665640564039457584007913129639936 := by omega
  rw [wn hss]
  have hcc : cc = 0 ∨ cc = 1 := by omega
  rcases hcc with rfl | rfl
  ·refine ⟨⟨_, rfl, nN _⟩, ?_⟩
   refine n4d ?_
   rw [← hfold]
   congr 1
   omega
  ·have hs2 : smN ss 38 = ss + 38 := by unfold smN; rw [P256]; omega
   rw [hs2, wn (v := ss + 38) (by omega)]
   refine ⟨⟨_, _, rfl, nN _, k2⟩, ⟨_, rfl, nN _⟩, ?_⟩
   refine n4d ?_
   rw [← hfold, FP_eq]
   omega
end Go.Proofs.Ytpkcmjfmoemekaa
namespace Go.Proofs.Ytpkcmjfmoemekaa
open Go Go.Vg
theorem fpw_eq (a n : Nat) : fpw a n = a ^ n % FP := opq_eq _
theorem fpw_lt (a n : Nat) : fpw a n < FP := by rw [fpw_eq]; exact mlt _
theorem fpw_zero (a : Nat) : fpw a 0 = 1 := by rw [fpw_eq, Nat.pow_zero]; rfl
theorem fpw_sq (a n : Nat) : fpw a n * fpw a n % FP = fpw a (n + n) := by
 rw [fpw_eq, fpw_eq, Nat.pow_add, ← Nat.mul_mod]
theorem fpw_mul (a n : Nat) : fpw a n * a % FP = fpw a (n + 1) := by
 rw [fpw_eq, fpw_eq, Nat.pow_succ, Nat.mod_mul_mod]
theorem fpw_nlt (a n : Nat) : fpw a n < 115792089237316195423570985008687907853269984665640564039457584007913129639936 := by
 have := fpw_lt a n
 rw [FP_eq] at this
 omega
theorem bl2_lt (n : Nat) : n < 2 ^ bl2 n := by
 unfold bl2
 split
 ·rename_i h; subst h; decide
 ·exact Nat.lt_log2_self
theorem bl2_le {n : Nat} (h : n < 2 ^ 256) : bl2 n ≤ 256 := by
 unfold bl2
 split
 ·omega
 ·rename_i h0
  have := (Nat.log2_lt h0).2 h
  omega
theorem half_bit (n y : Nat) : n / 2 ^ y = n / 2 ^ (y + 1) + n / 2 ^ (y + 1) + n / 2 ^ y % 2 := by
 rw [Nat.pow_succ, ← Nat.div_div_eq_div_mul]
 omega
set_option maxRecDepth 100000 in
theorem m50 : Meets Try.prog 50 sp50 := by
 refine meets_of_owed (C := c50) ⟨tab_ok, lkS_ok ⟨m13, m28, m15, trivial⟩⟩ (by kernel_rfl) (by kernel_rfl : Try.prog.funcs[50]? = some Try.f50) (by kernel_rfl) (by kernel_rfl) (by kernel_rfl) _ ?_
 rintro _ ⟨l, m, rfl, hl, hm⟩
 refine ⟨fun _ => rfl, inv50 l m, ?_⟩
 show owed c50 (inv50 l m) Try.f50 [num4 l, num4 m] (n4 (fpw (wv l) (wv m)))
 rw [vc50]
 have h2 := wv_lt' hm
 have hA : wv l = vB 18446744073709551616 l := rfl
 rw [hA]
 generalize vB 18446744073709551616 l = A
 have hN : wv m = vB 18446744073709551616 m := rfl
 rw [hN]
 generalize vB 18446744073709551616 m = N at h2 ⊢
 have b1 := bl2_lt N
 have b2 := bl2_le h2
 simp (decide := true) only [eq_self, true_and, and_true, ne_eq, not_false_eq_true, Int.toNat_natCast]
 have e1 : IntKind.i64.wrap ((bl2 N : Int) - 1) = (bl2 N : Int) - 1 := wi (by omega) (by omega)
 have e2 : ((bl2 N : Int) - 1 + 1).toNat = bl2 N := by omega
 rw [e1, e2]
 have one : isN [1, 0, 0, 0] := isN_four (x := 1) (by decide)
 refine ⟨⟨_, rfl, hm⟩, ⟨⟨rfl, ?_⟩, b2⟩, ?_⟩
 ·rw [Nat.div_eq_of_lt b1, fpw_zero]
  rfl
 intro x hx
 split
 ·rename_i h
  have h := of_decide_eq_true h
  obtain ⟨y, rfl⟩ : ∃ y, x = y + 1 := ⟨x - 1, by omega⟩
  have e3 : (((y + 1 : Nat) : Int) - 1) = (y : Int) := by omega
  have e4 : IntKind.i64.wrap ((y : Int) - 1) = (y : Int) - 1 := wi (by omega) (by omega)
  have e5 : ((y : Int) - 1 + 1).toNat = y := by omega
  have hb : bitN N (y : Int) = N / 2 ^ y % 2 := by
   unfold bitN
   rw [if_pos ⟨by omega, by omega⟩, Int.toNat_natCast]
  rw [e3, e4, e5, wn (fpw_nlt _ _), fpw_sq, wn (fpw_nlt _ _), fpw_mul, hb]
  have hh := half_bit N y
  have hi : i64ok (y : Int) := by unfold i64ok; omega
  refine ⟨⟨_, _, rfl, nN _, nN _⟩, ⟨_, _, rfl, hm, hi⟩, ?_⟩
  generalize hq : N / 2 ^ (y + 1) = q at hh ⊢
  generalize hr : N / 2 ^ y = r at hh ⊢
  have hbit : r % 2 = 0 ∨ r % 2 = 1 := by omega
  rcases hbit with hbit | hbit
  ·rw [hbit] at hh ⊢
   rw [Nat.add_zero] at hh
   rw [← hh]
   exact ⟨⟨rfl, rfl⟩, by omega, by omega⟩
  ·rw [hbit] at hh ⊢
   rw [← hh]
   exact ⟨⟨_, _, rfl, nN _, hl⟩, ⟨rfl, rfl⟩, by omega, by omega⟩
 ·rename_i h
  have h := of_decide_eq_false h
  have hx : x = 0 := by omega
  subst hx
  rw [Nat.pow_zero, Nat.div_one]
set_option maxRecDepth 100000 in
theorem m33 : Meets Try.prog 33 sp33 := by
 refine meets_of_owed (C := c33) ⟨tab_ok, lkS_ok ⟨m45, m44, m50, trivial⟩⟩ (by kernel_rfl) (by kernel_rfl : Try.prog.funcs[33]? = some Try.f33) (by kernel_rfl) (by kernel_rfl) (by kernel_rfl) _ ?_
 rintro _ ⟨l, rfl, hl⟩
 refine ⟨fun _ => rfl, fun _ => none, ?_⟩
 show owed c33 (fun _ => none) Try.f33 [num4 l] (n4 (fpw (wv l) (FP - 2)))
 rw [vc33]
 have hF := FP_eq
 have e2 : vB 18446744073709551616 [2, 0, 0, 0] = 2 := four1 2
 have two : isN [2, 0, 0, 0] := isN_four (x := 2) (by decide)
 have ed : dif FP 2 = FP - 2 := dif_ge (by rw [hF]; decide) (by rw [hF]; decide)
 rw [wn (v := FP) (by rw [hF]; decide), e2, ed, wn (v := FP - 2) (by rw [hF]; decide)]
 simp (decide := true) only [eq_self, true_and, and_true, ne_eq, not_false_eq_true]
 have n1 := nN FP
 exact ⟨⟨_, _, rfl, n1, two⟩, ⟨_, _, rfl, hl, nN _⟩⟩
end Go.Proofs.Ytpkcmjfmoemekaa
