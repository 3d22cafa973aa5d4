/- Vg, part X: functions without a body, for which the model has an entry. -/
import Derived.Test.YtkicjckhkefnpaaDoorZb10
import Derived.Laws.Externs
namespace Go.Vg
open Go Go.RowKit
theorem meets_extern {P : Program} {f : FuncId} {fn : Func} {e : Array Value → Sem Value} {sp : Spec} (hf : P.funcs[f]? = some fn) (hname : (fn.name == "runtime.NumGoroutine") = false)
  (hb : fn.body.isNone = true) (hn : Extern.findNext fn = none) (he : Extern.find fn = some e)
  (h : ∀ ds, sp.pre ds → flatD (sp.f ds) = true ∧ ∀ (X : Nat → Prop) (w : World) (vs : List Value), All2 (VR w X) ds vs → ∃ v, (e vs.toArray).run P w = .ok v w ∧ VR w X (sp.f ds) v) : Meets P f sp := by
 intro ds hpre
 obtain ⟨h1, h2⟩ := h ds hpre
 refine ⟨fun _ => h1, fun X w vs _ hvs => ?_⟩
 obtain ⟨v, hv, hr⟩ := h2 _ w vs hvs
 unfold UponCall
 rw [run_callFunc_extern hf hname hb hn he, hv]
 exact ⟨Grow.refl w, flat_VR h1 hr⟩
theorem all2_3 {w : World} {X : Nat → Prop} {a b c : D} {vs : List Value} (h : All2 (VR w X) [a, b, c] vs) : ∃ x y z, vs = [x, y, z] ∧ VR w X a x ∧ VR w X b y ∧ VR w X c z := by
 cases h with
 | cons h1 h => cases h with
  | cons h2 h => cases h with
   | cons h3 h => cases h with
    | nil => exact ⟨_, _, _, rfl, h1, h2, h3⟩
theorem vr_num {w : World} {X : Nat → Prop} {k : IntKind} {n : Int} {v : Value} (h : VR w X (.val (.int k n)) v) : v = .int k n := vr_val h
theorem num_vr (w : World) (X : Nat → Prop) (k : IntKind) (n : Int) : VR w X (.val (.int k n)) (.int k n) := vr_of_int w X k n
theorem pair_vr (w : World) (X : Nat → Prop) (k k' : IntKind) (n m : Int) : VR w X (.tup [.val (.int k n), .val (.int k' m)]) (.tuple #[.int k n, .int k' m]) :=
 ⟨[.int k n, .int k' m], rfl, .cons (VR.one (num_vr w X k n) rfl) (.cons (VR.one (num_vr w X k' m) rfl) .nil)⟩
end Go.Vg
namespace Go.Proofs.YtkicjckhkefnpaaDoor
open Go Go.Vg
abbrev u64n (n : Nat) : D := .val (.int .u64 (n : Int))
abbrev B64 : Nat := 18446744073709551616
def nn (d : D) : Nat := (numOf d).toNat
def sbd (x y b : Nat) : Nat := (x + B64 - y - b) % B64
def sbb (x y b : Nat) : Nat := if x < y + b then 1 else 0
def dif (a b : Nat) : Nat := (a + 2 ^ 256 - b) % 2 ^ 256
def bor (a b : Nat) : Nat := if a < b then 1 else 0
def cmpN (a b : Nat) : Int := if a < b then -1 else if a > b then 1 else 0
def shf (v : Nat) (n : Int) : Nat := if 0 ≤ n then v * 2 ^ n.toNat else v / 2 ^ (-n).toNat
def i64ok (n : Int) : Prop := -9223372036854775808 ≤ n ∧ n ≤ 9223372036854775807
def sp121 : Go.Vg.Spec := ⟨fun ds => ∃ x y b, ds = [u64n x, u64n y, u64n b] ∧ x < B64 ∧ y < B64 ∧ b ≤ 1,
 fun ds => .tup [u64n (sbd (nn (ds.headD default)) (nn (ds.getD 1 default)) (nn (ds.getD 2 default))), u64n (sbb (nn (ds.headD default)) (nn (ds.getD 1 default)) (nn (ds.getD 2 default)))], true, [73, 73, 73]⟩
def sp93 : Go.Vg.Spec := ⟨fun ds => ∃ l m, ds = [num4 l, num4 m] ∧ (okw l ∧ l.length = 4) ∧ okw m ∧ m.length = 4,
 fun ds => .tup [num4 (nB 18446744073709551616 4 (dif (wv (arrOf (ds.headD default))) (wv (arrOf (ds.getD 1 default))))), u64n (bor (wv (arrOf (ds.headD default))) (wv (arrOf (ds.getD 1 default))))], true, [75, 75]⟩
def sp98 : Go.Vg.Spec := ⟨fun ds => ∃ l m, ds = [num4 l, num4 m] ∧ (okw l ∧ l.length = 4) ∧ okw m ∧ m.length = 4, fun ds => i64 (cmpN (wv (arrOf (ds.headD default))) (wv (arrOf (ds.getD 1 default)))), true, [75, 75]⟩
def sp96 : Go.Vg.Spec := ⟨fun ds => ∃ l n, ds = [num4 l, i64 n] ∧ (okw l ∧ l.length = 4) ∧ i64ok n, fun ds => num4 (nB 18446744073709551616 4 (shf (wv (arrOf (ds.headD default))) (numOf (ds.getD 1 default)))), true, [75, 3]⟩
def c93 : Ctx := ⟨tab, lkS [(121, sp121)], [], []⟩
def subL (l m : List Int) (i : Nat) : List Int := nB 18446744073709551616 i ((vB 18446744073709551616 (l.take i) + 18446744073709551616 ^ i - vB 18446744073709551616 (m.take i)) % 18446744073709551616 ^ i) ++ l.drop i
def inv93 (l m : List Int) : Nat → Option Inv
 | 3 => some ⟨Nat, fun i => [(8, .d (i64 i)), (6, .d (u64n (bor (vB 18446744073709551616 (l.take i)) (vB 18446744073709551616 (m.take i)))))], fun i => [(2, .fix (num4 (subL l m i)))], fun s => (slotN s 8).toNat, fun _ i => i ≤ 4, fun i => 4 - i⟩
 | _ => none
def inv98 (l m : List Int) : Nat → Option Inv
 | 2 => some ⟨Int, fun i => [(5, .d (i64 i))], fun _ => [], fun s => slotN s 5, fun _ i => (-1 ≤ i ∧ i ≤ 3) ∧ l.drop (i + 1).toNat = m.drop (i + 1).toNat, fun i => (i + 1).toNat⟩
 | _ => none
def inv96 (l : List Int) (n : Int) : Nat → Option Inv
 | 13 => some ⟨Nat, fun i => [(8, .d (i64 i))], fun i => [(5, .fix (num4 (nB 18446744073709551616 i (shf (wv l) n) ++ List.replicate (4 - i) 0)))], fun s => (slotN s 8).toNat, fun _ i => n.toNat / 64 ≤ i ∧ i ≤ 4, fun i => 4 - i⟩
 | 4 => some ⟨Nat, fun i => [(11, .d (i64 i))], fun i => [(5, .fix (num4 (nB 18446744073709551616 (i - (-n).toNat / 64) (shf (wv l) n) ++ List.replicate (4 - (i - (-n).toNat / 64)) 0)))], fun s => (slotN s 11).toNat, fun _ i => (-n).toNat / 64 ≤ i ∧ i ≤ 4, fun i => 4 - i⟩
 | _ => none
set_option maxRecDepth 100000 in
theorem vc93  (l m : List Int) (F : D)  :
    (owed c93 (inv93 l m) Tryd.f93 [num4 l, num4 m] F) = (
 (True ∧ false = false) ∧ (True ∧ false = false) ∧ (True ∧ 4 ≠ 0) ∧ True ∧ True ∧ True ∧ (((AV.d (D.val (.int .i64 0)) = AV.d (D.val (.int .i64 (↑(Int.toNat (0 : Int)) : Int))) ∧ AV.d (D.val (.int .u64 0)) = AV.d (D.val (.int .u64 (↑(bor (vB 18446744073709551616 (List.take (Int.toNat (0 : Int)) l)) (vB 18446744073709551616 (List.take (Int.toNat (0 : Int)) m))) : Int))) ∧ True) ∧ (some (Blk.fix (D.arr .u64 4 l)) = some (Blk.fix (D.arr .u64 4 (subL l m (Int.toNat (0 : Int))))) ∧ sm (some (Blk.fix (D.arr .u64 4 m))) ∧ sm (some (Blk.fix (D.arr .u64 4 [(0 : Int), (0 : Int), (0 : Int), (0 : Int)]))) ∧ True) ∧ true = true) ∧ Int.toNat (0 : Int) ≤ 4) ∧ ∀ (x : Nat), x ≤ 4 → true = true ∧ True ∧ match decide ((↑x : Int) < (4 : Int)) with
 | true => True ∧ True ∧ True ∧ True ∧ ((0 : Int) ≤ (↑x : Int) ∧ (↑x : Int) < (↑(4 : Nat) : Int) ∧ 4 = 4 ∧ 1 = 1) ∧ (1 ≠ 0 ∧ 1 = 1 ∧ false = false) ∧ True ∧ ((0 : Int) ≤ (↑x : Int) ∧ (↑x : Int) < (↑(4 : Nat) : Int) ∧ 4 = 4 ∧ 1 = 1) ∧ (1 ≠ 0 ∧ 1 = 1 ∧ false = false) ∧ True ∧ (∃ (x_1 : Nat), ∃ (y : Nat), ∃ (b : Nat), [D.val (.int .u64 ((subL l m x).getD (↑x : Int).toNat (0 : Int))), D.val (.int .u64 (m.getD (↑x : Int).toNat (0 : Int))), D.val (.int .u64 (↑(bor (vB 18446744073709551616 (List.take x l)) (vB 18446744073709551616 (List.take x m))) : Int))] = [D.val (.int .u64 (↑x_1 : Int)), D.val (.int .u64 (↑y : Int)), D.val (.int .u64 (↑b : Int))] ∧ x_1 < 18446744073709551616 ∧ y < 18446744073709551616 ∧ b ≤ 1) ∧ True ∧ (0 < 2 ∧ false = false) ∧ (1 < 2 ∧ false = false) ∧ ((0 : Int) ≤ (↑x : Int) ∧ (↑x : Int) < (↑(4 : Nat) : Int) ∧ 4 = 4 ∧ 1 = 1) ∧ (((↑x : Int).toNat < 4 ∧ ([] : List Nat) = [] ∧ true = true) ∧ 1 ≠ 0 ∧ 1 = 1 ∧ false = false) ∧ True ∧ True ∧ True ∧ ((AV.d (D.val (.int .i64 (IntKind.i64.wrap ((↑x : Int) + (1 : Int))))) = AV.d (D.val (.int .i64 (↑(IntKind.i64.wrap ((↑x : Int) + (1 : Int))).toNat : Int))) ∧ AV.d (D.val (.int .u64 (↑(sbb ((subL l m x).getD (↑x : Int).toNat (0 : Int)).toNat (m.getD (↑x : Int).toNat (0 : Int)).toNat (↑(bor (vB 18446744073709551616 (List.take x l)) (vB 18446744073709551616 (List.take x m))) : Int).toNat) : Int))) = AV.d (D.val (.int .u64 (↑(bor (vB 18446744073709551616 (List.take (IntKind.i64.wrap ((↑x : Int) + (1 : Int))).toNat l)) (vB 18446744073709551616 (List.take (IntKind.i64.wrap ((↑x : Int) + (1 : Int))).toNat m))) : Int))) ∧ True) ∧ (some (Blk.fix (D.arr .u64 4 ((subL l m x).set (↑x : Int).toNat (↑(sbd ((subL l m x).getD (↑x : Int).toNat (0 : Int)).toNat (m.getD (↑x : Int).toNat (0 : Int)).toNat (↑(bor (vB 18446744073709551616 (List.take x l)) (vB 18446744073709551616 (List.take x m))) : Int).toNat) : Int)))) = some (Blk.fix (D.arr .u64 4 (subL l m (IntKind.i64.wrap ((↑x : Int) + (1 : Int))).toNat))) ∧ sm (some (Blk.fix (D.arr .u64 4 m))) ∧ sm (some (Blk.fix (D.arr .u64 4 [(0 : Int), (0 : Int), (0 : Int), (0 : Int)]))) ∧ True) ∧ true = true) ∧ (IntKind.i64.wrap ((↑x : Int) + (1 : Int))).toNat ≤ 4 ∧ 4 - (IntKind.i64.wrap ((↑x : Int) + (1 : Int))).toNat < 4 - x
 | false => (4 ≠ 0 ∧ 4 = 4 ∧ true = true) ∧ True ∧ (Sk.arr 4 = Sk.arr 4 ∧ 4 ≠ 0 ∧ 4 = 4 ∧ false = false) ∧ True ∧ ((4 ≠ 0 ∧ 4 = 4 ∧ true = true) ∧ false = false ∧ True) ∧ D.tup [D.arr .u64 4 (subL l m x), D.val (.int .u64 (↑(bor (vB 18446744073709551616 (List.take x l)) (vB 18446744073709551616 (List.take x m))) : Int))] = F) := by kernel_rfl
set_option maxRecDepth 100000 in
theorem vc98  (l m : List Int) (F : D)  :
    (owed c105 (inv98 l m) Tryd.f98 [num4 l, num4 m] F) = (
 (True ∧ false = false) ∧ (True ∧ false = false) ∧ True ∧ True ∧ (((sm (AV.d (D.val (.int .i64 3))) ∧ True) ∧ (sm (some (Blk.fix (D.arr .u64 4 l))) ∧ sm (some (Blk.fix (D.arr .u64 4 m))) ∧ True) ∧ true = true) ∧ ((-1 : Int) ≤ (3 : Int) ∧ (3 : Int) ≤ 3) ∧ List.drop ((3 : Int) + (1 : Int)).toNat l = List.drop ((3 : Int) + (1 : Int)).toNat m) ∧ ∀ (x : Int), ((-1 : Int) ≤ x ∧ x ≤ (3 : Int)) ∧ List.drop (x + (1 : Int)).toNat l = List.drop (x + (1 : Int)).toNat m → true = true ∧ True ∧ True ∧ match decide (x ≥ (0 : Int)) with
 | true => True ∧ ((0 : Int) ≤ x ∧ x < (↑(4 : Nat) : Int) ∧ 4 = 4 ∧ 1 = 1) ∧ (1 ≠ 0 ∧ 1 = 1 ∧ false = false) ∧ True ∧ ((0 : Int) ≤ x ∧ x < (↑(4 : Nat) : Int) ∧ 4 = 4 ∧ 1 = 1) ∧ (1 ≠ 0 ∧ 1 = 1 ∧ false = false) ∧ True ∧ True ∧ match decide (l.getD x.toNat (0 : Int) < m.getD x.toNat (0 : Int)) with
  | true => True ∧ (false = false ∧ True) ∧ D.val (.int .i64 (-1 : Int)) = F
  | false => True ∧ ((0 : Int) ≤ x ∧ x < (↑(4 : Nat) : Int) ∧ 4 = 4 ∧ 1 = 1) ∧ (1 ≠ 0 ∧ 1 = 1 ∧ false = false) ∧ True ∧ ((0 : Int) ≤ x ∧ x < (↑(4 : Nat) : Int) ∧ 4 = 4 ∧ 1 = 1) ∧ (1 ≠ 0 ∧ 1 = 1 ∧ false = false) ∧ True ∧ True ∧ match decide (l.getD x.toNat (0 : Int) > m.getD x.toNat (0 : Int)) with
   | true => True ∧ (false = false ∧ True) ∧ D.val (.int .i64 1) = F
   | false => True ∧ True ∧ True ∧ ((sm (AV.d (D.val (.int .i64 (IntKind.i64.wrap (x - (1 : Int)))))) ∧ True) ∧ (sm (some (Blk.fix (D.arr .u64 4 l))) ∧ sm (some (Blk.fix (D.arr .u64 4 m))) ∧ True) ∧ true = true) ∧ (((-1 : Int) ≤ IntKind.i64.wrap (x - (1 : Int)) ∧ IntKind.i64.wrap (x - (1 : Int)) ≤ (3 : Int)) ∧ List.drop (IntKind.i64.wrap (x - (1 : Int)) + (1 : Int)).toNat l = List.drop (IntKind.i64.wrap (x - (1 : Int)) + (1 : Int)).toNat m) ∧ (IntKind.i64.wrap (x - (1 : Int)) + (1 : Int)).toNat < (x + (1 : Int)).toNat
 | false => True ∧ (false = false ∧ True) ∧ D.val (.int .i64 0) = F) := by kernel_rfl
set_option maxRecDepth 100000 in
theorem vc96  (l : List Int) (n : Int) (F : D)  :
    (owed c105 (inv96 l n) Tryd.f96 [num4 l, i64 n] F) = (
 (True ∧ false = false) ∧ (True ∧ 4 ≠ 0) ∧ (True ∧ 4 ≠ 0) ∧ True ∧ True ∧ True ∧ match decide (n > (255 : Int)) with
 | true => True ∧ True ∧ (4 ≠ 0 ∧ 4 = 4 ∧ true = true) ∧ (Sk.arr 4 = Sk.arr 4 ∧ 4 ≠ 0 ∧ 4 = 4 ∧ false = false) ∧ ((4 ≠ 0 ∧ 4 = 4 ∧ true = true) ∧ True) ∧ D.arr .u64 4 [(0 : Int), (0 : Int), (0 : Int), (0 : Int)] = F
 | false => True ∧ True ∧ True ∧ True ∧ match decide (n < (-255 : Int)) with
  | true => (4 ≠ 0 ∧ 4 = 4 ∧ true = true) ∧ (Sk.arr 4 = Sk.arr 4 ∧ 4 ≠ 0 ∧ 4 = 4 ∧ false = false) ∧ ((4 ≠ 0 ∧ 4 = 4 ∧ true = true) ∧ True) ∧ D.arr .u64 4 [(0 : Int), (0 : Int), (0 : Int), (0 : Int)] = F
  | false => True ∧ True ∧ True ∧ match decide (n ≥ (0 : Int)) with
   | true => True ∧ (64 : Int) ≠ 0 ∧ True ∧ (64 : Int) ≠ 0 ∧ True ∧ True ∧ True ∧ True ∧ True ∧ (((AV.d (D.val (.int .i64 (IntKind.i64.wrap (n.tdiv (64 : Int))))) = AV.d (D.val (.int .i64 (↑(IntKind.i64.wrap (n.tdiv (64 : Int))).toNat : Int))) ∧ True) ∧ (sm (some (Blk.fix (D.arr .u64 4 l))) ∧ sm (some (Blk.fix (D.arr .u64 4 [(0 : Int), (0 : Int), (0 : Int), (0 : Int)]))) ∧ some (Blk.fix (D.arr .u64 4 [(0 : Int), (0 : Int), (0 : Int), (0 : Int)])) = some (Blk.fix (D.arr .u64 4 (nB 18446744073709551616 (IntKind.i64.wrap (n.tdiv (64 : Int))).toNat (shf (vB 18446744073709551616 l) n) ++ List.replicate (4 - (IntKind.i64.wrap (n.tdiv (64 : Int))).toNat) (0 : Int)))) ∧ True) ∧ true = true) ∧ n.toNat / 64 ≤ (IntKind.i64.wrap (n.tdiv (64 : Int))).toNat ∧ (IntKind.i64.wrap (n.tdiv (64 : Int))).toNat ≤ 4) ∧ ∀ (x : Nat), n.toNat / 64 ≤ x ∧ x ≤ 4 → true = true ∧ True ∧ True ∧ match decide ((↑x : Int) < (4 : Int)) with
    | true => True ∧ True ∧ True ∧ True ∧ ((0 : Int) ≤ IntKind.i64.wrap ((↑x : Int) - IntKind.i64.wrap (n.tdiv (64 : Int))) ∧ IntKind.i64.wrap ((↑x : Int) - IntKind.i64.wrap (n.tdiv (64 : Int))) < (↑(4 : Nat) : Int) ∧ 4 = 4 ∧ 1 = 1) ∧ (1 ≠ 0 ∧ 1 = 1 ∧ false = false) ∧ True ∧ (0 : Int) ≤ IntKind.u64.wrap (n.tmod (64 : Int)) ∧ ((0 : Int) ≤ (↑x : Int) ∧ (↑x : Int) < (↑(4 : Nat) : Int) ∧ 4 = 4 ∧ 1 = 1) ∧ (((↑x : Int).toNat < 4 ∧ ([] : List Nat) = [] ∧ true = true) ∧ 1 ≠ 0 ∧ 1 = 1 ∧ false = false) ∧ True ∧ True ∧ True ∧ match decide ((↑x : Int) > IntKind.i64.wrap (n.tdiv (64 : Int))) with
     | true => True ∧ ((0 : Int) ≤ (↑x : Int) ∧ (↑x : Int) < (↑(4 : Nat) : Int) ∧ 4 = 4 ∧ 1 = 1) ∧ (1 ≠ 0 ∧ 1 = 1 ∧ false = false) ∧ True ∧ True ∧ True ∧ True ∧ ((0 : Int) ≤ IntKind.i64.wrap (IntKind.i64.wrap ((↑x : Int) - IntKind.i64.wrap (n.tdiv (64 : Int))) - (1 : Int)) ∧ IntKind.i64.wrap (IntKind.i64.wrap ((↑x : Int) - IntKind.i64.wrap (n.tdiv (64 : Int))) - (1 : Int)) < (↑(4 : Nat) : Int) ∧ 4 = 4 ∧ 1 = 1) ∧ (1 ≠ 0 ∧ 1 = 1 ∧ false = false) ∧ True ∧ True ∧ (0 : Int) ≤ IntKind.u64.wrap ((64 : Int) - IntKind.u64.wrap (n.tmod (64 : Int))) ∧ True ∧ ((0 : Int) ≤ (↑x : Int) ∧ (↑x : Int) < (↑(4 : Nat) : Int) ∧ 4 = 4 ∧ 1 = 1) ∧ (((↑x : Int).toNat < 4 ∧ ([] : List Nat) = [] ∧ true = true) ∧ 1 ≠ 0 ∧ 1 = 1 ∧ false = false) ∧ True ∧ True ∧ True ∧ ((AV.d (D.val (.int .i64 (IntKind.i64.wrap ((↑x : Int) + (1 : Int))))) = AV.d (D.val (.int .i64 (↑(IntKind.i64.wrap ((↑x : Int) + (1 : Int))).toNat : Int))) ∧ True) ∧ (sm (some (Blk.fix (D.arr .u64 4 l))) ∧ sm (some (Blk.fix (D.arr .u64 4 [(0 : Int), (0 : Int), (0 : Int), (0 : Int)]))) ∧ some (Blk.fix (D.arr .u64 4 (((nB 18446744073709551616 x (shf (vB 18446744073709551616 l) n) ++ List.replicate (4 - x) (0 : Int)).set (↑x : Int).toNat (ishl IntKind.u64 (l.getD (IntKind.i64.wrap ((↑x : Int) - IntKind.i64.wrap (n.tdiv (64 : Int)))).toNat (0 : Int)) (IntKind.u64.wrap (n.tmod (64 : Int))))).set (↑x : Int).toNat (ior IntKind.u64 (((nB 18446744073709551616 x (shf (vB 18446744073709551616 l) n) ++ List.replicate (4 - x) (0 : Int)).set (↑x : Int).toNat (ishl IntKind.u64 (l.getD (IntKind.i64.wrap ((↑x : Int) - IntKind.i64.wrap (n.tdiv (64 : Int)))).toNat (0 : Int)) (IntKind.u64.wrap (n.tmod (64 : Int))))).getD (↑x : Int).toNat (0 : Int)) (ishr IntKind.u64 (l.getD (IntKind.i64.wrap (IntKind.i64.wrap ((↑x : Int) - IntKind.i64.wrap (n.tdiv (64 : Int))) - (1 : Int))).toNat (0 : Int)) (IntKind.u64.wrap ((64 : Int) - IntKind.u64.wrap (n.tmod (64 : Int))))))))) = some (Blk.fix (D.arr .u64 4 (nB 18446744073709551616 (IntKind.i64.wrap ((↑x : Int) + (1 : Int))).toNat (shf (vB 18446744073709551616 l) n) ++ List.replicate (4 - (IntKind.i64.wrap ((↑x : Int) + (1 : Int))).toNat) (0 : Int)))) ∧ True) ∧ true = true) ∧ (n.toNat / 64 ≤ (IntKind.i64.wrap ((↑x : Int) + (1 : Int))).toNat ∧ (IntKind.i64.wrap ((↑x : Int) + (1 : Int))).toNat ≤ 4) ∧ 4 - (IntKind.i64.wrap ((↑x : Int) + (1 : Int))).toNat < 4 - x
     | false => True ∧ True ∧ True ∧ ((AV.d (D.val (.int .i64 (IntKind.i64.wrap ((↑x : Int) + (1 : Int))))) = AV.d (D.val (.int .i64 (↑(IntKind.i64.wrap ((↑x : Int) + (1 : Int))).toNat : Int))) ∧ True) ∧ (sm (some (Blk.fix (D.arr .u64 4 l))) ∧ sm (some (Blk.fix (D.arr .u64 4 [(0 : Int), (0 : Int), (0 : Int), (0 : Int)]))) ∧ some (Blk.fix (D.arr .u64 4 ((nB 18446744073709551616 x (shf (vB 18446744073709551616 l) n) ++ List.replicate (4 - x) (0 : Int)).set (↑x : Int).toNat (ishl IntKind.u64 (l.getD (IntKind.i64.wrap ((↑x : Int) - IntKind.i64.wrap (n.tdiv (64 : Int)))).toNat (0 : Int)) (IntKind.u64.wrap (n.tmod (64 : Int))))))) = some (Blk.fix (D.arr .u64 4 (nB 18446744073709551616 (IntKind.i64.wrap ((↑x : Int) + (1 : Int))).toNat (shf (vB 18446744073709551616 l) n) ++ List.replicate (4 - (IntKind.i64.wrap ((↑x : Int) + (1 : Int))).toNat) (0 : Int)))) ∧ True) ∧ true = true) ∧ (n.toNat / 64 ≤ (IntKind.i64.wrap ((↑x : Int) + (1 : Int))).toNat ∧ (IntKind.i64.wrap ((↑x : Int) + (1 : Int))).toNat ≤ 4) ∧ 4 - (IntKind.i64.wrap ((↑x : Int) + (1 : Int))).toNat < 4 - x
    | false => (4 ≠ 0 ∧ 4 = 4 ∧ true = true) ∧ (Sk.arr 4 = Sk.arr 4 ∧ 4 ≠ 0 ∧ 4 = 4 ∧ false = false) ∧ ((4 ≠ 0 ∧ 4 = 4 ∧ true = true) ∧ True) ∧ D.arr .u64 4 (nB 18446744073709551616 x (shf (vB 18446744073709551616 l) n) ++ List.replicate (4 - x) (0 : Int)) = F
   | false => True ∧ True ∧ (64 : Int) ≠ 0 ∧ True ∧ True ∧ (64 : Int) ≠ 0 ∧ True ∧ True ∧ True ∧ True ∧ True ∧ (((AV.d (D.val (.int .i64 (IntKind.i64.wrap ((IntKind.i64.wrap ((0 : Int) - n)).tdiv (64 : Int))))) = AV.d (D.val (.int .i64 (↑(IntKind.i64.wrap ((IntKind.i64.wrap ((0 : Int) - n)).tdiv (64 : Int))).toNat : Int))) ∧ True) ∧ (sm (some (Blk.fix (D.arr .u64 4 l))) ∧ sm (some (Blk.fix (D.arr .u64 4 [(0 : Int), (0 : Int), (0 : Int), (0 : Int)]))) ∧ some (Blk.fix (D.arr .u64 4 [(0 : Int), (0 : Int), (0 : Int), (0 : Int)])) = some (Blk.fix (D.arr .u64 4 (nB 18446744073709551616 ((IntKind.i64.wrap ((IntKind.i64.wrap ((0 : Int) - n)).tdiv (64 : Int))).toNat - (-n).toNat / 64) (shf (vB 18446744073709551616 l) n) ++ List.replicate (4 - ((IntKind.i64.wrap ((IntKind.i64.wrap ((0 : Int) - n)).tdiv (64 : Int))).toNat - (-n).toNat / 64)) (0 : Int)))) ∧ True) ∧ true = true) ∧ (-n).toNat / 64 ≤ (IntKind.i64.wrap ((IntKind.i64.wrap ((0 : Int) - n)).tdiv (64 : Int))).toNat ∧ (IntKind.i64.wrap ((IntKind.i64.wrap ((0 : Int) - n)).tdiv (64 : Int))).toNat ≤ 4) ∧ ∀ (x : Nat), (-n).toNat / 64 ≤ x ∧ x ≤ 4 → true = true ∧ True ∧ True ∧ match decide ((↑x : Int) < (4 : Int)) with
    | true => True ∧ True ∧ True ∧ True ∧ ((0 : Int) ≤ (↑x : Int) ∧ (↑x : Int) < (↑(4 : Nat) : Int) ∧ 4 = 4 ∧ 1 = 1) ∧ (1 ≠ 0 ∧ 1 = 1 ∧ false = false) ∧ True ∧ (0 : Int) ≤ IntKind.u64.wrap ((IntKind.i64.wrap ((0 : Int) - n)).tmod (64 : Int)) ∧ ((0 : Int) ≤ IntKind.i64.wrap ((↑x : Int) - IntKind.i64.wrap ((IntKind.i64.wrap ((0 : Int) - n)).tdiv (64 : Int))) ∧ IntKind.i64.wrap ((↑x : Int) - IntKind.i64.wrap ((IntKind.i64.wrap ((0 : Int) - n)).tdiv (64 : Int))) < (↑(4 : Nat) : Int) ∧ 4 = 4 ∧ 1 = 1) ∧ (((IntKind.i64.wrap ((↑x : Int) - IntKind.i64.wrap ((IntKind.i64.wrap ((0 : Int) - n)).tdiv (64 : Int)))).toNat < 4 ∧ ([] : List Nat) = [] ∧ true = true) ∧ 1 ≠ 0 ∧ 1 = 1 ∧ false = false) ∧ True ∧ True ∧ match decide ((↑x : Int) < (3 : Int)) with
     | true => True ∧ True ∧ True ∧ ((0 : Int) ≤ IntKind.i64.wrap ((↑x : Int) - IntKind.i64.wrap ((IntKind.i64.wrap ((0 : Int) - n)).tdiv (64 : Int))) ∧ IntKind.i64.wrap ((↑x : Int) - IntKind.i64.wrap ((IntKind.i64.wrap ((0 : Int) - n)).tdiv (64 : Int))) < (↑(4 : Nat) : Int) ∧ 4 = 4 ∧ 1 = 1) ∧ (1 ≠ 0 ∧ 1 = 1 ∧ false = false) ∧ True ∧ True ∧ ((0 : Int) ≤ IntKind.i64.wrap ((↑x : Int) + (1 : Int)) ∧ IntKind.i64.wrap ((↑x : Int) + (1 : Int)) < (↑(4 : Nat) : Int) ∧ 4 = 4 ∧ 1 = 1) ∧ (1 ≠ 0 ∧ 1 = 1 ∧ false = false) ∧ True ∧ True ∧ (0 : Int) ≤ IntKind.u64.wrap ((64 : Int) - IntKind.u64.wrap ((IntKind.i64.wrap ((0 : Int) - n)).tmod (64 : Int))) ∧ True ∧ ((0 : Int) ≤ IntKind.i64.wrap ((↑x : Int) - IntKind.i64.wrap ((IntKind.i64.wrap ((0 : Int) - n)).tdiv (64 : Int))) ∧ IntKind.i64.wrap ((↑x : Int) - IntKind.i64.wrap ((IntKind.i64.wrap ((0 : Int) - n)).tdiv (64 : Int))) < (↑(4 : Nat) : Int) ∧ 4 = 4 ∧ 1 = 1) ∧ (((IntKind.i64.wrap ((↑x : Int) - IntKind.i64.wrap ((IntKind.i64.wrap ((0 : Int) - n)).tdiv (64 : Int)))).toNat < 4 ∧ ([] : List Nat) = [] ∧ true = true) ∧ 1 ≠ 0 ∧ 1 = 1 ∧ false = false) ∧ True ∧ True ∧ True ∧ ((AV.d (D.val (.int .i64 (IntKind.i64.wrap ((↑x : Int) + (1 : Int))))) = AV.d (D.val (.int .i64 (↑(IntKind.i64.wrap ((↑x : Int) + (1 : Int))).toNat : Int))) ∧ True) ∧ (sm (some (Blk.fix (D.arr .u64 4 l))) ∧ sm (some (Blk.fix (D.arr .u64 4 [(0 : Int), (0 : Int), (0 : Int), (0 : Int)]))) ∧ some (Blk.fix (D.arr .u64 4 (((nB 18446744073709551616 (x - (-n).toNat / 64) (shf (vB 18446744073709551616 l) n) ++ List.replicate (4 - (x - (-n).toNat / 64)) (0 : Int)).set (IntKind.i64.wrap ((↑x : Int) - IntKind.i64.wrap ((IntKind.i64.wrap ((0 : Int) - n)).tdiv (64 : Int)))).toNat (ishr IntKind.u64 (l.getD (↑x : Int).toNat (0 : Int)) (IntKind.u64.wrap ((IntKind.i64.wrap ((0 : Int) - n)).tmod (64 : Int))))).set (IntKind.i64.wrap ((↑x : Int) - IntKind.i64.wrap ((IntKind.i64.wrap ((0 : Int) - n)).tdiv (64 : Int)))).toNat (ior IntKind.u64 (((nB 18446744073709551616 (x - (-n).toNat / 64) (shf (vB 18446744073709551616 l) n) ++ List.replicate (4 - (x - (-n).toNat / 64)) (0 : Int)).set (IntKind.i64.wrap ((↑x : Int) - IntKind.i64.wrap ((IntKind.i64.wrap ((0 : Int) - n)).tdiv (64 : Int)))).toNat (ishr IntKind.u64 (l.getD (↑x : Int).toNat (0 : Int)) (IntKind.u64.wrap ((IntKind.i64.wrap ((0 : Int) - n)).tmod (64 : Int))))).getD (IntKind.i64.wrap ((↑x : Int) - IntKind.i64.wrap ((IntKind.i64.wrap ((0 : Int) - n)).tdiv (64 : Int)))).toNat (0 : Int)) (ishl IntKind.u64 (l.getD (IntKind.i64.wrap ((↑x : Int) + (1 : Int))).toNat (0 : Int)) (IntKind.u64.wrap ((64 : Int) - IntKind.u64.wrap ((IntKind.i64.wrap ((0 : Int) - n)).tmod (64 : Int))))))))) = some (Blk.fix (D.arr .u64 4 (nB 18446744073709551616 ((IntKind.i64.wrap ((↑x : Int) + (1 : Int))).toNat - (-n).toNat / 64) (shf (vB 18446744073709551616 l) n) ++ List.replicate (4 - ((IntKind.i64.wrap ((↑x : Int) + (1 : Int))).toNat - (-n).toNat / 64)) (0 : Int)))) ∧ True) ∧ true = true) ∧ ((-n).toNat / 64 ≤ (IntKind.i64.wrap ((↑x : Int) + (1 : Int))).toNat ∧ (IntKind.i64.wrap ((↑x : Int) + (1 : Int))).toNat ≤ 4) ∧ 4 - (IntKind.i64.wrap ((↑x : Int) + (1 : Int))).toNat < 4 - x
     | false => True ∧ True ∧ True ∧ ((AV.d (D.val (.int .i64 (IntKind.i64.wrap ((↑x : Int) + (1 : Int))))) = AV.d (D.val (.int .i64 (↑(IntKind.i64.wrap ((↑x : Int) + (1 : Int))).toNat : Int))) ∧ True) ∧ (sm (some (Blk.fix (D.arr .u64 4 l))) ∧ sm (some (Blk.fix (D.arr .u64 4 [(0 : Int), (0 : Int), (0 : Int), (0 : Int)]))) ∧ some (Blk.fix (D.arr .u64 4 ((nB 18446744073709551616 (x - (-n).toNat / 64) (shf (vB 18446744073709551616 l) n) ++ List.replicate (4 - (x - (-n).toNat / 64)) (0 : Int)).set (IntKind.i64.wrap ((↑x : Int) - IntKind.i64.wrap ((IntKind.i64.wrap ((0 : Int) - n)).tdiv (64 : Int)))).toNat (ishr IntKind.u64 (l.getD (↑x : Int).toNat (0 : Int)) (IntKind.u64.wrap ((IntKind.i64.wrap ((0 : Int) - n)).tmod (64 : Int))))))) = some (Blk.fix (D.arr .u64 4 (nB 18446744073709551616 ((IntKind.i64.wrap ((↑x : Int) + (1 : Int))).toNat - (-n).toNat / 64) (shf (vB 18446744073709551616 l) n) ++ List.replicate (4 - ((IntKind.i64.wrap ((↑x : Int) + (1 : Int))).toNat - (-n).toNat / 64)) (0 : Int)))) ∧ True) ∧ true = true) ∧ ((-n).toNat / 64 ≤ (IntKind.i64.wrap ((↑x : Int) + (1 : Int))).toNat ∧ (IntKind.i64.wrap ((↑x : Int) + (1 : Int))).toNat ≤ 4) ∧ 4 - (IntKind.i64.wrap ((↑x : Int) + (1 : Int))).toNat < 4 - x
    | false => (4 ≠ 0 ∧ 4 = 4 ∧ true = true) ∧ (Sk.arr 4 = Sk.arr 4 ∧ 4 ≠ 0 ∧ 4 = 4 ∧ false = false) ∧ ((4 ≠ 0 ∧ 4 = 4 ∧ true = true) ∧ True) ∧ D.arr .u64 4 (nB 18446744073709551616 (x - (-n).toNat / 64) (shf (vB 18446744073709551616 l) n) ++ List.replicate (4 - (x - (-n).toNat / 64)) (0 : Int)) = F) := by kernel_rfl
theorem m121 : Meets Tryd.prog 121 sp121 := by
 refine meets_extern Tryd.func121 (by kernel_rfl) (by kernel_rfl) (by kernel_rfl) (e := (Go.Extern.MathBitsCarry.rows.getD 1 ("", fun _ => default)).2) (by kernel_rfl) ?_
 rintro _ ⟨x, y, b, rfl, hx, hy, hb⟩
 refine ⟨rfl, fun X w vs h => ?_⟩
 obtain ⟨v1, v2, v3, rfl, h1, h2, h3⟩ := all2_3 h
 obtain rfl := vr_num h1
 obtain rfl := vr_num h2
 obtain rfl := vr_num h3
 refine ⟨_, ?_, pair_vr w X .u64 .u64 ((sbd x y b : Nat) : Int) ((sbb x y b : Nat) : Int)⟩
 obtain rfl | rfl : b = 0 ∨ b = 1 := by omega
 ·rfl
 ·rfl
end Go.Proofs.YtkicjckhkefnpaaDoor
namespace Go.Proofs.YtkicjckhkefnpaaDoor
open Go Go.Vg
theorem sbd_spec (x y b : Nat) (hx : x < B64) (hy : y < B64) (hb : b ≤ 1) : (sbd x y b < B64) ∧ ((y + b ≤ x ∧ sbd x y b + y + b = x ∧ sbb x y b = 0) ∨ (x < y + b ∧ sbd x y b + y + b = x + B64 ∧ sbb x y b = 1)) := by
 unfold sbd sbb
 refine ⟨Nat.mod_lt _ (by decide), ?_⟩
 rcases Nat.lt_or_ge x (y + b) with h | h
 ·right
  refine ⟨h, ?_, if_pos h⟩
  rw [Nat.mod_eq_of_lt (by omega)]
  omega
 ·left
  refine ⟨h, ?_, if_neg (by omega)⟩
  rw [show x + B64 - y - b = (x - y - b) + B64 by omega, Nat.add_mod_right, Nat.mod_eq_of_lt (by omega)]
  omega
theorem mod_one (X Y M : Nat) (h : X = Y ∨ X = Y + M) (hy : Y < M) : X % M = Y := by
 rcases h with rfl | rfl
 ·exact Nat.mod_eq_of_lt hy
 ·rw [Nat.add_mod_right, Nat.mod_eq_of_lt hy]
theorem sub_num (P A C x y : Nat) (hA : A < P) (hC : C < P) (hx : x < B64) (hy : y < B64) :
  (A + P * x + P * B64 - (C + P * y)) % (P * B64) = (A + P - C) % P + P * sbd x y (bor A C) ∧ bor (A + P * x) (C + P * y) = sbb x y (bor A C) := by
 have hb : bor A C ≤ 1 := by unfold bor; split <;> omega
 have hAC : (A < C ∧ bor A C = 1 ∧ (A + P - C) % P = A + P - C) ∨ (C ≤ A ∧ bor A C = 0 ∧ (A + P - C) % P = A - C) := by
  rcases Nat.lt_or_ge A C with h | h
  ·exact .inl ⟨h, if_pos h, Nat.mod_eq_of_lt (by omega)⟩
  ·exact .inr ⟨h, if_neg (by omega), mod_one _ _ _ (.inr (by omega)) (by omega)⟩
 obtain ⟨hd, hcase⟩ := sbd_spec x y (bor A C) hx hy hb
 generalize bor A C = b at hb hAC hd hcase ⊢
 generalize sbd x y b = d at hd hcase ⊢
 generalize sbb x y b = e at hcase ⊢
 have m1 : P * (d + 1) ≤ P * B64 := Nat.mul_le_mul_left P hd
 rw [Nat.mul_add, Nat.mul_one] at m1
 have hr : (A + P - C) % P < P := Nat.mod_lt _ (by omega)
 have lin : ∀ u v : Nat, u = v → P * u = P * v := fun u v h => by rw [h]
 have fin : ∀ s t : Nat, (s < t ↔ e = 1) → (e = 0 ∨ e = 1) → bor s t = e := by
  intro s t h1 h2
  unfold bor
  split
  ·rename_i h; exact (h1.1 h).symm
  ·rename_i h; rcases h2 with h2 | h2
   ·exact h2.symm
   ·exact absurd (h1.2 h2) h
 rcases hAC with ⟨h1, h2, h3⟩ | ⟨h1, h2, h3⟩ <;> rcases hcase with ⟨c1, c2, c3xx⟩ | ⟨c1, c2, c3xx⟩
 all_goals
  have q := lin _ _ c2
  subst h2
  simp only [Nat.mul_add, Nat.mul_one, Nat.mul_zero, Nat.add_zero] at q
  rw [h3] at hr ⊢
  have hB : P ≤ P * B64 := Nat.le_mul_of_pos_right P (by decide)
  generalize P * B64 = PB at *
  generalize P * x = Px at *
  generalize P * y = Py at *
  generalize P * d = Pd at *
  refine ⟨mod_one _ _ _ (by omega) (by omega), fin _ _ (by omega) (by omega)⟩
theorem okw_get {l : List Int} (h : okw l) {i : Nat} (hi : i < l.length) : ∃ n : Nat, l.getD i 0 = (n : Int) ∧ n < B64 := by
 have := h _ (getD_mem hi)
 exact ⟨(l.getD i 0).toNat, by omega, by show _ < 18446744073709551616; omega⟩
theorem subL_get (l m : List Int) {i : Nat} (hi : i < l.length) : (subL l m i).getD i 0 = l.getD i 0 := by
 unfold subL
 rw [List.getD_eq_getElem?_getD, List.getElem?_append_right (by rw [nB_length]; exact Nat.le_refl _), nB_length, Nat.sub_self, List.getElem?_drop, Nat.add_zero, ← List.getD_eq_getElem?_getD]
theorem nB_low (b n lo d : Nat) (h : lo < b ^ n) : nB b n (lo + b ^ n * d) = nB b n lo := by
 rw [← nB_mod b n (lo + b ^ n * d), Nat.add_mul_mod_self_left, nB_mod]
theorem subL_set {l m : List Int} (hl : okw l) (hl4 : l.length = 4) (hm : okw m) (hm4 : m.length = 4) {i : Nat} (hi : i < 4) {x y : Nat} (ex : l.getD i 0 = (x : Int)) (ey : m.getD i 0 = (y : Int)) (hx : x < B64) (hy : y < B64) :
  (subL l m i).set i ((sbd x y (bor (vB 18446744073709551616 (l.take i)) (vB 18446744073709551616 (m.take i))) : Nat) : Int) = subL l m (i + 1) ∧
   sbb x y (bor (vB 18446744073709551616 (l.take i)) (vB 18446744073709551616 (m.take i))) = bor (vB 18446744073709551616 (l.take (i + 1))) (vB 18446744073709551616 (m.take (i + 1))) := by
 have e1 := vB_take1 (b := 18446744073709551616) (l := l) i (by omega)
 have e2 := vB_take1 (b := 18446744073709551616) (l := m) i (by omega)
 rw [ex, Int.toNat_natCast] at e1
 rw [ey, Int.toNat_natCast] at e2
 have hA := vB_lt (b := 18446744073709551616) (l := l.take i) fun z hz => hl z (List.mem_of_mem_take hz)
 have hC := vB_lt (b := 18446744073709551616) (l := m.take i) fun z hz => hm z (List.mem_of_mem_take hz)
 rw [List.length_take, show min i l.length = i by omega] at hA
 rw [List.length_take, show min i m.length = i by omega] at hC
 obtain ⟨n1, n2⟩ := sub_num (18446744073709551616 ^ i) _ _ x y hA hC hx hy
 rw [← e1, ← e2] at n2
 refine ⟨?_, n2.symm⟩
 have hd : l.drop i = l.getD i 0 :: l.drop (i + 1) := by
  rw [List.drop_eq_getElem_cons (by omega)]
  simp [show i < l.length by omega]
 unfold subL
 have hlo : (vB 18446744073709551616 (l.take i) + 18446744073709551616 ^ i - vB 18446744073709551616 (m.take i)) % 18446744073709551616 ^ i < 18446744073709551616 ^ i := Nat.mod_lt _ (Nat.pow_pos (by decide))
 have hsd := (sbd_spec x y (bor (vB 18446744073709551616 (l.take i)) (vB 18446744073709551616 (m.take i))) hx hy (by unfold bor; split <;> omega)).1
 rw [e1, e2, Nat.pow_succ, n1, nB_push, nB_low _ _ _ _ hlo, hd, List.set_append_right _ _ (by rw [nB_length]; exact Nat.le_refl _), nB_length, Nat.sub_self, List.set_cons_zero, Nat.add_mul_div_left _ _ (Nat.pow_pos (by decide)), Nat.div_eq_of_lt hlo, Nat.zero_add, Nat.mod_eq_of_lt hsd, List.append_assoc]
 rfl
set_option maxRecDepth 100000 in
theorem m93 : Meets Tryd.prog 93 sp93 := by
 refine meets_of_owed (C := c93) ⟨tab_ok, lkS_ok ⟨m121, trivial⟩⟩ (by kernel_rfl) (by kernel_rfl : Tryd.prog.funcs[93]? = some Tryd.f93) (by kernel_rfl) (by kernel_rfl) (by kernel_rfl) _ ?_
 rintro _ ⟨l, m, rfl, ⟨hl, hl4⟩, hm, hm4⟩
 refine ⟨fun _ => rfl, inv93 l m, ?_⟩
 show owed c93 (inv93 l m) Tryd.f93 [num4 l, num4 m] (.tup [num4 (nB 18446744073709551616 4 (dif (wv l) (wv m))), u64n (bor (wv l) (wv m))])
 rw [vc93]
 simp (decide := true) only [eq_self, true_and, and_true, ne_eq, not_false_eq_true, Int.toNat_natCast]
 refine ⟨?_, ?_⟩
 ·have e : subL l m 0 = l := by simp [subL, nB]
  rw [show (Int.toNat 0) = 0 from rfl, e]
  and_intros <;> first | rfl | trivial
 intro i hi
 split
 ·rename_i h
  have h := of_decide_eq_true h
  obtain ⟨x, ex, hx⟩ := okw_get hl (i := i) (by omega)
  obtain ⟨y, ey, hy⟩ := okw_get hm (i := i) (by omega)
  obtain ⟨s1, s2⟩ := subL_set hl hl4 hm hm4 (i := i) (by omega) ex ey hx hy
  have hb : bor (vB 18446744073709551616 (l.take i)) (vB 18446744073709551616 (m.take i)) ≤ 1 := by unfold bor; split <;> omega
  rw [subL_get l m (by omega), ex, ey, show ((i : Int) + 1) = ((i + 1 : Nat) : Int) by omega, wi (n := ((i + 1 : Nat) : Int)) (by omega) (by omega)]
  simp only [Int.toNat_natCast]
  rw [s1, s2]
  have hp : ∃ x_1 y_1 b : Nat, [u64n x, u64n y, u64n (bor (vB 18446744073709551616 (l.take i)) (vB 18446744073709551616 (m.take i)))] = [u64n x_1, u64n y_1, u64n b] ∧ x_1 < 18446744073709551616 ∧ y_1 < 18446744073709551616 ∧ b ≤ 1 := ⟨x, y, _, rfl, hx, hy, hb⟩
  and_intros <;> first | exact hp | omega | rfl | trivial
 ·rename_i h
  have h := of_decide_eq_false h
  obtain rfl : i = 4 := by omega
  have t1 : l.take 4 = l := List.take_of_length_le (by omega)
  have t2 : m.take 4 = m := List.take_of_length_le (by omega)
  have e : subL l m 4 = nB 18446744073709551616 4 (dif (wv l) (wv m)) := by
   unfold subL dif
   rw [t1, t2, List.drop_of_length_le (by omega), List.append_nil]
  rw [e, t1, t2]
theorem vB_cut {l : List Int} (hl : okw l) {i : Nat} (hi : i < l.length) {x : Nat} (ex : l.getD i 0 = (x : Int)) : ∃ A, A < 18446744073709551616 ^ i ∧ wv l = A + 18446744073709551616 ^ i * (x + 18446744073709551616 * vB 18446744073709551616 (l.drop (i + 1))) := by
 have hA := vB_lt (b := 18446744073709551616) (l := l.take i) fun z hz => hl z (List.mem_of_mem_take hz)
 rw [List.length_take, show min i l.length = i by omega] at hA
 refine ⟨_, hA, ?_⟩
 have := vB_append 18446744073709551616 (l.take i) (l.drop i)
 rw [List.take_append_drop, List.length_take, show min i l.length = i by omega, vB_dropS 18446744073709551616 i hi, ex, Int.toNat_natCast] at this
 exact this
theorem cmp_lt {P A C x y R : Nat} (hA : A < P) (h : x < y) : A + P * (x + R) < C + P * (y + R) := by
 have := Nat.mul_le_mul_left P (show x + R + 1 ≤ y + R by omega)
 rw [Nat.mul_add P (x + R) 1, Nat.mul_one] at this
 omega
set_option maxRecDepth 100000 in
theorem m98 : Meets Tryd.prog 98 sp98 := by
 refine meets_of_owed (C := c105) ⟨tab_ok, fun f s h => by cases h⟩ (by kernel_rfl) (by kernel_rfl : Tryd.prog.funcs[98]? = some Tryd.f98) (by kernel_rfl) (by kernel_rfl) (by kernel_rfl) _ ?_
 rintro _ ⟨l, m, rfl, ⟨hl, hl4⟩, hm, hm4⟩
 refine ⟨fun _ => rfl, inv98 l m, ?_⟩
 show owed c105 (inv98 l m) Tryd.f98 [num4 l, num4 m] (i64 (cmpN (wv l) (wv m)))
 rw [vc98]
 simp (decide := true) only [eq_self, true_and, and_true, ne_eq, not_false_eq_true, Int.toNat_natCast]
 refine ⟨?_, ?_⟩
 ·rw [List.drop_of_length_le (by rw [hl4]; decide), List.drop_of_length_le (by rw [hm4]; decide)]
 rintro i ⟨hi, he⟩
 obtain ⟨z, rfl⟩ : ∃ z : Nat, i = (z : Int) - 1 := ⟨(i + 1).toNat, by omega⟩
 rw [show ((z : Int) - 1 + 1) = (z : Int) by omega] at he ⊢
 simp only [Int.toNat_natCast] at he ⊢
 split
 ·rename_i h
  have h := of_decide_eq_true h
  obtain ⟨u, rfl⟩ : ∃ u, z = u + 1 := ⟨z - 1, by omega⟩
  obtain ⟨x, ex, hx⟩ := okw_get hl (i := u) (by omega)
  obtain ⟨y, ey, hy⟩ := okw_get hm (i := u) (by omega)
  obtain ⟨A, hA, eA⟩ := vB_cut hl (by omega) ex
  obtain ⟨C, hC, eC⟩ := vB_cut hm (by omega) ey
  rw [he] at eA
  rw [show ((u + 1 : Nat) : Int) - 1 = (u : Int) by omega, wi (n := (u : Int) - 1) (by omega) (by omega), show ((u : Int) - 1 + 1) = (u : Int) by omega]
  simp only [Int.toNat_natCast, ex, ey]
  refine ⟨by omega, by omega, ?_⟩
  split
  ·rename_i h2
   have h2 := of_decide_eq_true h2
   have := cmp_lt (C := C) (R := 18446744073709551616 * vB 18446744073709551616 (m.drop (u + 1))) hA (show x < y by omega)
   rw [← eA, ← eC] at this
   unfold cmpN
   rw [if_pos this]
  ·rename_i h2
   have h2 := of_decide_eq_false h2
   refine ⟨by omega, by omega, ?_⟩
   split
   ·rename_i h3
    have h3 := of_decide_eq_true h3
    have := cmp_lt (C := A) (R := 18446744073709551616 * vB 18446744073709551616 (m.drop (u + 1))) hC (show y < x by omega)
    rw [← eA, ← eC] at this
    unfold cmpN
    rw [if_neg (by omega), if_pos this]
   ·rename_i h3
    have h3 := of_decide_eq_false h3
    have hd1 := List.drop_eq_getElem_cons (l := l) (i := u) (by omega)
    have hd2 := List.drop_eq_getElem_cons (l := m) (i := u) (by omega)
    have g1 : l[u]'(by omega) = l.getD u 0 := by simp [show u < l.length by omega]
    have g2 : m[u]'(by omega) = m.getD u 0 := by simp [show u < m.length by omega]
    have hdd : l.drop u = m.drop u := by rw [hd1, hd2, he, g1, g2, ex, ey, show x = y by omega]
    and_intros <;> first | exact hdd | omega | rfl | trivial
 ·rename_i h
  have h := of_decide_eq_false h
  obtain rfl : z = 0 := by omega
  rw [List.drop_zero, List.drop_zero] at he
  subst he
  unfold cmpN
  rw [if_neg (by omega), if_neg (by omega)]
end Go.Proofs.YtkicjckhkefnpaaDoor
namespace Go.Proofs.YtkicjckhkefnpaaDoor
open Go Go.Vg
theorem B_pow (i : Nat) : 18446744073709551616 ^ i = 2 ^ (64 * i) := by
 rw [show (18446744073709551616 : Nat) = 2 ^ 64 by decide, ← Nat.pow_mul]
theorem wbit (V i t : Nat) : (V / 18446744073709551616 ^ i % 18446744073709551616).testBit t = (decide (t < 64) && V.testBit (64 * i + t)) := by
 rw [show V / 18446744073709551616 ^ i % 18446744073709551616 = V / 2 ^ (64 * i) % 2 ^ 64 by rw [B_pow], Nat.testBit_mod_two_pow, Nat.testBit_div_two_pow, Nat.add_comm]
theorem shl_bit (a k t : Nat) : (a * 2 ^ k % 18446744073709551616).testBit t = (decide (t < 64) && (decide (t ≥ k) && a.testBit (t - k))) := by
 rw [show a * 2 ^ k % 18446744073709551616 = a * 2 ^ k % 2 ^ 64 by rfl, Nat.testBit_mod_two_pow, Nat.mul_comm, Nat.testBit_two_pow_mul]
theorem left_word (V w j k : Nat) (hk : k < 64) :
  V * 2 ^ (64 * w + k) / 18446744073709551616 ^ (w + (j + 1)) % 18446744073709551616 = ((V / 18446744073709551616 ^ (j + 1) % 18446744073709551616) * 2 ^ k % 18446744073709551616) ||| ((V / 18446744073709551616 ^ j % 18446744073709551616) / 2 ^ (64 - k)) := by
 apply Nat.eq_of_testBit_eq
 intro t
 rw [wbit, Nat.testBit_or, shl_bit, Nat.testBit_div_two_pow, wbit, wbit, Nat.mul_comm V, Nat.testBit_two_pow_mul]
 by_cases h1 : t < 64
 ·by_cases h2 : t < k
  ·rw [show 64 * (w + (j + 1)) + t - (64 * w + k) = 64 * j + (t + (64 - k)) by omega]
   simp [h1, show ¬ k ≤ t by omega, show t + (64 - k) < 64 by omega, show 64 * w + k ≤ 64 * (w + (j + 1)) + t by omega]
  ·rw [show 64 * (w + (j + 1)) + t - (64 * w + k) = 64 * (j + 1) + (t - k) by omega]
   simp [h1, show k ≤ t by omega, show ¬ t + (64 - k) < 64 by omega, show t - k < 64 by omega, show 64 * w + k ≤ 64 * (w + (j + 1)) + t by omega]
 ·simp [h1, show ¬ t + (64 - k) < 64 by omega]
theorem left_word0 (V w k : Nat) (hk : k < 64) :
  V * 2 ^ (64 * w + k) / 18446744073709551616 ^ w % 18446744073709551616 = (V / 18446744073709551616 ^ 0 % 18446744073709551616) * 2 ^ k % 18446744073709551616 := by
 apply Nat.eq_of_testBit_eq
 intro t
 rw [wbit, shl_bit, wbit, Nat.mul_comm V, Nat.testBit_two_pow_mul]
 by_cases h1 : t < 64
 ·by_cases h2 : t < k
  ·simp [h1, show ¬ k ≤ t by omega]
  ·rw [show 64 * w + t - (64 * w + k) = 64 * 0 + (t - k) by omega]
   simp [h1, show k ≤ t by omega, show t - k < 64 by omega]
 ·simp [h1]
theorem right_word (V w p k : Nat) (hk : k < 64) :
  V / 2 ^ (64 * w + k) / 18446744073709551616 ^ p % 18446744073709551616 = ((V / 18446744073709551616 ^ (w + p) % 18446744073709551616) / 2 ^ k) ||| ((V / 18446744073709551616 ^ (w + p + 1) % 18446744073709551616) * 2 ^ (64 - k) % 18446744073709551616) := by
 apply Nat.eq_of_testBit_eq
 intro t
 rw [wbit, Nat.testBit_or, shl_bit, Nat.testBit_div_two_pow, Nat.testBit_div_two_pow, wbit, wbit]
 by_cases h1 : t < 64
 ·by_cases h2 : t + k < 64
  ·rw [show 64 * p + t + (64 * w + k) = 64 * (w + p) + (t + k) by omega]
   simp [h1, h2, show ¬ 64 - k ≤ t by omega]
  ·rw [show 64 * p + t + (64 * w + k) = 64 * (w + p + 1) + (t - (64 - k)) by omega]
   simp [h1, h2, show 64 - k ≤ t by omega, show t - (64 - k) < 64 by omega]
 ·simp [h1, show ¬ t + k < 64 by omega]
theorem right_word3 (V w p k : Nat) (hk : k < 64) (h : w + p = 3) (hV : V < 2 ^ 256) :
  V / 2 ^ (64 * w + k) / 18446744073709551616 ^ p % 18446744073709551616 = (V / 18446744073709551616 ^ (w + p) % 18446744073709551616) / 2 ^ k := by
 rw [right_word V w p k hk, h]
 have : V / 18446744073709551616 ^ (3 + 1) = 0 := Nat.div_eq_of_lt hV
 rw [this]
 simp
theorem words_step (v i : Nat) (C : Int) (hi : i < 4) (h : C = ((v / 18446744073709551616 ^ i % 18446744073709551616 : Nat) : Int)) :
  (nB 18446744073709551616 i v ++ List.replicate (4 - i) 0).set i C = nB 18446744073709551616 (i + 1) v ++ List.replicate (4 - (i + 1)) 0 := by
 have e := set_rep (nB 18446744073709551616 i v) (4 - (i + 1)) C
 rw [nB_length] at e
 rw [show 4 - i = 4 - (i + 1) + 1 by omega, e, h, nB_push]
theorem get_set (L : List Int) (i : Nat) (A : Int) (h : i < L.length) : (L.set i A).getD i 0 = A := by
 simp [List.getD_eq_getElem?_getD, h]
theorem nB_zeros (b n v : Nat) (h : v % b ^ n = 0) : nB b n v = List.replicate n 0 := by
 rw [← nB_mod, h]
 clear h
 induction n with
 | zero => rfl
 | succ n ih => rw [nB, List.replicate_succ, Nat.zero_div, ih]; simp
theorem ext_rep (v n m : Nat) (h : v < 18446744073709551616 ^ n) : nB 18446744073709551616 (n + m) v = nB 18446744073709551616 n v ++ List.replicate m 0 := by
 induction m with
 | zero => simp
 | succ m ih =>
  have : v / 18446744073709551616 ^ (n + m) = 0 := Nat.div_eq_of_lt (Nat.lt_of_lt_of_le h (Nat.pow_le_pow_right (by decide) (by omega)))
  rw [← Nat.add_assoc, nB_push, ih, this, List.append_assoc, List.replicate_succ']
  rfl
theorem word_or (k : IntKind) (a b : Nat) (h : k = .u64) (ha : a < 18446744073709551616) (hb : b < 18446744073709551616) : ior k (a : Int) (b : Int) = ((a ||| b : Nat) : Int) := by
 subst h
 exact iorN .u64 ha hb
set_option maxRecDepth 100000 in
theorem m96 : Meets Tryd.prog 96 sp96 := by
 refine meets_of_owed (C := c105) ⟨tab_ok, fun f s h => by cases h⟩ (by kernel_rfl) (by kernel_rfl : Tryd.prog.funcs[96]? = some Tryd.f96) (by kernel_rfl) (by kernel_rfl) (by kernel_rfl) _ ?_
 rintro _ ⟨l, n, rfl, ⟨hl, hl4⟩, hn1, hn2⟩
 refine ⟨fun _ => rfl, inv96 l n, ?_⟩
 show owed c105 (inv96 l n) Tryd.f96 [num4 l, i64 n] (num4 (nB 18446744073709551616 4 (shf (wv l) n)))
 rw [vc96]
 have hV := wv_lt hl hl4
 have hget : ∀ i, i < 4 → l.getD i 0 = ((wv l / 18446744073709551616 ^ i % 18446744073709551616 : Nat) : Int) := fun i hi => vB_get hl (by omega)
 have hw : ∀ i, wv l / 18446744073709551616 ^ i % 18446744073709551616 < 18446744073709551616 := fun i => Nat.mod_lt _ (by decide)
 simp (decide := true) only [eq_self, true_and, and_true, ne_eq, not_false_eq_true, Int.toNat_natCast]
 have zer : ∀ v : Nat, v % 18446744073709551616 ^ 4 = 0 → num4 [0, 0, 0, 0] = num4 (nB 18446744073709551616 4 v) := fun v h => by rw [nB_zeros _ _ _ h]; rfl
 split
 ·rename_i h
  have h := of_decide_eq_true h
  refine zer _ ?_
  unfold shf
  rw [if_pos (by omega), B_pow, show n.toNat = 64 * 4 + (n.toNat - 256) by omega, Nat.pow_add, ← Nat.mul_assoc, Nat.mul_right_comm, Nat.mul_mod_left]
 rename_i h
 have h := of_decide_eq_false h
 split
 ·rename_i h1
  have h1 := of_decide_eq_true h1
  refine zer _ ?_
  unfold shf
  rw [if_neg (by omega), Nat.div_eq_of_lt (Nat.lt_of_lt_of_le hV (Nat.pow_le_pow_right (by decide) (by omega)))]
 rename_i h1
 have h1 := of_decide_eq_false h1
 split
 ·rename_i h2
  have h2 := of_decide_eq_true h2
  obtain ⟨N, rfl⟩ : ∃ N : Nat, n = (N : Int) := ⟨n.toNat, by omega⟩
  have e1 : (N : Int).tdiv 64 = ((N / 64 : Nat) : Int) := tdivN N 64
  have e2 : (N : Int).tmod 64 = ((N % 64 : Nat) : Int) := tmodN N 64
  have es : shf (wv l) (N : Int) = wv l * 2 ^ (64 * (N / 64) + N % 64) := by
   unfold shf
   rw [if_pos (by omega), Int.toNat_natCast, Nat.div_add_mod]
  have hk : N % 64 < 64 := Nat.mod_lt _ (by decide)
  have hw3 : N / 64 < 4 := by omega
  have e0 : (N : Int).toNat = N := Int.toNat_natCast N
  rw [e1, e2, es, e0]
  generalize N / 64 = w at *
  generalize N % 64 = k at *
  rw [wi (n := ((w : Nat) : Int)) (by omega) (by omega), wu (n := ((k : Nat) : Int)) (by omega) (by omega), show (64 : Int) - ((k : Nat) : Int) = ((64 - k : Nat) : Int) by omega, wu (n := ((64 - k : Nat) : Int)) (by omega) (by omega)]
  simp only [Int.toNat_natCast]
  refine ⟨?_, ?_⟩
  ·have z0 : wv l * 2 ^ (64 * w + k) % 18446744073709551616 ^ w = 0 := by
    rw [B_pow, Nat.pow_add, Nat.mul_left_comm, Nat.mul_mod_right]
   rw [nB_zeros _ _ _ z0, List.replicate_append_replicate, show w + (4 - w) = 4 by omega]
   and_intros <;> first | rfl | omega | trivial
  rintro i ⟨hi, hi4⟩
  split
  ·rename_i h3
   have h3 := of_decide_eq_true h3
   obtain ⟨j, rfl⟩ : ∃ j, i = w + j := ⟨i - w, by omega⟩
   have hlen : w + j < (nB 18446744073709551616 (w + j) (wv l * 2 ^ (64 * w + k)) ++ List.replicate (4 - (w + j)) 0).length := by rw [List.length_append, nB_length, List.length_replicate]; omega
   rw [show ((w + j : Nat) : Int) - ((w : Nat) : Int) = ((j : Nat) : Int) by omega, wi (n := ((j : Nat) : Int)) (by omega) (by omega), show ((w + j : Nat) : Int) + 1 = ((w + j + 1 : Nat) : Int) by omega, wi (n := ((w + j + 1 : Nat) : Int)) (by omega) (by omega)]
   have wj : IntKind.i64.wrap (((j : Nat) : Int) - 1) = ((j : Nat) : Int) - 1 := wi (by omega) (by omega)
   rw [wj]
   simp only [Int.toNat_natCast]
   rw [hget j (by omega), ishlN .u64 (by simp only [IntKind.bits]; omega), wN64, get_set _ _ _ hlen]
   split
   ·rename_i h4
    have h4 := of_decide_eq_true h4
    obtain ⟨q, rfl⟩ : ∃ q, j = q + 1 := ⟨j - 1, by omega⟩
    rw [show ((q + 1 : Nat) : Int) - 1 = ((q : Nat) : Int) by omega]
    simp only [Int.toNat_natCast]
    rw [hget q (by omega), ishrN .u64 (by simp only [IntKind.bits]; omega), word_or _ _ _ rfl (Nat.mod_lt _ (by decide)) (Nat.lt_of_le_of_lt (Nat.div_le_self _ _) (hw q)), List.set_set,
     words_step (wv l * 2 ^ (64 * w + k)) (w + (q + 1)) _ (by omega) (by rw [left_word _ _ _ _ hk])]
    and_intros <;> first | omega | rfl | trivial
   ·rename_i h4
    have h4 := of_decide_eq_false h4
    obtain rfl : j = 0 := by omega
    rw [words_step (wv l * 2 ^ (64 * w + k)) (w + 0) _ (by omega) (by rw [Nat.add_zero, left_word0 _ _ _ hk])]
    and_intros <;> first | omega | rfl | trivial
  ·rename_i h3
   have h3 := of_decide_eq_false h3
   obtain rfl : i = 4 := by omega
   rw [Nat.sub_self, List.replicate_zero, List.append_nil]
 ·rename_i h2
  have h2 := of_decide_eq_false h2
  obtain ⟨N, hN⟩ : ∃ N : Nat, n = -(N : Int) := ⟨(-n).toNat, by omega⟩
  have e1 : (N : Int).tdiv 64 = ((N / 64 : Nat) : Int) := tdivN N 64
  have e2 : (N : Int).tmod 64 = ((N % 64 : Nat) : Int) := tmodN N 64
  have es : shf (wv l) n = wv l / 2 ^ (64 * (N / 64) + N % 64) := by
   unfold shf
   rw [if_neg (by omega), Nat.div_add_mod, show (-n).toNat = N by omega]
  have hk : N % 64 < 64 := Nat.mod_lt _ (by decide)
  have hw3 : N / 64 < 4 := by omega
  have e0 : (-n).toNat = N := by omega
  have en : IntKind.i64.wrap (0 - n) = (N : Int) := by rw [wi (by omega) (by omega)]; omega
  rw [en, e1, e2, es, e0]
  clear en e0 es
  generalize N / 64 = w at *
  generalize N % 64 = k at *
  rw [wi (n := ((w : Nat) : Int)) (by omega) (by omega), wu (n := ((k : Nat) : Int)) (by omega) (by omega), show (64 : Int) - ((k : Nat) : Int) = ((64 - k : Nat) : Int) by omega, wu (n := ((64 - k : Nat) : Int)) (by omega) (by omega)]
  simp only [Int.toNat_natCast, Nat.sub_self]
  refine ⟨?_, ?_⟩
  ·and_intros <;> first | rfl | omega | trivial
  rintro i ⟨hi, hi4⟩
  split
  ·rename_i h3
   have h3 := of_decide_eq_true h3
   obtain ⟨p, rfl⟩ : ∃ p, i = w + p := ⟨i - w, by omega⟩
   have hlen : p < (nB 18446744073709551616 p (wv l / 2 ^ (64 * w + k)) ++ List.replicate (4 - p) 0).length := by rw [List.length_append, nB_length, List.length_replicate]; omega
   rw [show ((w + p : Nat) : Int) - ((w : Nat) : Int) = ((p : Nat) : Int) by omega, wi (n := ((p : Nat) : Int)) (by omega) (by omega), show ((w + p : Nat) : Int) + 1 = ((w + p + 1 : Nat) : Int) by omega, wi (n := ((w + p + 1 : Nat) : Int)) (by omega) (by omega)]
   simp only [Int.toNat_natCast]
   rw [show w + p - w = p by omega, show w + p + 1 - w = p + 1 by omega, hget (w + p) (by omega), ishrN .u64 (by simp only [IntKind.bits]; omega), get_set _ _ _ hlen]
   split
   ·rename_i h4
    have h4 := of_decide_eq_true h4
    rw [hget (w + p + 1) (by omega), ishlN .u64 (by simp only [IntKind.bits]; omega), wN64, word_or _ _ _ rfl (Nat.lt_of_le_of_lt (Nat.div_le_self _ _) (hw _)) (Nat.mod_lt _ (by decide)), List.set_set,
     words_step (wv l / 2 ^ (64 * w + k)) p _ (by omega) (by rw [right_word _ _ _ _ hk])]
    and_intros <;> first | omega | rfl | trivial
   ·rename_i h4
    have h4 := of_decide_eq_false h4
    rw [words_step (wv l / 2 ^ (64 * w + k)) p _ (by omega) (by rw [right_word3 _ _ _ _ hk (by omega) hV])]
    and_intros <;> first | omega | rfl | trivial
  ·rename_i h3
   have h3 := of_decide_eq_false h3
   obtain rfl : i = 4 := by omega
   have hlt : wv l / 2 ^ (64 * w + k) < 18446744073709551616 ^ (4 - w) := by
    rw [B_pow]
    refine Nat.div_lt_of_lt_mul (Nat.lt_of_lt_of_le hV ?_)
    rw [← Nat.pow_add]
    exact Nat.pow_le_pow_right (by decide) (by omega)
   have := ext_rep (wv l / 2 ^ (64 * w + k)) (4 - w) w hlt
   rw [show 4 - (4 - w) = w by omega, ← this, show 4 - w + w = 4 by omega]
end Go.Proofs.YtkicjckhkefnpaaDoor
namespace Go.Proofs.YtkicjckhkefnpaaDoor
open Go Go.Vg
def dvq (A M : Nat) : Nat := A / M
def dvr (A M : Nat) : Nat := if M = 0 then 0 else A % M
def dve (M : Nat) : Nat := if M = 0 then 1 else 0
abbrev i64n (n : Nat) : D := .val (.int .i64 (n : Int))
def sp123 : Go.Vg.Spec := ⟨fun ds => ∃ a m, ds = [num8 a, num4 m] ∧ (okw a ∧ a.length = 8) ∧ okw m ∧ m.length = 4,
 fun ds => .tup [num8 (nB 18446744073709551616 8 (dvq (wv (arrOf (ds.headD default))) (wv (arrOf (ds.getD 1 default))))), num4 (nB 18446744073709551616 4 (dvr (wv (arrOf (ds.headD default))) (wv (arrOf (ds.getD 1 default))))), i64n (dve (wv (arrOf (ds.getD 1 default))))], true, [88, 75]⟩
def sp108 : Go.Vg.Spec := ⟨fun ds => ∃ a m, ds = [num8 a, num4 m] ∧ (okw a ∧ a.length = 8) ∧ okw m ∧ m.length = 4,
 fun ds => .tup [num4 (nB 18446744073709551616 4 (dvr (wv (arrOf (ds.headD default))) (wv (arrOf (ds.getD 1 default))))), i64n (dve (wv (arrOf (ds.getD 1 default))))], true, [88, 75]⟩
def c123 : Ctx := ⟨tab, lkS [(96, sp96), (93, sp93)], [], [200004, 200005, 200007, 200008]⟩
def c108 : Ctx := ⟨tab, lkS [(123, sp123)], [], []⟩
def inv123 (a m : List Int) : Nat → Option Inv
 | 6 => some ⟨Nat, fun j => [(9, .d (.val (.int .i64 ((j : Int) - 1))))], fun j => [(8, .fix (num4 (nB 18446744073709551616 4 (wv a / 2 ^ j % wv m)))), (7, .fix (num8 (nB 18446744073709551616 8 (wv a / 2 ^ j / wv m * 2 ^ j))))], fun s => (slotN s 9 + 1).toNat, fun _ j => j ≤ 512, fun j => j⟩
 | _ => none
set_option maxRecDepth 100000 in
theorem vc123  (a m : List Int) (F : D)  :
    (owed c123 (inv123 a m) Tryd.f123 [num8 a, num4 m] F) = (
 (True ∧ false = false) ∧ (True ∧ false = false) ∧ (True ∧ 8 ≠ 0) ∧ (True ∧ 4 ≠ 0) ∧ True ∧ (True ∧ 8 ≠ 0) ∧ (True ∧ 4 ≠ 0) ∧ (4 ≠ 0 ∧ 4 = 4 ∧ true = true) ∧ (true = true ∧ 4 ≠ 0 ∧ 4 = 4 ∧ true = true) ∧ (IntKind.u64 = IntKind.u64 ∧ IntKind.u64 = IntKind.u64 ∧ 4 = 4 ∧ 4 = 4 ∧ 1 = 1) ∧ match eqB m [(0 : Int), (0 : Int), (0 : Int), (0 : Int)] with
 | true => (true = true ∧ 8 ≠ 0 ∧ 8 = 8 ∧ true = true) ∧ (true = true ∧ 4 ≠ 0 ∧ 4 = 4 ∧ true = true) ∧ (true = true ∧ Sk.arr 8 = Sk.arr 8 ∧ 8 ≠ 0 ∧ 8 = 8 ∧ false = false) ∧ (true = true ∧ Sk.arr 4 = Sk.arr 4 ∧ 4 ≠ 0 ∧ 4 = 4 ∧ false = false) ∧ True ∧ ((8 ≠ 0 ∧ 8 = 8 ∧ true = true) ∧ (4 ≠ 0 ∧ 4 = 4 ∧ true = true) ∧ false = false ∧ True) ∧ D.tup [D.arr .u64 8 [(0 : Int), (0 : Int), (0 : Int), (0 : Int), (0 : Int), (0 : Int), (0 : Int), (0 : Int)], D.arr .u64 4 [(0 : Int), (0 : Int), (0 : Int), (0 : Int)], D.val (.int .i64 1)] = F
 | false => True ∧ (((AV.d (D.val (.int .i64 511)) = AV.d (D.val (.int .i64 ((↑((511 : Int) + (1 : Int)).toNat : Int) - (1 : Int)))) ∧ True) ∧ (sm (some (Blk.fix (D.arr .u64 8 a))) ∧ sm (some (Blk.fix (D.arr .u64 4 m))) ∧ sm (some (Blk.fix (D.arr .u64 8 [(0 : Int), (0 : Int), (0 : Int), (0 : Int), (0 : Int), (0 : Int), (0 : Int), (0 : Int)]))) ∧ sm (some (Blk.fix (D.arr .u64 4 [(0 : Int), (0 : Int), (0 : Int), (0 : Int)]))) ∧ some (Blk.fix (D.arr .u64 8 [(0 : Int), (0 : Int), (0 : Int), (0 : Int), (0 : Int), (0 : Int), (0 : Int), (0 : Int)])) = some (Blk.fix (D.arr .u64 8 (nB 18446744073709551616 8 (vB 18446744073709551616 a / 2 ^ ((511 : Int) + (1 : Int)).toNat / vB 18446744073709551616 m * 2 ^ ((511 : Int) + (1 : Int)).toNat)))) ∧ some (Blk.fix (D.arr .u64 4 [(0 : Int), (0 : Int), (0 : Int), (0 : Int)])) = some (Blk.fix (D.arr .u64 4 (nB 18446744073709551616 4 (vB 18446744073709551616 a / 2 ^ ((511 : Int) + (1 : Int)).toNat % vB 18446744073709551616 m)))) ∧ True) ∧ true = true) ∧ ((511 : Int) + (1 : Int)).toNat ≤ 512) ∧ ∀ (x : Nat), x ≤ 512 → true = true ∧ True ∧ True ∧ match decide ((↑x : Int) - (1 : Int) ≥ 0) with
  | true => ((0 : Int) ≤ 3 ∧ (3 : Int) < (↑(4 : Nat) : Int) ∧ 4 = 4 ∧ 1 = 1) ∧ (1 ≠ 0 ∧ 1 = 1 ∧ false = false) ∧ (0 : Int) ≤ 63 ∧ True ∧ (true = true ∧ 4 ≠ 0 ∧ 4 = 4 ∧ true = true) ∧ (∃ (l : List Int), ∃ (n : Int), [D.arr .u64 4 (nB 18446744073709551616 4 (vB 18446744073709551616 a / 2 ^ x % vB 18446744073709551616 m)), D.val (.int .i64 1)] = [D.arr .u64 4 l, D.val (Value.int IntKind.i64 n)] ∧ (okw l ∧ l.length = 4) ∧ i64ok n) ∧ (true = true ∧ Sk.arr 4 = Sk.arr 4 ∧ 4 ≠ 0 ∧ 4 = 4 ∧ false = false) ∧ ((0 : Int) ≤ 0 ∧ (0 : Int) < (↑(4 : Nat) : Int) ∧ 4 = 4 ∧ 1 = 1) ∧ (1 ≠ 0 ∧ 1 = 1 ∧ false = false) ∧ True ∧ (64 : Int) ≠ 0 ∧ ((0 : Int) ≤ IntKind.i64.wrap (((↑x : Int) - (1 : Int)).tdiv (64 : Int)) ∧ IntKind.i64.wrap (((↑x : Int) - (1 : Int)).tdiv (64 : Int)) < (↑(8 : Nat) : Int) ∧ 8 = 8 ∧ 1 = 1) ∧ (1 ≠ 0 ∧ 1 = 1 ∧ false = false) ∧ True ∧ (64 : Int) ≠ 0 ∧ True ∧ (0 : Int) ≤ IntKind.u64.wrap (((↑x : Int) - (1 : Int)).tmod (64 : Int)) ∧ True ∧ True ∧ ((0 : Int) ≤ 0 ∧ (0 : Int) < (↑(4 : Nat) : Int) ∧ 4 = 4 ∧ 1 = 1) ∧ ((0 < 4 ∧ ([] : List Nat) = [] ∧ true = true) ∧ 1 ≠ 0 ∧ 1 = 1 ∧ false = false) ∧ (true = true ∧ 4 ≠ 0 ∧ 4 = 4 ∧ true = true) ∧ (4 ≠ 0 ∧ 4 = 4 ∧ true = true) ∧ (∃ (l : List Int), ∃ (m_1 : List Int), [D.arr .u64 4 ((nB 18446744073709551616 4 (shf (vB 18446744073709551616 (nB 18446744073709551616 4 (vB 18446744073709551616 a / 2 ^ x % vB 18446744073709551616 m))) (1 : Int))).set 0 (ior IntKind.u64 ((nB 18446744073709551616 4 (shf (vB 18446744073709551616 (nB 18446744073709551616 4 (vB 18446744073709551616 a / 2 ^ x % vB 18446744073709551616 m))) (1 : Int))).getD 0 (0 : Int)) (iand IntKind.u64 (ishr IntKind.u64 (a.getD (IntKind.i64.wrap (((↑x : Int) - (1 : Int)).tdiv (64 : Int))).toNat (0 : Int)) (IntKind.u64.wrap (((↑x : Int) - (1 : Int)).tmod (64 : Int)))) (1 : Int)))), D.arr .u64 4 m] = [D.arr .u64 4 l, D.arr .u64 4 m_1] ∧ (okw l ∧ l.length = 4) ∧ okw m_1 ∧ m_1.length = 4) ∧ True ∧ (0 < 2 ∧ false = false) ∧ (1 < 2 ∧ false = false) ∧ (True ∧ 4 ≠ 0) ∧ (Sk.arr 4 = Sk.arr 4 ∧ 4 ≠ 0 ∧ 4 = 4 ∧ false = false) ∧ True ∧ True ∧ True ∧ True ∧ match ishr IntKind.u64 ((nB 18446744073709551616 4 (vB 18446744073709551616 a / 2 ^ x % vB 18446744073709551616 m)).getD 3 (0 : Int)) (63 : Int) == (1 : Int) with
   | true => True ∧ (4 ≠ 0 ∧ 4 = 4 ∧ true = true) ∧ (true = true ∧ Sk.arr 4 = Sk.arr 4 ∧ 4 ≠ 0 ∧ 4 = 4 ∧ false = false) ∧ True ∧ (64 : Int) ≠ 0 ∧ ((0 : Int) ≤ IntKind.i64.wrap (((↑x : Int) - (1 : Int)).tdiv (64 : Int)) ∧ IntKind.i64.wrap (((↑x : Int) - (1 : Int)).tdiv (64 : Int)) < (↑(8 : Nat) : Int) ∧ 8 = 8 ∧ 1 = 1) ∧ (1 ≠ 0 ∧ 1 = 1 ∧ false = false) ∧ True ∧ (64 : Int) ≠ 0 ∧ True ∧ (0 : Int) ≤ IntKind.u64.wrap (((↑x : Int) - (1 : Int)).tmod (64 : Int)) ∧ True ∧ ((0 : Int) ≤ IntKind.i64.wrap (((↑x : Int) - (1 : Int)).tdiv (64 : Int)) ∧ IntKind.i64.wrap (((↑x : Int) - (1 : Int)).tdiv (64 : Int)) < (↑(8 : Nat) : Int) ∧ 8 = 8 ∧ 1 = 1) ∧ (((IntKind.i64.wrap (((↑x : Int) - (1 : Int)).tdiv (64 : Int))).toNat < 8 ∧ ([] : List Nat) = [] ∧ true = true) ∧ 1 ≠ 0 ∧ 1 = 1 ∧ false = false) ∧ True ∧ True ∧ True ∧ ((AV.d (D.val (.int .i64 (IntKind.i64.wrap ((↑x : Int) - (1 : Int) - (1 : Int))))) = AV.d (D.val (.int .i64 ((↑(IntKind.i64.wrap ((↑x : Int) - (1 : Int) - (1 : Int)) + (1 : Int)).toNat : Int) - (1 : Int)))) ∧ True) ∧ (sm (some (Blk.fix (D.arr .u64 8 a))) ∧ sm (some (Blk.fix (D.arr .u64 4 m))) ∧ sm (some (Blk.fix (D.arr .u64 8 [(0 : Int), (0 : Int), (0 : Int), (0 : Int), (0 : Int), (0 : Int), (0 : Int), (0 : Int)]))) ∧ sm (some (Blk.fix (D.arr .u64 4 [(0 : Int), (0 : Int), (0 : Int), (0 : Int)]))) ∧ some (Blk.fix (D.arr .u64 8 ((nB 18446744073709551616 8 (vB 18446744073709551616 a / 2 ^ x / vB 18446744073709551616 m * 2 ^ x)).set (IntKind.i64.wrap (((↑x : Int) - (1 : Int)).tdiv (64 : Int))).toNat (ior IntKind.u64 ((nB 18446744073709551616 8 (vB 18446744073709551616 a / 2 ^ x / vB 18446744073709551616 m * 2 ^ x)).getD (IntKind.i64.wrap (((↑x : Int) - (1 : Int)).tdiv (64 : Int))).toNat (0 : Int)) (ishl IntKind.u64 (1 : Int) (IntKind.u64.wrap (((↑x : Int) - (1 : Int)).tmod (64 : Int)))))))) = some (Blk.fix (D.arr .u64 8 (nB 18446744073709551616 8 (vB 18446744073709551616 a / 2 ^ (IntKind.i64.wrap ((↑x : Int) - (1 : Int) - (1 : Int)) + (1 : Int)).toNat / vB 18446744073709551616 m * 2 ^ (IntKind.i64.wrap ((↑x : Int) - (1 : Int) - (1 : Int)) + (1 : Int)).toNat)))) ∧ some (Blk.fix (D.arr .u64 4 (nB 18446744073709551616 4 (dif (vB 18446744073709551616 ((nB 18446744073709551616 4 (shf (vB 18446744073709551616 (nB 18446744073709551616 4 (vB 18446744073709551616 a / 2 ^ x % vB 18446744073709551616 m))) (1 : Int))).set 0 (ior IntKind.u64 ((nB 18446744073709551616 4 (shf (vB 18446744073709551616 (nB 18446744073709551616 4 (vB 18446744073709551616 a / 2 ^ x % vB 18446744073709551616 m))) (1 : Int))).getD 0 (0 : Int)) (iand IntKind.u64 (ishr IntKind.u64 (a.getD (IntKind.i64.wrap (((↑x : Int) - (1 : Int)).tdiv (64 : Int))).toNat (0 : Int)) (IntKind.u64.wrap (((↑x : Int) - (1 : Int)).tmod (64 : Int)))) (1 : Int))))) (vB 18446744073709551616 m))))) = some (Blk.fix (D.arr .u64 4 (nB 18446744073709551616 4 (vB 18446744073709551616 a / 2 ^ (IntKind.i64.wrap ((↑x : Int) - (1 : Int) - (1 : Int)) + (1 : Int)).toNat % vB 18446744073709551616 m)))) ∧ True) ∧ true = true) ∧ (IntKind.i64.wrap ((↑x : Int) - (1 : Int) - (1 : Int)) + (1 : Int)).toNat ≤ 512 ∧ (IntKind.i64.wrap ((↑x : Int) - (1 : Int) - (1 : Int)) + (1 : Int)).toNat < x
   | false => True ∧ True ∧ True ∧ match (↑(bor (vB 18446744073709551616 ((nB 18446744073709551616 4 (shf (vB 18446744073709551616 (nB 18446744073709551616 4 (vB 18446744073709551616 a / 2 ^ x % vB 18446744073709551616 m))) (1 : Int))).set 0 (ior IntKind.u64 ((nB 18446744073709551616 4 (shf (vB 18446744073709551616 (nB 18446744073709551616 4 (vB 18446744073709551616 a / 2 ^ x % vB 18446744073709551616 m))) (1 : Int))).getD 0 (0 : Int)) (iand IntKind.u64 (ishr IntKind.u64 (a.getD (IntKind.i64.wrap (((↑x : Int) - (1 : Int)).tdiv (64 : Int))).toNat (0 : Int)) (IntKind.u64.wrap (((↑x : Int) - (1 : Int)).tmod (64 : Int)))) (1 : Int))))) (vB 18446744073709551616 m)) : Int) == (0 : Int) with
    | true => (4 ≠ 0 ∧ 4 = 4 ∧ true = true) ∧ (true = true ∧ Sk.arr 4 = Sk.arr 4 ∧ 4 ≠ 0 ∧ 4 = 4 ∧ false = false) ∧ True ∧ (64 : Int) ≠ 0 ∧ ((0 : Int) ≤ IntKind.i64.wrap (((↑x : Int) - (1 : Int)).tdiv (64 : Int)) ∧ IntKind.i64.wrap (((↑x : Int) - (1 : Int)).tdiv (64 : Int)) < (↑(8 : Nat) : Int) ∧ 8 = 8 ∧ 1 = 1) ∧ (1 ≠ 0 ∧ 1 = 1 ∧ false = false) ∧ True ∧ (64 : Int) ≠ 0 ∧ True ∧ (0 : Int) ≤ IntKind.u64.wrap (((↑x : Int) - (1 : Int)).tmod (64 : Int)) ∧ True ∧ ((0 : Int) ≤ IntKind.i64.wrap (((↑x : Int) - (1 : Int)).tdiv (64 : Int)) ∧ IntKind.i64.wrap (((↑x : Int) - (1 : Int)).tdiv (64 : Int)) < (↑(8 : Nat) : Int) ∧ 8 = 8 ∧ 1 = 1) ∧ (((IntKind.i64.wrap (((↑x : Int) - (1 : Int)).tdiv (64 : Int))).toNat < 8 ∧ ([] : List Nat) = [] ∧ true = true) ∧ 1 ≠ 0 ∧ 1 = 1 ∧ false = false) ∧ True ∧ True ∧ True ∧ ((AV.d (D.val (.int .i64 (IntKind.i64.wrap ((↑x : Int) - (1 : Int) - (1 : Int))))) = AV.d (D.val (.int .i64 ((↑(IntKind.i64.wrap ((↑x : Int) - (1 : Int) - (1 : Int)) + (1 : Int)).toNat : Int) - (1 : Int)))) ∧ True) ∧ (sm (some (Blk.fix (D.arr .u64 8 a))) ∧ sm (some (Blk.fix (D.arr .u64 4 m))) ∧ sm (some (Blk.fix (D.arr .u64 8 [(0 : Int), (0 : Int), (0 : Int), (0 : Int), (0 : Int), (0 : Int), (0 : Int), (0 : Int)]))) ∧ sm (some (Blk.fix (D.arr .u64 4 [(0 : Int), (0 : Int), (0 : Int), (0 : Int)]))) ∧ some (Blk.fix (D.arr .u64 8 ((nB 18446744073709551616 8 (vB 18446744073709551616 a / 2 ^ x / vB 18446744073709551616 m * 2 ^ x)).set (IntKind.i64.wrap (((↑x : Int) - (1 : Int)).tdiv (64 : Int))).toNat (ior IntKind.u64 ((nB 18446744073709551616 8 (vB 18446744073709551616 a / 2 ^ x / vB 18446744073709551616 m * 2 ^ x)).getD (IntKind.i64.wrap (((↑x : Int) - (1 : Int)).tdiv (64 : Int))).toNat (0 : Int)) (ishl IntKind.u64 (1 : Int) (IntKind.u64.wrap (((↑x : Int) - (1 : Int)).tmod (64 : Int)))))))) = some (Blk.fix (D.arr .u64 8 (nB 18446744073709551616 8 (vB 18446744073709551616 a / 2 ^ (IntKind.i64.wrap ((↑x : Int) - (1 : Int) - (1 : Int)) + (1 : Int)).toNat / vB 18446744073709551616 m * 2 ^ (IntKind.i64.wrap ((↑x : Int) - (1 : Int) - (1 : Int)) + (1 : Int)).toNat)))) ∧ some (Blk.fix (D.arr .u64 4 (nB 18446744073709551616 4 (dif (vB 18446744073709551616 ((nB 18446744073709551616 4 (shf (vB 18446744073709551616 (nB 18446744073709551616 4 (vB 18446744073709551616 a / 2 ^ x % vB 18446744073709551616 m))) (1 : Int))).set 0 (ior IntKind.u64 ((nB 18446744073709551616 4 (shf (vB 18446744073709551616 (nB 18446744073709551616 4 (vB 18446744073709551616 a / 2 ^ x % vB 18446744073709551616 m))) (1 : Int))).getD 0 (0 : Int)) (iand IntKind.u64 (ishr IntKind.u64 (a.getD (IntKind.i64.wrap (((↑x : Int) - (1 : Int)).tdiv (64 : Int))).toNat (0 : Int)) (IntKind.u64.wrap (((↑x : Int) - (1 : Int)).tmod (64 : Int)))) (1 : Int))))) (vB 18446744073709551616 m))))) = some (Blk.fix (D.arr .u64 4 (nB 18446744073709551616 4 (vB 18446744073709551616 a / 2 ^ (IntKind.i64.wrap ((↑x : Int) - (1 : Int) - (1 : Int)) + (1 : Int)).toNat % vB 18446744073709551616 m)))) ∧ True) ∧ true = true) ∧ (IntKind.i64.wrap ((↑x : Int) - (1 : Int) - (1 : Int)) + (1 : Int)).toNat ≤ 512 ∧ (IntKind.i64.wrap ((↑x : Int) - (1 : Int) - (1 : Int)) + (1 : Int)).toNat < x
    | false => True ∧ True ∧ True ∧ ((AV.d (D.val (.int .i64 (IntKind.i64.wrap ((↑x : Int) - (1 : Int) - (1 : Int))))) = AV.d (D.val (.int .i64 ((↑(IntKind.i64.wrap ((↑x : Int) - (1 : Int) - (1 : Int)) + (1 : Int)).toNat : Int) - (1 : Int)))) ∧ True) ∧ (sm (some (Blk.fix (D.arr .u64 8 a))) ∧ sm (some (Blk.fix (D.arr .u64 4 m))) ∧ sm (some (Blk.fix (D.arr .u64 8 [(0 : Int), (0 : Int), (0 : Int), (0 : Int), (0 : Int), (0 : Int), (0 : Int), (0 : Int)]))) ∧ sm (some (Blk.fix (D.arr .u64 4 [(0 : Int), (0 : Int), (0 : Int), (0 : Int)]))) ∧ some (Blk.fix (D.arr .u64 8 (nB 18446744073709551616 8 (vB 18446744073709551616 a / 2 ^ x / vB 18446744073709551616 m * 2 ^ x)))) = some (Blk.fix (D.arr .u64 8 (nB 18446744073709551616 8 (vB 18446744073709551616 a / 2 ^ (IntKind.i64.wrap ((↑x : Int) - (1 : Int) - (1 : Int)) + (1 : Int)).toNat / vB 18446744073709551616 m * 2 ^ (IntKind.i64.wrap ((↑x : Int) - (1 : Int) - (1 : Int)) + (1 : Int)).toNat)))) ∧ some (Blk.fix (D.arr .u64 4 ((nB 18446744073709551616 4 (shf (vB 18446744073709551616 (nB 18446744073709551616 4 (vB 18446744073709551616 a / 2 ^ x % vB 18446744073709551616 m))) (1 : Int))).set 0 (ior IntKind.u64 ((nB 18446744073709551616 4 (shf (vB 18446744073709551616 (nB 18446744073709551616 4 (vB 18446744073709551616 a / 2 ^ x % vB 18446744073709551616 m))) (1 : Int))).getD 0 (0 : Int)) (iand IntKind.u64 (ishr IntKind.u64 (a.getD (IntKind.i64.wrap (((↑x : Int) - (1 : Int)).tdiv (64 : Int))).toNat (0 : Int)) (IntKind.u64.wrap (((↑x : Int) - (1 : Int)).tmod (64 : Int)))) (1 : Int)))))) = some (Blk.fix (D.arr .u64 4 (nB 18446744073709551616 4 (vB 18446744073709551616 a / 2 ^ (IntKind.i64.wrap ((↑x : Int) - (1 : Int) - (1 : Int)) + (1 : Int)).toNat % vB 18446744073709551616 m)))) ∧ True) ∧ true = true) ∧ (IntKind.i64.wrap ((↑x : Int) - (1 : Int) - (1 : Int)) + (1 : Int)).toNat ≤ 512 ∧ (IntKind.i64.wrap ((↑x : Int) - (1 : Int) - (1 : Int)) + (1 : Int)).toNat < x
  | false => (true = true ∧ 8 ≠ 0 ∧ 8 = 8 ∧ true = true) ∧ (true = true ∧ 4 ≠ 0 ∧ 4 = 4 ∧ true = true) ∧ (true = true ∧ Sk.arr 8 = Sk.arr 8 ∧ 8 ≠ 0 ∧ 8 = 8 ∧ false = false) ∧ (true = true ∧ Sk.arr 4 = Sk.arr 4 ∧ 4 ≠ 0 ∧ 4 = 4 ∧ false = false) ∧ True ∧ ((8 ≠ 0 ∧ 8 = 8 ∧ true = true) ∧ (4 ≠ 0 ∧ 4 = 4 ∧ true = true) ∧ false = false ∧ True) ∧ D.tup [D.arr .u64 8 (nB 18446744073709551616 8 (vB 18446744073709551616 a / 2 ^ x / vB 18446744073709551616 m * 2 ^ x)), D.arr .u64 4 (nB 18446744073709551616 4 (vB 18446744073709551616 a / 2 ^ x % vB 18446744073709551616 m)), D.val (.int .i64 0)] = F) := by kernel_rfl
set_option maxRecDepth 100000 in
theorem vc108  (a m : List Int) (F : D)  :
    (owed c108 (fun _ => none) Tryd.f108 [num8 a, num4 m] F) = (
 (True ∧ false = false) ∧ (True ∧ false = false) ∧ (True ∧ 4 ≠ 0) ∧ True ∧ (8 ≠ 0 ∧ 8 = 8 ∧ true = true) ∧ (4 ≠ 0 ∧ 4 = 4 ∧ true = true) ∧ (∃ (a_1 : List Int), ∃ (m_1 : List Int), [D.arr .u64 8 a, D.arr .u64 4 m] = [D.arr .u64 8 a_1, D.arr .u64 4 m_1] ∧ (okw a_1 ∧ a_1.length = 8) ∧ okw m_1 ∧ m_1.length = 4) ∧ True ∧ (0 < 3 ∧ false = false) ∧ (1 < 3 ∧ false = false) ∧ (2 < 3 ∧ false = false) ∧ (True ∧ 8 ≠ 0) ∧ (True ∧ 4 ≠ 0) ∧ (Sk.arr 8 = Sk.arr 8 ∧ 8 ≠ 0 ∧ 8 = 8 ∧ false = false) ∧ (Sk.arr 4 = Sk.arr 4 ∧ 4 ≠ 0 ∧ 4 = 4 ∧ false = false) ∧ True ∧ (4 ≠ 0 ∧ 4 = 4 ∧ true = true) ∧ True ∧ (Sk.arr 4 = Sk.arr 4 ∧ 4 ≠ 0 ∧ 4 = 4 ∧ false = false) ∧ True ∧ ((4 ≠ 0 ∧ 4 = 4 ∧ true = true) ∧ false = false ∧ True) ∧ D.tup [D.arr .u64 4 (nB 18446744073709551616 4 (dvr (vB 18446744073709551616 a) (vB 18446744073709551616 m))), D.val (.int .i64 (↑(dve (vB 18446744073709551616 m)) : Int))] = F) := by kernel_rfl
end Go.Proofs.YtkicjckhkefnpaaDoor
namespace Go.Proofs.YtkicjckhkefnpaaDoor
open Go Go.Vg
theorem or_words (n v i : Nat) (h : i < 64 * n) :
  (nB 18446744073709551616 n v).set (i / 64) ((v / 18446744073709551616 ^ (i / 64) % 18446744073709551616 ||| 2 ^ (i % 64) : Nat) : Int) = nB 18446744073709551616 n (v ||| 2 ^ i) := by
 have hlen : ((nB 18446744073709551616 n v).set (i / 64) ((v / 18446744073709551616 ^ (i / 64) % 18446744073709551616 ||| 2 ^ (i % 64) : Nat) : Int)).length = n := by rw [List.length_set, nB_length]
 apply List.ext_getElem
 ·rw [hlen, nB_length]
 ·intro p h1 h2
  have hp : p < n := by rw [nB_length] at h2; exact h2
  have e2 : (nB 18446744073709551616 n (v ||| 2 ^ i))[p] = (((v ||| 2 ^ i) / 18446744073709551616 ^ p % 18446744073709551616 : Nat) : Int) := by
   have := nB_get 18446744073709551616 n (v ||| 2 ^ i) p hp
   rw [List.getD_eq_getElem?_getD, List.getElem?_eq_getElem h2] at this
   exact this
  have e3 : (nB 18446744073709551616 n v)[p]'(by rw [nB_length]; exact hp) = ((v / 18446744073709551616 ^ p % 18446744073709551616 : Nat) : Int) := by
   have := nB_get 18446744073709551616 n v p hp
   rw [List.getD_eq_getElem?_getD, List.getElem?_eq_getElem (by rw [nB_length]; exact hp)] at this
   exact this
  rw [e2, List.getElem_set]
  by_cases hpi : i / 64 = p
  ·subst hpi
   rw [if_pos rfl]
   congr 1
   apply Nat.eq_of_testBit_eq
   intro t
   rw [Nat.testBit_or, wbit, wbit, Nat.testBit_or, Nat.testBit_two_pow, Nat.testBit_two_pow]
   by_cases h3 : t < 64
   ·by_cases h4 : i % 64 = t
    ·have h5 : i = 64 * (i / 64) + t := by omega
     rw [decide_eq_true h4, decide_eq_true h5]
     simp [h3]
    ·have h5 : ¬ i = 64 * (i / 64) + t := by omega
     rw [decide_eq_false h4, decide_eq_false h5]
     simp
   ·have h4 : ¬ i % 64 = t := by omega
    rw [decide_eq_false h4, decide_eq_false h3]
    simp
  ·rw [if_neg hpi, e3]
   congr 1
   apply Nat.eq_of_testBit_eq
   intro t
   rw [wbit, wbit, Nat.testBit_or, Nat.testBit_two_pow]
   by_cases h3 : t < 64
   ·have h5 : ¬ i = 64 * p + t := by omega
    rw [decide_eq_false h5]
    simp
   ·rw [decide_eq_false h3]
    simp
theorem set_get (L : List Int) (i : Nat) (h : i < L.length) : L.set i (L.getD i 0) = L := by
 apply List.ext_getElem
 ·rw [List.length_set]
 ·intro p h1 h2
  rw [List.getElem_set]
  split
  ·rename_i e
   subst e
   simp [List.getD_eq_getElem?_getD, h]
  ·rfl
theorem bit_of {a : List Int} (ha : okw a) (ha8 : a.length = 8) (i : Nat) (hi : i < 512) :
  iand .u64 (ishr .u64 (a.getD (i / 64) 0) ((i % 64 : Nat) : Int)) 1 = ((wv a / 2 ^ i % 2 : Nat) : Int) := by
 have hg := vB_get (b := 18446744073709551616) ha (i := i / 64) (by omega)
 have hs := sub_at 2 64 (wv a) i (by decide)
 rw [show (2 ^ 64 : Nat) = 18446744073709551616 by decide] at hs
 have hlt : vB 18446744073709551616 a / 18446744073709551616 ^ (i / 64) % 18446744073709551616 / 2 ^ (i % 64) < kb .u64 := Nat.lt_of_le_of_lt (Nat.div_le_self _ _) (Nat.mod_lt _ (by decide))
 rw [hg, ishrN .u64 (by simp only [IntKind.bits]; omega), show (1 : Int) = ((1 : Nat) : Int) from rfl, iandN .u64 hlt (by decide), Nat.and_one_is_mod]
 exact congrArg _ hs
theorem low_or (R b : Nat) (hb : b < 2) :
  (nB 18446744073709551616 4 (R * 2 ^ 1)).set 0 (ior .u64 ((nB 18446744073709551616 4 (R * 2 ^ 1)).getD 0 0) ((b : Nat) : Int)) = nB 18446744073709551616 4 (2 * R + b) := by
 have hg := nB_get 18446744073709551616 4 (R * 2 ^ 1) 0 (by decide)
 have e1 : R * 2 ^ 1 = 2 * R := by rw [Nat.pow_one, Nat.mul_comm]
 rw [e1] at hg ⊢
 obtain rfl | rfl : b = 0 ∨ b = 1 := by omega
 ·rw [hg, word_or _ _ _ rfl (Nat.mod_lt _ (by decide)) (by decide), Nat.or_zero, ← hg, set_get _ _ (by rw [nB_length]; decide)]
  rfl
 ·have := or_words 4 (2 * R) 0 (by decide)
  have e : 2 * R ||| 1 = 2 * R + 1 := (Nat.two_pow_add_eq_or_of_lt (i := 1) (b := 1) (by decide) R).symm
  rw [hg, word_or _ _ _ rfl (Nat.mod_lt _ (by decide)) (by decide), ← e]
  exact this
theorem q_or (Q i : Nat) (hi : i < 512) :
  (nB 18446744073709551616 8 (Q * 2 ^ (i + 1))).set (i / 64) (ior .u64 ((nB 18446744073709551616 8 (Q * 2 ^ (i + 1))).getD (i / 64) 0) (ishl .u64 1 ((i % 64 : Nat) : Int))) = nB 18446744073709551616 8 ((2 * Q + 1) * 2 ^ i) := by
 have hg := nB_get 18446744073709551616 8 (Q * 2 ^ (i + 1)) (i / 64) (by omega)
 have hk : 2 ^ (i % 64) < 18446744073709551616 := by
  have : 2 ^ (i % 64) ≤ 2 ^ 63 := Nat.pow_le_pow_right (by decide) (by omega)
  omega
 have e1 : ishl .u64 1 ((i % 64 : Nat) : Int) = ((2 ^ (i % 64) : Nat) : Int) := by
  rw [show (1 : Int) = ((1 : Nat) : Int) from rfl, ishlN .u64 (by simp only [IntKind.bits]; omega), Nat.one_mul, wN64, Nat.mod_eq_of_lt hk]
 have e2 : (2 * Q + 1) * 2 ^ i = Q * 2 ^ (i + 1) ||| 2 ^ i := by
  have := Nat.two_pow_add_eq_or_of_lt (i := i + 1) (b := 2 ^ i) (Nat.pow_lt_pow_right (by decide) (by omega)) Q
  rw [Nat.mul_comm Q, ← this, Nat.add_mul, Nat.one_mul, Nat.pow_succ, Nat.mul_right_comm, Nat.mul_comm 2 (2 ^ i)]
 rw [hg, e1, word_or _ _ _ rfl (Nat.mod_lt _ (by decide)) hk, or_words 8 _ i (by omega), ← e2]
theorem div_step (A M i : Nat) (hM : 0 < M) :
  (2 * (A / 2 ^ (i + 1) % M) + A / 2 ^ i % 2 < M ∧ A / 2 ^ i % M = 2 * (A / 2 ^ (i + 1) % M) + A / 2 ^ i % 2 ∧ A / 2 ^ i / M = 2 * (A / 2 ^ (i + 1) / M)) ∨
  (M ≤ 2 * (A / 2 ^ (i + 1) % M) + A / 2 ^ i % 2 ∧ A / 2 ^ i % M = 2 * (A / 2 ^ (i + 1) % M) + A / 2 ^ i % 2 - M ∧ A / 2 ^ i / M = 2 * (A / 2 ^ (i + 1) / M) + 1) := by
 have e : A / 2 ^ (i + 1) = A / 2 ^ i / 2 := by rw [Nat.pow_succ, Nat.div_div_eq_div_mul]
 rw [e]
 generalize A / 2 ^ i = a
 have h1 := Nat.div_add_mod (a / 2) M
 have h2 := Nat.div_add_mod a 2
 have hr := Nat.mod_lt (a / 2) hM
 generalize a / 2 / M = Q at h1 ⊢
 generalize a / 2 % M = R at h1 hr ⊢
 have h3 : a = M * (2 * Q) + (2 * R + a % 2) := by
  rw [Nat.mul_left_comm]
  omega
 have hb : a % 2 < 2 := Nat.mod_lt _ (by decide)
 generalize a % 2 = b at h3 hb ⊢
 rcases Nat.lt_or_ge (2 * R + b) M with h | h
 ·left
  refine ⟨h, ?_, ?_⟩
  ·rw [h3, Nat.mul_add_mod, Nat.mod_eq_of_lt h]
  ·rw [h3, Nat.mul_add_div hM, Nat.div_eq_of_lt h, Nat.add_zero]
 ·right
  have h4 : a = M * (2 * Q + 1) + (2 * R + b - M) := by
   rw [Nat.mul_add, Nat.mul_one]
   omega
  have h5 : 2 * R + b - M < M := by omega
  refine ⟨h, ?_, ?_⟩
  ·rw [h4, Nat.mul_add_mod, Nat.mod_eq_of_lt h5]
  ·rw [h4, Nat.mul_add_div hM, Nat.div_eq_of_lt h5, Nat.add_zero]
theorem wv_zero {m : List Int} (hm : okw m) (hm4 : m.length = 4) : eqB m [0, 0, 0, 0] = decide (wv m = 0) := by
 rw [eqB_eq, Bool.eq_iff_iff, decide_eq_true_iff, decide_eq_true_iff]
 constructor
 ·rintro rfl
  rfl
 ·intro h
  have := nB_vB (b := 18446744073709551616) hm
  rw [hm4] at this
  have h' : vB 18446744073709551616 m = 0 := h
  rw [← this, h']
  rfl
theorem wv_nB (v : Nat) : vB 18446744073709551616 (nB 18446744073709551616 4 v) = v % 2 ^ 256 := vB_nB _ _ _
theorem nB_okw (n v : Nat) : okw (nB 18446744073709551616 n v) := by
 intro x hx
 induction n generalizing v with
 | zero => cases hx
 | succ n ih =>
  rw [nB, List.mem_cons] at hx
  rcases hx with rfl | hx
  ·have := Nat.mod_lt v (y := 18446744073709551616) (by decide)
   omega
  ·exact ih _ hx
theorem dif_ge {X M : Nat} (h1 : M ≤ X) (h2 : X < 2 * M) (h3 : M < 2 ^ 256) : dif (X % 2 ^ 256) M = X - M := by
 unfold dif
 generalize (2 : Nat) ^ 256 = P at *
 rcases Nat.lt_or_ge X P with h | h
 ·rw [Nat.mod_eq_of_lt h]
  exact mod_one _ _ _ (.inr (by omega)) (by omega)
 ·have e : X % P = X - P := mod_one _ _ _ (.inr (by omega)) (by omega)
  rw [e]
  exact mod_one _ _ _ (.inl (by omega)) (by omega)
set_option maxRecDepth 100000 in
theorem m123 : Meets Tryd.prog 123 sp123 := by
 refine meets_of_owed (C := c123) ⟨tab_ok, lkS_ok ⟨m96, m93, trivial⟩⟩ (by kernel_rfl) (by kernel_rfl : Tryd.prog.funcs[123]? = some Tryd.f123) (by kernel_rfl) (by kernel_rfl) (by kernel_rfl) _ ?_
 rintro _ ⟨a, m, rfl, ⟨ha, ha8⟩, hm, hm4⟩
 refine ⟨fun _ => rfl, inv123 a m, ?_⟩
 show owed c123 (inv123 a m) Tryd.f123 [num8 a, num4 m] (.tup [num8 (nB 18446744073709551616 8 (dvq (wv a) (wv m))), num4 (nB 18446744073709551616 4 (dvr (wv a) (wv m))), i64n (dve (wv m))])
 rw [vc123]
 have hA : wv a < 2 ^ 512 := by
  have := vB_lt (b := 18446744073709551616) ha
  rw [ha8, B_pow, show 64 * 8 = 512 from rfl] at this
  exact this
 have hMlt := wv_lt hm hm4
 rw [wv_zero hm hm4]
 simp (decide := true) only [eq_self, true_and, and_true, ne_eq, not_false_eq_true, Int.toNat_natCast]
 split
 ·rename_i h
  have h := of_decide_eq_true h
  simp only [dvq, dvr, dve, h, Nat.div_zero, if_true]
  rfl
 rename_i h
 have h := of_decide_eq_false h
 have hM : 0 < wv m := by omega
 refine ⟨?_, ?_⟩
 ·have e : ∀ n, n = 512 → wv a / 2 ^ n = 0 := fun n hn => by rw [hn]; exact Nat.div_eq_of_lt hA
  have e2 := e (511 + 1 : Int).toNat rfl
  rw [e2, Nat.zero_div, Nat.zero_mul, Nat.zero_mod]
  and_intros <;> first | rfl | omega | trivial
 intro j hj
 split
 ·rename_i h1
  have h1 := of_decide_eq_true h1
  obtain ⟨i, rfl⟩ : ∃ i, j = i + 1 := ⟨j - 1, by omega⟩
  have e1 : (i : Int).tdiv 64 = ((i / 64 : Nat) : Int) := tdivN i 64
  have e2 : (i : Int).tmod 64 = ((i % 64 : Nat) : Int) := tmodN i 64
  rw [show ((i + 1 : Nat) : Int) - 1 = (i : Int) by omega, e1, e2, wi (n := ((i / 64 : Nat) : Int)) (by omega) (by omega), wu (n := ((i % 64 : Nat) : Int)) (by omega) (by omega), wi (n := (i : Int) - 1) (by omega) (by omega), show (i : Int) - 1 + 1 = (i : Int) by omega]
  simp only [Int.toNat_natCast]
  rw [bit_of ha ha8 i (by omega)]
  have hst := div_step (wv a) (wv m) i hM
  have hRm := Nat.mod_lt (wv a / 2 ^ (i + 1)) hM
  have hbl : wv a / 2 ^ i % 2 < 2 := Nat.mod_lt _ (by decide)
  have hq := q_or (wv a / 2 ^ (i + 1) / wv m) i (by omega)
  have hq2 : wv a / 2 ^ (i + 1) / wv m * 2 ^ (i + 1) = 2 * (wv a / 2 ^ (i + 1) / wv m) * 2 ^ i := by
   rw [Nat.pow_succ, Nat.mul_comm (2 ^ i) 2, ← Nat.mul_assoc, Nat.mul_comm _ 2]
  generalize wv a / 2 ^ (i + 1) % wv m = R at *
  generalize wv a / 2 ^ (i + 1) / wv m = Q at *
  generalize wv a / 2 ^ i % 2 = b at *
  have hR : vB 18446744073709551616 (nB 18446744073709551616 4 R) = R := by rw [wv_nB, Nat.mod_eq_of_lt (by omega)]
  have hs : shf R 1 = R * 2 ^ 1 := rfl
  rw [hR, hs, low_or R b hbl, wv_nB, hq]
  have htop : ishr .u64 ((nB 18446744073709551616 4 R).getD 3 0) 63 = ((R / 2 ^ 255 : Nat) : Int) := by
   rw [nB_get _ _ _ _ (by decide), show (63 : Int) = ((63 : Nat) : Int) from rfl, ishrN .u64 (by decide)]
   congr 1
   have : R / 18446744073709551616 ^ 3 % 18446744073709551616 = R / 18446744073709551616 ^ 3 := Nat.mod_eq_of_lt (Nat.div_lt_of_lt_mul (by omega))
   rw [this, Nat.div_div_eq_div_mul]
  rw [htop]
  have hok1 : ∃ (l : List Int) (n : Int), [num4 (nB 18446744073709551616 4 R), D.val (Value.int IntKind.i64 1)] = [num4 l, D.val (Value.int IntKind.i64 n)] ∧ (okw l ∧ l.length = 4) ∧ i64ok n := ⟨_, 1, rfl, ⟨nB_okw _ _, nB_length _ _ _⟩, by unfold i64ok; omega⟩
  have hok2 : ∃ (l m_1 : List Int), [num4 (nB 18446744073709551616 4 (2 * R + b)), num4 m] = [num4 l, num4 m_1] ∧ (okw l ∧ l.length = 4) ∧ okw m_1 ∧ m_1.length = 4 := ⟨_, _, rfl, ⟨nB_okw _ _, nB_length _ _ _⟩, hm, hm4⟩
  refine ⟨hok1, by omega, by omega, hok2, ?_⟩
  split
  ·rename_i h2
   have h2 : ((R / 2 ^ 255 : Nat) : Int) = 1 := by simpa using h2
   have h3 : 2 ^ 255 ≤ R := by omega
   have hge : wv m ≤ 2 * R + b := by omega
   rcases hst with ⟨c1, c2, c3xx⟩ | ⟨c1, c2, c3xx⟩
   ·omega
   ·rw [dif_ge hge (by omega) hMlt, c2, c3xx]
    and_intros <;> first | omega | rfl | trivial
  ·rename_i h2
   have h2 : ¬ ((R / 2 ^ 255 : Nat) : Int) = 1 := by simpa using h2
   have h3 : R < 2 ^ 255 := by omega
   have hX : (2 * R + b) % 2 ^ 256 = 2 * R + b := Nat.mod_eq_of_lt (by omega)
   rcases hst with ⟨c1, c2, c3xx⟩ | ⟨c1, c2, c3xx⟩
   ·have hbor : bor ((2 * R + b) % 2 ^ 256) (wv m) = 1 := by rw [hX]; exact if_pos c1
    rw [hbor, c2, c3xx, hq2]
    split
    ·rename_i h4
     exact absurd h4 (by decide)
    ·and_intros <;> first | omega | rfl | trivial
   ·have hbor : bor ((2 * R + b) % 2 ^ 256) (wv m) = 0 := by rw [hX]; exact if_neg (by omega)
    rw [hbor, dif_ge c1 (by omega) hMlt, c2, c3xx]
    split
    ·and_intros <;> first | omega | rfl | trivial
    ·rename_i h4
     exact absurd h4 (by decide)
 ·rename_i h1
  have h1 := of_decide_eq_false h1
  obtain rfl : j = 0 := by omega
  simp only [Nat.pow_zero, Nat.div_one, Nat.mul_one, dvq, dvr, dve, h, if_false]
  rfl
set_option maxRecDepth 100000 in
theorem m108 : Meets Tryd.prog 108 sp108 := by
 refine meets_of_owed (C := c108) ⟨tab_ok, lkS_ok ⟨m123, trivial⟩⟩ (by kernel_rfl) (by kernel_rfl : Tryd.prog.funcs[108]? = some Tryd.f108) (by kernel_rfl) (by kernel_rfl) (by kernel_rfl) _ ?_
 rintro _ ⟨a, m, rfl, ha, hm⟩
 refine ⟨fun _ => rfl, fun _ => none, ?_⟩
 show owed c108 (fun _ => none) Tryd.f108 [num8 a, num4 m] (.tup [num4 (nB 18446744073709551616 4 (dvr (wv a) (wv m))), i64n (dve (wv m))])
 rw [vc108]
 simp (decide := true) only [eq_self, true_and, and_true, ne_eq, not_false_eq_true, Int.toNat_natCast]
 exact ⟨a, m, rfl, ha, hm⟩
end Go.Proofs.YtkicjckhkefnpaaDoor
namespace Go.Proofs.YtkicjckhkefnpaaDoor
open Go Go.Vg
def len1 (l : List Int) : Prop := l.length ≤ 1000
abbrev vD (l : List Int) : Nat := vB 65536 l
def sp99 : Go.Vg.Spec := ⟨fun ds => ∃ l m, ds = [dgs l, dgs m] ∧ (okd l ∧ lenS l) ∧ okd m ∧ lenS m, fun ds => i64 (cmpN (vD (intsOf (ds.headD default))) (vD (intsOf (ds.getD 1 default)))), true, [89, 89]⟩
def sp61 : Go.Vg.Spec := ⟨fun ds => ∃ l m, ds = [dgs l, dgs m] ∧ (okd l ∧ lenS l) ∧ (okd m ∧ lenS m) ∧ vD m ≤ vD l, fun ds => dgs (dg (vD (intsOf (ds.headD default)) - vD (intsOf (ds.getD 1 default)))), false, [89, 89]⟩
def sp104 : Go.Vg.Spec := ⟨fun ds => ∃ l m, ds = [dgs l, dgs m] ∧ (okd l ∧ len1 l) ∧ (okd m ∧ len1 m) ∧ vD m ≠ 0,
 fun ds => .tup [dgs (dg (vD (intsOf (ds.headD default)) / vD (intsOf (ds.getD 1 default)))), dgs (dg (vD (intsOf (ds.headD default)) % vD (intsOf (ds.getD 1 default))))], false, [89, 89]⟩
def sp51 : Go.Vg.Spec := ⟨fun ds => ∃ l m, ds = [dgs l, dgs m] ∧ (okd l ∧ len1 l) ∧ (okd m ∧ len1 m) ∧ vD m ≠ 0,
 fun ds => dgs (dg (vD (intsOf (ds.headD default)) % vD (intsOf (ds.getD 1 default)))), false, [89, 89]⟩
def c99 : Ctx := ⟨tab, lkS [(105, sp105)], [], []⟩
def c61 : Ctx := ⟨tab, lkS [(105, sp105), (106, sp106)], [5], [34]⟩
def c104 : Ctx := ⟨tab, lkS [(54, sp54), (106, sp106), (99, sp99), (61, sp61)], [26], [60, 100029]⟩
def c51 : Ctx := ⟨tab, lkS [(104, sp104)], [], []⟩
def inv99 (l m : List Int) : Nat → Option Inv
 | 2 => some ⟨Int, fun i => [(5, .d (i64 i))], fun _ => [], fun s => slotN s 5, fun _ i => (-1 ≤ i ∧ i ≤ 65536) ∧ vD (l.drop (i + 1).toNat) = vD (m.drop (i + 1).toNat), fun i => (i + 1).toNat⟩
 | _ => none
def sbD (l m : List Int) (i : Nat) : Nat := (vD (l.take i) + 65536 ^ i - vD (m.take i)) % 65536 ^ i
def inv61 (l m : List Int) : Nat → Option Inv
 | 4 => some ⟨Nat, fun i => [(11, .d (i64 i)), (6, .d (i64 (bor (vD (l.take i)) (vD (m.take i))))), (5, .row 5)], fun i => [(5, .row 3 (dgs (nB 65536 i (sbD l m i))))], fun s => (slotN s 11).toNat, fun _ i => i ≤ l.length, fun i => l.length - i⟩
 | _ => none
def inv104 (l m : List Int) : Nat → Option Inv
 | 4 => some ⟨Nat, fun z => [(8, .d (.val (.int .i64 ((z : Int) - 1)))), (7, .d (dgs (dg (vD (l.drop z) % vD m))))], fun z => [(14, .fix (.arr .i64 l.length (List.replicate z 0 ++ nB 65536 (l.length - z) (vD (l.drop z) / vD m))))], fun s => (slotN s 8 + 1).toNat, fun _ z => z ≤ l.length, fun z => z⟩
 | 8 => some ⟨Nat × Nat, fun z => [(9, .d (i64 z.1)), (10, .d (i64 z.2))], fun _ => [], fun s => ((slotN s 9).toNat, (slotN s 10).toNat), fun s z => (z.1 < z.2 ∧ z.2 ≤ 65536) ∧ vD m * z.1 ≤ vD (intsOf (slotD s 7)) ∧ vD (intsOf (slotD s 7)) < vD m * z.2, fun z => z.2 - z.1⟩
 | _ => none
set_option maxRecDepth 100000 in
theorem vc99  (l m : List Int) (F : D)  :
    (owed c99 (inv99 l m) Tryd.f99 [dgs l, dgs m] F) = (
 True ∧ True ∧ True ∧ True ∧ True ∧ IntKind.i64 = IntKind.i64 ∧ True ∧ True ∧ (((sm (AV.d (D.val (.int .i64 (IntKind.i64.wrap ((bif decide ((↑l.length : Int) < (↑m.length : Int)) then (↑m.length : Int) else (↑l.length : Int)) - (1 : Int)))))) ∧ True) ∧ True ∧ true = true) ∧ ((-1 : Int) ≤ IntKind.i64.wrap ((bif decide ((↑l.length : Int) < (↑m.length : Int)) then (↑m.length : Int) else (↑l.length : Int)) - (1 : Int)) ∧ IntKind.i64.wrap ((bif decide ((↑l.length : Int) < (↑m.length : Int)) then (↑m.length : Int) else (↑l.length : Int)) - (1 : Int)) ≤ (65536 : Int)) ∧ vB 65536 (List.drop (IntKind.i64.wrap ((bif decide ((↑l.length : Int) < (↑m.length : Int)) then (↑m.length : Int) else (↑l.length : Int)) - (1 : Int)) + (1 : Int)).toNat l) = vB 65536 (List.drop (IntKind.i64.wrap ((bif decide ((↑l.length : Int) < (↑m.length : Int)) then (↑m.length : Int) else (↑l.length : Int)) - (1 : Int)) + (1 : Int)).toNat m)) ∧ ∀ (x : Int), ((-1 : Int) ≤ x ∧ x ≤ (65536 : Int)) ∧ vB 65536 (List.drop (x + (1 : Int)).toNat l) = vB 65536 (List.drop (x + (1 : Int)).toNat m) → true = true ∧ True ∧ True ∧ match decide (x ≥ (0 : Int)) with
 | true => True ∧ True ∧ (∃ (l_1 : List Int), ∃ (i : Int), [D.ints .i64 l, D.val (Value.int IntKind.i64 x)] = [D.ints .i64 l_1, D.val (Value.int IntKind.i64 i)] ∧ lenOk l_1) ∧ True ∧ True ∧ (∃ (l : List Int), ∃ (i : Int), [D.ints .i64 m, D.val (Value.int IntKind.i64 x)] = [D.ints .i64 l, D.val (Value.int IntKind.i64 i)] ∧ lenOk l) ∧ True ∧ True ∧ True ∧ True ∧ True ∧ match decide (dig l x < dig m x) with
  | true => True ∧ (false = false ∧ True) ∧ D.val (.int .i64 (-1 : Int)) = F
  | false => True ∧ True ∧ True ∧ match decide (dig l x > dig m x) with
   | true => True ∧ (false = false ∧ True) ∧ D.val (.int .i64 1) = F
   | false => True ∧ True ∧ True ∧ ((sm (AV.d (D.val (.int .i64 (IntKind.i64.wrap (x - (1 : Int)))))) ∧ True) ∧ True ∧ true = true) ∧ (((-1 : Int) ≤ IntKind.i64.wrap (x - (1 : Int)) ∧ IntKind.i64.wrap (x - (1 : Int)) ≤ (65536 : Int)) ∧ vB 65536 (List.drop (IntKind.i64.wrap (x - (1 : Int)) + (1 : Int)).toNat l) = vB 65536 (List.drop (IntKind.i64.wrap (x - (1 : Int)) + (1 : Int)).toNat m)) ∧ (IntKind.i64.wrap (x - (1 : Int)) + (1 : Int)).toNat < (x + (1 : Int)).toNat
 | false => True ∧ (false = false ∧ True) ∧ D.val (.int .i64 0) = F) := by kernel_rfl
set_option maxRecDepth 100000 in
theorem vc61  (l m : List Int) (F : D)  :
    (owed c61 (inv61 l m) Tryd.f61 [dgs l, dgs m] F) = (
 True ∧ 1 ≠ 0 ∧ True ∧ True ∧ True ∧ True ∧ (((AV.d (D.val (.int .i64 0)) = AV.d (D.val (.int .i64 (↑(Int.toNat (0 : Int)) : Int))) ∧ AV.d (D.val (.int .i64 0)) = AV.d (D.val (.int .i64 (↑(bor (vB 65536 (List.take (Int.toNat (0 : Int)) l)) (vB 65536 (List.take (Int.toNat (0 : Int)) m))) : Int))) ∧ sm (AV.row 5) ∧ True) ∧ (some (Blk.row (3 : TypeId) (D.ints .i64 [])) = some (Blk.row (3 : TypeId) (D.ints .i64 (nB 65536 (Int.toNat (0 : Int)) (sbD l m (Int.toNat (0 : Int)))))) ∧ True) ∧ true = true) ∧ Int.toNat (0 : Int) ≤ l.length) ∧ ∀ (x : Nat), x ≤ l.length → true = true ∧ True ∧ match decide ((↑x : Int) < (↑l.length : Int)) with
 | true => True ∧ True ∧ True ∧ True ∧ ((0 : Int) ≤ (↑x : Int) ∧ (↑x : Int) < (↑l.length : Int) ∧ 1 = 1) ∧ (1 ≠ 0 ∧ 1 = 1 ∧ false = false) ∧ True ∧ True ∧ (∃ (l : List Int), ∃ (i : Int), [D.ints .i64 m, D.val (.int .i64 (↑x : Int))] = [D.ints .i64 l, D.val (Value.int IntKind.i64 i)] ∧ lenOk l) ∧ True ∧ True ∧ True ∧ True ∧ True ∧ True ∧ True ∧ match decide (IntKind.i64.wrap (IntKind.i64.wrap (l.getD (↑x : Int).toNat (0 : Int) - dig m (↑x : Int)) - (↑(bor (vB 65536 (List.take x l)) (vB 65536 (List.take x m))) : Int)) < (0 : Int)) with
  | true => True ∧ True ∧ True ∧ True ∧ True ∧ True ∧ (1 = 1 ∧ 1 ≤ 4096) ∧ ((3 : TypeId) = (3 : TypeId) ∧ 89 = 89 ∧ true = true ∧ (nB 65536 x (sbD l m x) ++ [IntKind.i64.wrap (IntKind.i64.wrap (IntKind.i64.wrap (l.getD (↑x : Int).toNat (0 : Int) - dig m (↑x : Int)) - (↑(bor (vB 65536 (List.take x l)) (vB 65536 (List.take x m))) : Int)) + (65536 : Int))]).length ≤ 140737488355328 ∧ (nB 65536 x (sbD l m x) ++ [IntKind.i64.wrap (IntKind.i64.wrap (IntKind.i64.wrap (l.getD (↑x : Int).toNat (0 : Int) - dig m (↑x : Int)) - (↑(bor (vB 65536 (List.take x l)) (vB 65536 (List.take x m))) : Int)) + (65536 : Int))]).length * 8 ≤ 140737488355328 ∧ 1 ≠ 0 ∧ 1 = 1) ∧ True ∧ True ∧ True ∧ ((AV.d (D.val (.int .i64 (IntKind.i64.wrap ((↑x : Int) + (1 : Int))))) = AV.d (D.val (.int .i64 (↑(IntKind.i64.wrap ((↑x : Int) + (1 : Int))).toNat : Int))) ∧ AV.d (D.val (.int .i64 1)) = AV.d (D.val (.int .i64 (↑(bor (vB 65536 (List.take (IntKind.i64.wrap ((↑x : Int) + (1 : Int))).toNat l)) (vB 65536 (List.take (IntKind.i64.wrap ((↑x : Int) + (1 : Int))).toNat m))) : Int))) ∧ sm (AV.row 5) ∧ True) ∧ (some (Blk.row (3 : TypeId) (D.ints .i64 (nB 65536 x (sbD l m x) ++ [IntKind.i64.wrap (IntKind.i64.wrap (IntKind.i64.wrap (l.getD (↑x : Int).toNat (0 : Int) - dig m (↑x : Int)) - (↑(bor (vB 65536 (List.take x l)) (vB 65536 (List.take x m))) : Int)) + (65536 : Int))]))) = some (Blk.row (3 : TypeId) (D.ints .i64 (nB 65536 (IntKind.i64.wrap ((↑x : Int) + (1 : Int))).toNat (sbD l m (IntKind.i64.wrap ((↑x : Int) + (1 : Int))).toNat)))) ∧ True) ∧ true = true) ∧ (IntKind.i64.wrap ((↑x : Int) + (1 : Int))).toNat ≤ l.length ∧ l.length - (IntKind.i64.wrap ((↑x : Int) + (1 : Int))).toNat < l.length - x
  | false => True ∧ True ∧ (1 = 1 ∧ 1 ≤ 4096) ∧ ((3 : TypeId) = (3 : TypeId) ∧ 89 = 89 ∧ true = true ∧ (nB 65536 x (sbD l m x) ++ [IntKind.i64.wrap (IntKind.i64.wrap (l.getD (↑x : Int).toNat (0 : Int) - dig m (↑x : Int)) - (↑(bor (vB 65536 (List.take x l)) (vB 65536 (List.take x m))) : Int))]).length ≤ 140737488355328 ∧ (nB 65536 x (sbD l m x) ++ [IntKind.i64.wrap (IntKind.i64.wrap (l.getD (↑x : Int).toNat (0 : Int) - dig m (↑x : Int)) - (↑(bor (vB 65536 (List.take x l)) (vB 65536 (List.take x m))) : Int))]).length * 8 ≤ 140737488355328 ∧ 1 ≠ 0 ∧ 1 = 1) ∧ True ∧ True ∧ True ∧ ((AV.d (D.val (.int .i64 (IntKind.i64.wrap ((↑x : Int) + (1 : Int))))) = AV.d (D.val (.int .i64 (↑(IntKind.i64.wrap ((↑x : Int) + (1 : Int))).toNat : Int))) ∧ AV.d (D.val (.int .i64 0)) = AV.d (D.val (.int .i64 (↑(bor (vB 65536 (List.take (IntKind.i64.wrap ((↑x : Int) + (1 : Int))).toNat l)) (vB 65536 (List.take (IntKind.i64.wrap ((↑x : Int) + (1 : Int))).toNat m))) : Int))) ∧ sm (AV.row 5) ∧ True) ∧ (some (Blk.row (3 : TypeId) (D.ints .i64 (nB 65536 x (sbD l m x) ++ [IntKind.i64.wrap (IntKind.i64.wrap (l.getD (↑x : Int).toNat (0 : Int) - dig m (↑x : Int)) - (↑(bor (vB 65536 (List.take x l)) (vB 65536 (List.take x m))) : Int))]))) = some (Blk.row (3 : TypeId) (D.ints .i64 (nB 65536 (IntKind.i64.wrap ((↑x : Int) + (1 : Int))).toNat (sbD l m (IntKind.i64.wrap ((↑x : Int) + (1 : Int))).toNat)))) ∧ True) ∧ true = true) ∧ (IntKind.i64.wrap ((↑x : Int) + (1 : Int))).toNat ≤ l.length ∧ l.length - (IntKind.i64.wrap ((↑x : Int) + (1 : Int))).toNat < l.length - x
 | false => True ∧ (∃ (l_1 : List Int), [D.ints .i64 (nB 65536 x (sbD l m x))] = [D.ints .i64 l_1] ∧ lenOk l_1) ∧ True ∧ (false = false ∧ True) ∧ D.ints .i64 (trimL (nB 65536 x (sbD l m x))) = F) := by kernel_rfl
set_option maxRecDepth 100000 in
theorem vc104  (l m : List Int) (F : D)  :
    (owed c104 (inv104 l m) Tryd.f104 [dgs l, dgs m] F) = (
 True ∧ True ∧ True ∧ True ∧ ((0 : Int) ≤ (↑l.length : Int) ∧ (↑l.length : Int) = (↑l.length : Int) ∧ (↑l.length : Int) ≤ (281474976710656 : Int) ∧ (↑(8 : Nat) : Int) * (↑l.length : Int) ≤ (281474976710656 : Int) ∧ 1 = 1) ∧ True ∧ True ∧ True ∧ True ∧ True ∧ True ∧ (((AV.d (D.val (.int .i64 (IntKind.i64.wrap ((↑l.length : Int) - (1 : Int))))) = AV.d (D.val (.int .i64 ((↑(IntKind.i64.wrap ((↑l.length : Int) - (1 : Int)) + (1 : Int)).toNat : Int) - (1 : Int)))) ∧ dg (vB 65536 (List.drop (IntKind.i64.wrap ((↑l.length : Int) - (1 : Int)) + (1 : Int)).toNat l) % vB 65536 m) = [] ∧ True) ∧ (some (Blk.fix (D.arr .i64 (↑l.length : Int).toNat (List.replicate (↑l.length : Int).toNat (0 : Int)))) = some (Blk.fix (D.arr .i64 l.length (List.replicate (IntKind.i64.wrap ((↑l.length : Int) - (1 : Int)) + (1 : Int)).toNat (0 : Int) ++ nB 65536 (l.length - (IntKind.i64.wrap ((↑l.length : Int) - (1 : Int)) + (1 : Int)).toNat) (vB 65536 (List.drop (IntKind.i64.wrap ((↑l.length : Int) - (1 : Int)) + (1 : Int)).toNat l) / vB 65536 m)))) ∧ True) ∧ true = true) ∧ (IntKind.i64.wrap ((↑l.length : Int) - (1 : Int)) + (1 : Int)).toNat ≤ l.length) ∧ ∀ (x : Nat), x ≤ l.length → true = true ∧ True ∧ True ∧ match decide ((↑x : Int) - (1 : Int) ≥ 0) with
 | true => True ∧ True ∧ ((0 : Int) ≤ (↑x : Int) - (1 : Int) ∧ (↑x : Int) - (1 : Int) < (↑l.length : Int) ∧ 1 = 1) ∧ (1 ≠ 0 ∧ 1 = 1 ∧ false = false) ∧ (1 = 1 ∧ 1 ≤ 4096) ∧ True ∧ ((3 : TypeId) = (3 : TypeId) ∧ 89 = 89 ∧ true = true ∧ (l.getD ((↑x : Int) - (1 : Int)).toNat (0 : Int) :: dg (vB 65536 (List.drop x l) % vB 65536 m)).length ≤ 140737488355328 ∧ (l.getD ((↑x : Int) - (1 : Int)).toNat (0 : Int) :: dg (vB 65536 (List.drop x l) % vB 65536 m)).length * 8 ≤ 140737488355328 ∧ 1 ≠ 0 ∧ 1 = 1) ∧ (∃ (l_1 : List Int), [D.ints .i64 (l.getD ((↑x : Int) - (1 : Int)).toNat (0 : Int) :: dg (vB 65536 (List.drop x l) % vB 65536 m))] = [D.ints .i64 l_1] ∧ lenOk l_1) ∧ True ∧ True ∧ True ∧ (((AV.d (D.val (.int .i64 0)) = AV.d (D.val (.int .i64 (↑(0 : Nat) : Int))) ∧ AV.d (D.val (.int .i64 65536)) = AV.d (D.val (.int .i64 (↑(65536 : Nat) : Int))) ∧ True) ∧ (sm (some (Blk.fix (D.arr .i64 l.length (List.replicate x (0 : Int) ++ nB 65536 (l.length - x) (vB 65536 (List.drop x l) / vB 65536 m))))) ∧ True) ∧ true = true) ∧ (0 < 65536 ∧ 65536 ≤ 65536) ∧ vB 65536 m * 0 ≤ vB 65536 (trimL (l.getD ((↑x : Int) - (1 : Int)).toNat (0 : Int) :: dg (vB 65536 (List.drop x l) % vB 65536 m))) ∧ vB 65536 (trimL (l.getD ((↑x : Int) - (1 : Int)).toNat (0 : Int) :: dg (vB 65536 (List.drop x l) % vB 65536 m))) < vB 65536 m * 65536) ∧ ∀ (x_1 : Nat × Nat), (x_1.fst < x_1.snd ∧ x_1.snd ≤ 65536) ∧ vB 65536 m * x_1.fst ≤ vB 65536 (trimL (l.getD ((↑x : Int) - (1 : Int)).toNat (0 : Int) :: dg (vB 65536 (List.drop x l) % vB 65536 m))) ∧ vB 65536 (trimL (l.getD ((↑x : Int) - (1 : Int)).toNat (0 : Int) :: dg (vB 65536 (List.drop x l) % vB 65536 m))) < vB 65536 m * x_1.snd → true = true ∧ True ∧ True ∧ True ∧ True ∧ match decide (IntKind.i64.wrap ((↑x_1.snd : Int) - (↑x_1.fst : Int)) > (1 : Int)) with
  | true => True ∧ True ∧ True ∧ (2 : Int) ≠ 0 ∧ True ∧ True ∧ True ∧ (1 = 1 ∧ 1 ≤ 4096) ∧ (∃ (l : List Int), ∃ (m_1 : List Int), [D.ints .i64 m, D.ints .i64 [IntKind.i64.wrap ((IntKind.i64.wrap ((↑x_1.fst : Int) + (↑x_1.snd : Int))).tdiv (2 : Int))]] = [D.ints .i64 l, D.ints .i64 m_1] ∧ (okd l ∧ lenS l) ∧ okd m_1 ∧ lenS m_1) ∧ True ∧ (∃ (l_1 : List Int), ∃ (m_1 : List Int), [D.ints .i64 (dg (vB 65536 m * vB 65536 [IntKind.i64.wrap ((IntKind.i64.wrap ((↑x_1.fst : Int) + (↑x_1.snd : Int))).tdiv (2 : Int))])), D.ints .i64 (trimL (l.getD ((↑x : Int) - (1 : Int)).toNat (0 : Int) :: dg (vB 65536 (List.drop x l) % vB 65536 m)))] = [D.ints .i64 l_1, D.ints .i64 m_1] ∧ (okd l_1 ∧ lenS l_1) ∧ okd m_1 ∧ lenS m_1) ∧ True ∧ match decide (cmpN (vB 65536 (dg (vB 65536 m * vB 65536 [IntKind.i64.wrap ((IntKind.i64.wrap ((↑x_1.fst : Int) + (↑x_1.snd : Int))).tdiv (2 : Int))]))) (vB 65536 (trimL (l.getD ((↑x : Int) - (1 : Int)).toNat (0 : Int) :: dg (vB 65536 (List.drop x l) % vB 65536 m)))) ≤ (0 : Int)) with
   | true => True ∧ True ∧ ((AV.d (D.val (.int .i64 (IntKind.i64.wrap ((IntKind.i64.wrap ((↑x_1.fst : Int) + (↑x_1.snd : Int))).tdiv (2 : Int))))) = AV.d (D.val (.int .i64 (↑(IntKind.i64.wrap ((IntKind.i64.wrap ((↑x_1.fst : Int) + (↑x_1.snd : Int))).tdiv (2 : Int))).toNat : Int))) ∧ AV.d (D.val (.int .i64 (↑x_1.snd : Int))) = AV.d (D.val (.int .i64 (↑(↑x_1.snd : Int).toNat : Int))) ∧ True) ∧ (sm (some (Blk.fix (D.arr .i64 l.length (List.replicate x (0 : Int) ++ nB 65536 (l.length - x) (vB 65536 (List.drop x l) / vB 65536 m))))) ∧ True) ∧ true = true) ∧ (((IntKind.i64.wrap ((IntKind.i64.wrap ((↑x_1.fst : Int) + (↑x_1.snd : Int))).tdiv (2 : Int))).toNat < (↑x_1.snd : Int).toNat ∧ (↑x_1.snd : Int).toNat ≤ 65536) ∧ vB 65536 m * (IntKind.i64.wrap ((IntKind.i64.wrap ((↑x_1.fst : Int) + (↑x_1.snd : Int))).tdiv (2 : Int))).toNat ≤ vB 65536 (trimL (l.getD ((↑x : Int) - (1 : Int)).toNat (0 : Int) :: dg (vB 65536 (List.drop x l) % vB 65536 m))) ∧ vB 65536 (trimL (l.getD ((↑x : Int) - (1 : Int)).toNat (0 : Int) :: dg (vB 65536 (List.drop x l) % vB 65536 m))) < vB 65536 m * (↑x_1.snd : Int).toNat) ∧ (↑x_1.snd : Int).toNat - (IntKind.i64.wrap ((IntKind.i64.wrap ((↑x_1.fst : Int) + (↑x_1.snd : Int))).tdiv (2 : Int))).toNat < x_1.snd - x_1.fst
   | false => True ∧ True ∧ ((AV.d (D.val (.int .i64 (↑x_1.fst : Int))) = AV.d (D.val (.int .i64 (↑(↑x_1.fst : Int).toNat : Int))) ∧ AV.d (D.val (.int .i64 (IntKind.i64.wrap ((IntKind.i64.wrap ((↑x_1.fst : Int) + (↑x_1.snd : Int))).tdiv (2 : Int))))) = AV.d (D.val (.int .i64 (↑(IntKind.i64.wrap ((IntKind.i64.wrap ((↑x_1.fst : Int) + (↑x_1.snd : Int))).tdiv (2 : Int))).toNat : Int))) ∧ True) ∧ (sm (some (Blk.fix (D.arr .i64 l.length (List.replicate x (0 : Int) ++ nB 65536 (l.length - x) (vB 65536 (List.drop x l) / vB 65536 m))))) ∧ True) ∧ true = true) ∧ (((↑x_1.fst : Int).toNat < (IntKind.i64.wrap ((IntKind.i64.wrap ((↑x_1.fst : Int) + (↑x_1.snd : Int))).tdiv (2 : Int))).toNat ∧ (IntKind.i64.wrap ((IntKind.i64.wrap ((↑x_1.fst : Int) + (↑x_1.snd : Int))).tdiv (2 : Int))).toNat ≤ 65536) ∧ vB 65536 m * (↑x_1.fst : Int).toNat ≤ vB 65536 (trimL (l.getD ((↑x : Int) - (1 : Int)).toNat (0 : Int) :: dg (vB 65536 (List.drop x l) % vB 65536 m))) ∧ vB 65536 (trimL (l.getD ((↑x : Int) - (1 : Int)).toNat (0 : Int) :: dg (vB 65536 (List.drop x l) % vB 65536 m))) < vB 65536 m * (IntKind.i64.wrap ((IntKind.i64.wrap ((↑x_1.fst : Int) + (↑x_1.snd : Int))).tdiv (2 : Int))).toNat) ∧ (IntKind.i64.wrap ((IntKind.i64.wrap ((↑x_1.fst : Int) + (↑x_1.snd : Int))).tdiv (2 : Int))).toNat - (↑x_1.fst : Int).toNat < x_1.snd - x_1.fst
  | false => True ∧ True ∧ match decide ((↑x_1.fst : Int) > (0 : Int)) with
   | true => True ∧ True ∧ True ∧ (1 = 1 ∧ 1 ≤ 4096) ∧ (∃ (l : List Int), ∃ (m_1 : List Int), [D.ints .i64 m, D.ints .i64 [(↑x_1.fst : Int)]] = [D.ints .i64 l, D.ints .i64 m_1] ∧ (okd l ∧ lenS l) ∧ okd m_1 ∧ lenS m_1) ∧ (∃ (l_1 : List Int), ∃ (m_1 : List Int), [D.ints .i64 (trimL (l.getD ((↑x : Int) - (1 : Int)).toNat (0 : Int) :: dg (vB 65536 (List.drop x l) % vB 65536 m))), D.ints .i64 (dg (vB 65536 m * vB 65536 [(↑x_1.fst : Int)]))] = [D.ints .i64 l_1, D.ints .i64 m_1] ∧ (okd l_1 ∧ lenS l_1) ∧ (okd m_1 ∧ lenS m_1) ∧ vB 65536 m_1 ≤ vB 65536 l_1) ∧ True ∧ True ∧ True ∧ True ∧ ((0 : Int) ≤ (↑x : Int) - (1 : Int) ∧ (↑x : Int) - (1 : Int) < (↑(↑l.length : Int).toNat : Int) ∧ 1 = 1) ∧ ((0 + ((↑x : Int) - (1 : Int)).toNat < l.length ∧ ([] : List Nat) = [] ∧ true = true) ∧ 1 ≠ 0 ∧ 1 = 1 ∧ false = false) ∧ True ∧ True ∧ True ∧ ((AV.d (D.val (.int .i64 (IntKind.i64.wrap ((↑x : Int) - (1 : Int) - (1 : Int))))) = AV.d (D.val (.int .i64 ((↑(IntKind.i64.wrap ((↑x : Int) - (1 : Int) - (1 : Int)) + (1 : Int)).toNat : Int) - (1 : Int)))) ∧ AV.d (D.ints .i64 (dg (vB 65536 (trimL (l.getD ((↑x : Int) - (1 : Int)).toNat (0 : Int) :: dg (vB 65536 (List.drop x l) % vB 65536 m))) - vB 65536 (dg (vB 65536 m * vB 65536 [(↑x_1.fst : Int)]))))) = AV.d (D.ints .i64 (dg (vB 65536 (List.drop (IntKind.i64.wrap ((↑x : Int) - (1 : Int) - (1 : Int)) + (1 : Int)).toNat l) % vB 65536 m))) ∧ True) ∧ (some (Blk.fix (D.arr .i64 l.length ((List.replicate x (0 : Int) ++ nB 65536 (l.length - x) (vB 65536 (List.drop x l) / vB 65536 m)).set (0 + ((↑x : Int) - (1 : Int)).toNat) (↑x_1.fst : Int)))) = some (Blk.fix (D.arr .i64 l.length (List.replicate (IntKind.i64.wrap ((↑x : Int) - (1 : Int) - (1 : Int)) + (1 : Int)).toNat (0 : Int) ++ nB 65536 (l.length - (IntKind.i64.wrap ((↑x : Int) - (1 : Int) - (1 : Int)) + (1 : Int)).toNat) (vB 65536 (List.drop (IntKind.i64.wrap ((↑x : Int) - (1 : Int) - (1 : Int)) + (1 : Int)).toNat l) / vB 65536 m)))) ∧ True) ∧ true = true) ∧ (IntKind.i64.wrap ((↑x : Int) - (1 : Int) - (1 : Int)) + (1 : Int)).toNat ≤ l.length ∧ (IntKind.i64.wrap ((↑x : Int) - (1 : Int) - (1 : Int)) + (1 : Int)).toNat < x
   | false => True ∧ True ∧ True ∧ ((0 : Int) ≤ (↑x : Int) - (1 : Int) ∧ (↑x : Int) - (1 : Int) < (↑(↑l.length : Int).toNat : Int) ∧ 1 = 1) ∧ ((0 + ((↑x : Int) - (1 : Int)).toNat < l.length ∧ ([] : List Nat) = [] ∧ true = true) ∧ 1 ≠ 0 ∧ 1 = 1 ∧ false = false) ∧ True ∧ True ∧ True ∧ ((AV.d (D.val (.int .i64 (IntKind.i64.wrap ((↑x : Int) - (1 : Int) - (1 : Int))))) = AV.d (D.val (.int .i64 ((↑(IntKind.i64.wrap ((↑x : Int) - (1 : Int) - (1 : Int)) + (1 : Int)).toNat : Int) - (1 : Int)))) ∧ AV.d (D.ints .i64 (trimL (l.getD ((↑x : Int) - (1 : Int)).toNat (0 : Int) :: dg (vB 65536 (List.drop x l) % vB 65536 m)))) = AV.d (D.ints .i64 (dg (vB 65536 (List.drop (IntKind.i64.wrap ((↑x : Int) - (1 : Int) - (1 : Int)) + (1 : Int)).toNat l) % vB 65536 m))) ∧ True) ∧ (some (Blk.fix (D.arr .i64 l.length ((List.replicate x (0 : Int) ++ nB 65536 (l.length - x) (vB 65536 (List.drop x l) / vB 65536 m)).set (0 + ((↑x : Int) - (1 : Int)).toNat) (↑x_1.fst : Int)))) = some (Blk.fix (D.arr .i64 l.length (List.replicate (IntKind.i64.wrap ((↑x : Int) - (1 : Int) - (1 : Int)) + (1 : Int)).toNat (0 : Int) ++ nB 65536 (l.length - (IntKind.i64.wrap ((↑x : Int) - (1 : Int) - (1 : Int)) + (1 : Int)).toNat) (vB 65536 (List.drop (IntKind.i64.wrap ((↑x : Int) - (1 : Int) - (1 : Int)) + (1 : Int)).toNat l) / vB 65536 m)))) ∧ True) ∧ true = true) ∧ (IntKind.i64.wrap ((↑x : Int) - (1 : Int) - (1 : Int)) + (1 : Int)).toNat ≤ l.length ∧ (IntKind.i64.wrap ((↑x : Int) - (1 : Int) - (1 : Int)) + (1 : Int)).toNat < x
 | false => True ∧ (∃ (l_1 : List Int), [D.ints .i64 (List.take (↑l.length : Int).toNat (List.drop 0 (List.replicate x (0 : Int) ++ nB 65536 (l.length - x) (vB 65536 (List.drop x l) / vB 65536 m))))] = [D.ints .i64 l_1] ∧ lenOk l_1) ∧ True ∧ True ∧ True ∧ (false = false ∧ false = false ∧ True) ∧ D.tup [D.ints .i64 (trimL (List.take (↑l.length : Int).toNat (List.drop 0 (List.replicate x (0 : Int) ++ nB 65536 (l.length - x) (vB 65536 (List.drop x l) / vB 65536 m))))), D.ints .i64 (dg (vB 65536 (List.drop x l) % vB 65536 m))] = F) := by kernel_rfl
set_option maxRecDepth 100000 in
theorem vc51  (l m : List Int) (F : D)  :
    (owed c51 (fun _ => none) Tryd.f51 [dgs l, dgs m] F) = (
 True ∧ True ∧ True ∧ (∃ (l_1 : List Int), ∃ (m_1 : List Int), [D.ints .i64 l, D.ints .i64 m] = [D.ints .i64 l_1, D.ints .i64 m_1] ∧ (okd l_1 ∧ len1 l_1) ∧ (okd m_1 ∧ len1 m_1) ∧ vB 65536 m_1 ≠ 0) ∧ True ∧ (0 < 2 ∧ false = false) ∧ (1 < 2 ∧ false = false) ∧ True ∧ True ∧ True ∧ True ∧ (false = false ∧ True) ∧ D.ints .i64 (dg (vB 65536 l % vB 65536 m)) = F) := by kernel_rfl
end Go.Proofs.YtkicjckhkefnpaaDoor
namespace Go.Proofs.YtkicjckhkefnpaaDoor
open Go Go.Vg
theorem vd_split (a i : Nat) : a / 65536 ^ i = 65536 * (a / 65536 ^ (i + 1)) + a / 65536 ^ i % 65536 := by
 rw [Nat.pow_succ, ← Nat.div_div_eq_div_mul, Nat.div_add_mod]
set_option maxRecDepth 100000 in
theorem m99 : Meets Tryd.prog 99 sp99 := by
 refine meets_of_owed (C := c99) ⟨tab_ok, lkS_ok ⟨m105, trivial⟩⟩ (by kernel_rfl) (by kernel_rfl : Tryd.prog.funcs[99]? = some Tryd.f99) (by kernel_rfl) (by kernel_rfl) (by kernel_rfl) _ ?_
 rintro _ ⟨l, m, rfl, ⟨hl, hls⟩, hm, hms⟩
 refine ⟨fun _ => rfl, inv99 l m, ?_⟩
 show owed c99 (inv99 l m) Tryd.f99 [dgs l, dgs m] (i64 (cmpN (vD l) (vD m)))
 rw [vc99]
 have hls : l.length ≤ 65536 := hls
 have hms : m.length ≤ 65536 := hms
 have hlo : lenOk l := by unfold lenOk; omega
 have hmo : lenOk m := by unfold lenOk; omega
 simp (decide := true) only [eq_self, true_and, and_true, ne_eq, not_false_eq_true, Int.toNat_natCast]
 obtain ⟨k, hk, hk1, hk2⟩ : ∃ k : Nat, (bif decide ((l.length : Int) < (m.length : Int)) then (m.length : Int) else (l.length : Int)) = (k : Int) ∧ l.length ≤ k ∧ m.length ≤ k ∧ k ≤ 65536 := by
  by_cases h : l.length < m.length
  ·exact ⟨m.length, by rw [decide_eq_true (by omega), cond_true], by omega, by omega, by omega⟩
  ·exact ⟨l.length, by rw [decide_eq_false (by omega), cond_false], by omega, by omega, by omega⟩
 obtain ⟨hk2, hk3⟩ := hk2
 rw [hk, wi (n := (k : Int) - 1) (by omega) (by omega), show (k : Int) - 1 + 1 = (k : Int) by omega]
 simp only [Int.toNat_natCast]
 refine ⟨⟨by omega, by rw [List.drop_of_length_le hk1, List.drop_of_length_le hk2]⟩, ?_⟩
 rintro i ⟨hi, he⟩
 obtain ⟨z, rfl⟩ : ∃ z : Nat, i = (z : Int) - 1 := ⟨(i + 1).toNat, by omega⟩
 rw [show ((z : Int) - 1 + 1) = (z : Int) by omega] at he ⊢
 simp only [Int.toNat_natCast] at he ⊢
 rw [vB_drop hl, vB_drop hm] at he
 split
 ·rename_i h
  have h := of_decide_eq_true h
  obtain ⟨u, rfl⟩ : ∃ u, z = u + 1 := ⟨z - 1, by omega⟩
  rw [show ((u + 1 : Nat) : Int) - 1 = (u : Int) by omega, wi (n := (u : Int) - 1) (by omega) (by omega), show ((u : Int) - 1 + 1) = (u : Int) by omega, dig_nat hl, dig_nat hm]
  simp only [Int.toNat_natCast]
  have s1 := vd_split (vB 65536 l) u
  have s2 := vd_split (vB 65536 m) u
  rw [he] at s1
  clear he
  have hdd0 : vB 65536 l / 65536 ^ u = vB 65536 m / 65536 ^ u → vB 65536 (l.drop u) = vB 65536 (m.drop u) := fun h => by rw [vB_drop hl, vB_drop hm, h]
  have lt1 : vB 65536 l / 65536 ^ u < vB 65536 m / 65536 ^ u → vD l < vD m := fun h => Nat.lt_of_div_lt_div (c := 65536 ^ u) h
  have lt2 : vB 65536 m / 65536 ^ u < vB 65536 l / 65536 ^ u → vD m < vD l := fun h => Nat.lt_of_div_lt_div (c := 65536 ^ u) h
  generalize vB 65536 m / 65536 ^ (u + 1) = Q at s1 s2
  generalize vB 65536 l / 65536 ^ u = p at *
  generalize vB 65536 m / 65536 ^ u = q at *
  refine ⟨⟨l, _, rfl, hlo⟩, ⟨m, _, rfl, hmo⟩, ?_⟩
  split
  ·rename_i h2
   have h2 := of_decide_eq_true h2
   have := lt1 (by omega)
   unfold cmpN
   rw [if_pos this]
  ·rename_i h2
   have h2 := of_decide_eq_false h2
   split
   ·rename_i h3
    have h3 := of_decide_eq_true h3
    have := lt2 (by omega)
    unfold cmpN
    rw [if_neg (by omega), if_pos this]
   ·rename_i h3
    have h3 := of_decide_eq_false h3
    have hdd := hdd0 (by omega)
    and_intros <;> first | exact hdd | omega | rfl | trivial
 ·rename_i h
  have h := of_decide_eq_false h
  obtain rfl : z = 0 := by omega
  rw [Nat.pow_zero, Nat.div_one, Nat.div_one] at he
  have he : vD l = vD m := he
  unfold cmpN
  rw [if_neg (by omega), if_neg (by omega)]
theorem sub_numD (P A C x y d e D : Nat) (hA : A < P) (hC : C < P) (hD : d < D) (hP : 0 < D)
  (hc : (y + bor A C ≤ x ∧ d + y + bor A C = x ∧ e = 0) ∨ (x < y + bor A C ∧ d + y + bor A C = x + D ∧ e = 1)) :
  (A + P * x + P * D - (C + P * y)) % (P * D) = (A + P - C) % P + P * d ∧ bor (A + P * x) (C + P * y) = e := by
 have hb : bor A C ≤ 1 := by unfold bor; split <;> omega
 have hAC : (A < C ∧ bor A C = 1 ∧ (A + P - C) % P = A + P - C) ∨ (C ≤ A ∧ bor A C = 0 ∧ (A + P - C) % P = A - C) := by
  rcases Nat.lt_or_ge A C with h | h
  ·exact .inl ⟨h, if_pos h, Nat.mod_eq_of_lt (by omega)⟩
  ·exact .inr ⟨h, if_neg (by omega), mod_one _ _ _ (.inr (by omega)) (by omega)⟩
 generalize bor A C = b at hb hAC hc
 have m1 : P * (d + 1) ≤ P * D := Nat.mul_le_mul_left P hD
 rw [Nat.mul_add, Nat.mul_one] at m1
 have hr : (A + P - C) % P < P := Nat.mod_lt _ (by omega)
 have lin : ∀ u v : Nat, u = v → P * u = P * v := fun u v h => by rw [h]
 have fin : ∀ s t : Nat, (s < t ↔ e = 1) → (e = 0 ∨ e = 1) → bor s t = e := by
  intro s t h1 h2
  unfold bor
  split
  ·rename_i h; exact (h1.1 h).symm
  ·rename_i h; rcases h2 with h2 | h2
   ·exact h2.symm
   ·exact absurd (h1.2 h2) h
 rcases hAC with ⟨h1, h2, h3⟩ | ⟨h1, h2, h3⟩ <;> rcases hc with ⟨c1, c2, c3xx⟩ | ⟨c1, c2, c3xx⟩
 all_goals
  have q := lin _ _ c2
  subst h2
  simp only [Nat.mul_add, Nat.mul_one, Nat.mul_zero, Nat.add_zero] at q
  rw [h3] at hr ⊢
  have hB : P ≤ P * D := Nat.le_mul_of_pos_right P hP
  generalize P * D = PB at *
  generalize P * x = Px at *
  generalize P * y = Py at *
  generalize P * d = Pd at *
  refine ⟨mod_one _ _ _ (by omega) (by omega), fin _ _ (by omega) (by omega)⟩
theorem okd_get {l : List Int} (h : okd l) {i : Nat} (hi : i < l.length) : ∃ n : Nat, l.getD i 0 = (n : Int) ∧ n < 65536 := by
 have := h _ (getD_mem hi)
 exact ⟨(l.getD i 0).toNat, by omega, by omega⟩
theorem take_dig {m : List Int} (hm : okd m) (i : Nat) : vB 65536 (m.take (i + 1)) = vB 65536 (m.take i) + 65536 ^ i * (vB 65536 m / 65536 ^ i % 65536) := by
 rw [vB_take hm, vB_take hm, Nat.pow_succ, Nat.mod_mul]
theorem sbD_step {l m : List Int} (hl : okd l) (hm : okd m) {i x : Nat} (hi : i < l.length) (ex : l.getD i 0 = (x : Int)) (hx : x < 65536) :
  (((x : Int) - ((vB 65536 m / 65536 ^ i % 65536 : Nat) : Int) - ((bor (vB 65536 (l.take i)) (vB 65536 (m.take i)) : Nat) : Int) < 0 →
   nB 65536 i (sbD l m i) ++ [(x : Int) - ((vB 65536 m / 65536 ^ i % 65536 : Nat) : Int) - ((bor (vB 65536 (l.take i)) (vB 65536 (m.take i)) : Nat) : Int) + 65536] = nB 65536 (i + 1) (sbD l m (i + 1)) ∧ bor (vB 65536 (l.take (i + 1))) (vB 65536 (m.take (i + 1))) = 1)) ∧
  ((0 ≤ (x : Int) - ((vB 65536 m / 65536 ^ i % 65536 : Nat) : Int) - ((bor (vB 65536 (l.take i)) (vB 65536 (m.take i)) : Nat) : Int) →
   nB 65536 i (sbD l m i) ++ [(x : Int) - ((vB 65536 m / 65536 ^ i % 65536 : Nat) : Int) - ((bor (vB 65536 (l.take i)) (vB 65536 (m.take i)) : Nat) : Int)] = nB 65536 (i + 1) (sbD l m (i + 1)) ∧ bor (vB 65536 (l.take (i + 1))) (vB 65536 (m.take (i + 1))) = 0)) := by
 have e1 := vB_take1 (b := 65536) (l := l) i hi
 rw [ex, Int.toNat_natCast] at e1
 have e2 := take_dig hm i
 have hA := vB_lt (b := 65536) (l := l.take i) fun z hz => hl z (List.mem_of_mem_take hz)
 rw [List.length_take, show min i l.length = i by omega] at hA
 have hC : vB 65536 (m.take i) < 65536 ^ i := by rw [vB_take hm]; exact Nat.mod_lt _ (Nat.pow_pos (by decide))
 have hy : vB 65536 m / 65536 ^ i % 65536 < 65536 := Nat.mod_lt _ (by decide)
 generalize vB 65536 m / 65536 ^ i % 65536 = y at e2 hy ⊢
 have hb : bor (vB 65536 (l.take i)) (vB 65536 (m.take i)) ≤ 1 := by unfold bor; split <;> omega
 have low : ∀ lo d : Nat, lo < 65536 ^ i → d < 65536 → nB 65536 (i + 1) (lo + 65536 ^ i * d) = nB 65536 i lo ++ [((d : Nat) : Int)] := by
  intro lo d h1 h2
  rw [nB_push, nB_low _ _ _ _ h1, Nat.add_mul_div_left _ _ (Nat.pow_pos (by decide)), Nat.div_eq_of_lt h1, Nat.zero_add, Nat.mod_eq_of_lt h2]
 have hlo : sbD l m i < 65536 ^ i := Nat.mod_lt _ (Nat.pow_pos (by decide))
 constructor
 ·intro hneg
  obtain ⟨d, hd⟩ : ∃ d : Nat, (x : Int) - (y : Int) - ((bor (vB 65536 (l.take i)) (vB 65536 (m.take i)) : Nat) : Int) + 65536 = (d : Int) := ⟨((x : Int) - (y : Int) - ((bor (vB 65536 (l.take i)) (vB 65536 (m.take i)) : Nat) : Int) + 65536).toNat, by omega⟩
  obtain ⟨n1, n2⟩ := sub_numD (65536 ^ i) _ _ x y d 1 65536 hA hC (by omega) (by decide) (.inr ⟨by omega, by omega, rfl⟩)
  rw [← e1, ← e2] at n1 n2
  refine ⟨?_, n2⟩
  have : sbD l m (i + 1) = sbD l m i + 65536 ^ i * d := by
   unfold sbD
   rw [Nat.pow_succ]
   exact n1
  rw [hd, this, low _ _ hlo (by omega)]
 ·intro hpos
  obtain ⟨d, hd⟩ : ∃ d : Nat, (x : Int) - (y : Int) - ((bor (vB 65536 (l.take i)) (vB 65536 (m.take i)) : Nat) : Int) = (d : Int) := ⟨((x : Int) - (y : Int) - ((bor (vB 65536 (l.take i)) (vB 65536 (m.take i)) : Nat) : Int)).toNat, by omega⟩
  obtain ⟨n1, n2⟩ := sub_numD (65536 ^ i) _ _ x y d 0 65536 hA hC (by omega) (by decide) (.inl ⟨by omega, by omega, rfl⟩)
  rw [← e1, ← e2] at n1 n2
  refine ⟨?_, n2⟩
  have : sbD l m (i + 1) = sbD l m i + 65536 ^ i * d := by
   unfold sbD
   rw [Nat.pow_succ]
   exact n1
  rw [hd, this, low _ _ hlo (by omega)]
theorem nB_okd (n v : Nat) : okd (nB 65536 n v) := by
 intro x hx
 induction n generalizing v with
 | zero => cases hx
 | succ n ih =>
  rw [nB, List.mem_cons] at hx
  rcases hx with rfl | hx
  ·have := Nat.mod_lt v (y := 65536) (by decide)
   omega
  ·exact ih _ hx
set_option maxRecDepth 100000 in
theorem m61 : Meets Tryd.prog 61 sp61 := by
 refine meets_of_owed (C := c61) ⟨tab_ok, lkS_ok ⟨m105, m106, trivial⟩⟩ (by kernel_rfl) (by kernel_rfl : Tryd.prog.funcs[61]? = some Tryd.f61) (by kernel_rfl) (by kernel_rfl) (by kernel_rfl) _ ?_
 rintro _ ⟨l, m, rfl, ⟨hl, hls⟩, ⟨hm, hms⟩, hle⟩
 refine ⟨fun h => (by cases h), inv61 l m, ?_⟩
 show owed c61 (inv61 l m) Tryd.f61 [dgs l, dgs m] (dgs (dg (vD l - vD m)))
 rw [vc61]
 have hls : l.length ≤ 65536 := hls
 have hms : m.length ≤ 65536 := hms
 have hmo : lenOk m := by unfold lenOk; omega
 simp (decide := true) only [eq_self, true_and, and_true, ne_eq, not_false_eq_true, Int.toNat_natCast, List.length_append, List.length_singleton, nB_length]
 refine ⟨by and_intros <;> first | rfl | omega | trivial, ?_⟩
 intro i hi
 split
 ·rename_i h
  have h := of_decide_eq_true h
  obtain ⟨x, ex, hx⟩ := okd_get hl (i := i) (by omega)
  obtain ⟨s1, s2⟩ := sbD_step hl hm (i := i) (by omega) ex hx
  have hy : vB 65536 m / 65536 ^ i % 65536 < 65536 := Nat.mod_lt _ (by decide)
  have hb : bor (vB 65536 (l.take i)) (vB 65536 (m.take i)) ≤ 1 := by unfold bor; split <;> omega
  simp only [Int.toNat_natCast, ex]
  rw [dig_nat hm, show ((i : Int) + 1) = ((i + 1 : Nat) : Int) by omega, wi (n := ((i + 1 : Nat) : Int)) (by omega) (by omega)]
  simp only [Int.toNat_natCast]
  generalize vB 65536 m / 65536 ^ i % 65536 = y at *
  generalize bor (vB 65536 (l.take i)) (vB 65536 (m.take i)) = b at *
  rw [wi (n := (x : Int) - (y : Int)) (by omega) (by omega), wi (n := (x : Int) - (y : Int) - (b : Int)) (by omega) (by omega), wi (n := (x : Int) - (y : Int) - (b : Int) + 65536) (by omega) (by omega)]
  refine ⟨by omega, ⟨m, _, rfl, hmo⟩, ?_⟩
  split
  ·rename_i h2
   have h2 := of_decide_eq_true h2
   obtain ⟨t1, t2⟩ := s1 h2
   rw [t1, t2]
   and_intros <;> first | omega | rfl | trivial
  ·rename_i h2
   have h2 := of_decide_eq_false h2
   obtain ⟨t1, t2⟩ := s2 (by omega)
   rw [t1, t2]
   and_intros <;> first | omega | rfl | trivial
 ·rename_i h
  have h := of_decide_eq_false h
  obtain rfl : i = l.length := by omega
  have hA := vB_lt (b := 65536) hl
  have hle' : vB 65536 m ≤ vB 65536 l := hle
  have e1 : l.take l.length = l := List.take_length
  have e2 : vB 65536 (m.take l.length) = vB 65536 m := by rw [vB_take hm, Nat.mod_eq_of_lt (Nat.lt_of_le_of_lt hle' hA)]
  have e : sbD l m l.length = vD l - vD m := by
   unfold sbD
   rw [e1]
   show (vB 65536 l + 65536 ^ l.length - vB 65536 (m.take l.length)) % 65536 ^ l.length = vB 65536 l - vB 65536 m
   rw [e2]
   generalize 65536 ^ l.length = P at *
   exact mod_one _ _ _ (.inr (by omega)) (by omega)
  rw [e, trim_eq (nB_okd _ _), vB_nB, Nat.mod_eq_of_lt (Nat.lt_of_le_of_lt (Nat.sub_le _ _) hA)]
  refine ⟨⟨_, rfl, by unfold lenOk; rw [nB_length]; omega⟩, rfl⟩
end Go.Proofs.YtkicjckhkefnpaaDoor
namespace Go.Proofs.YtkicjckhkefnpaaDoor
open Go Go.Vg
theorem cmp_le (x y : Nat) : decide (cmpN x y ≤ 0) = decide (x ≤ y) := by
 rw [Bool.eq_iff_iff, decide_eq_true_iff, decide_eq_true_iff]
 unfold cmpN
 split
 ·omega
 ·split <;> omega
theorem trim_dg {a R : Nat} (ha : a < 65536) : trimL (((a : Nat) : Int) :: dg R) = dg (a + 65536 * R) := by
 have hok : okd (((a : Nat) : Int) :: dg R) := by
  intro x hx
  rcases List.mem_cons.mp hx with rfl | hx
  ·omega
  ·exact dg_ok R x hx
 rw [trim_eq hok, vB, Int.toNat_natCast, vl_dg]
theorem q_step (n i lo Q : Nat) (hi : i < n) (hlo : lo < 65536) :
  (List.replicate (i + 1) (0 : Int) ++ nB 65536 (n - (i + 1)) Q).set (0 + i) ((lo : Nat) : Int) = List.replicate i 0 ++ nB 65536 (n - i) (65536 * Q + lo) := by
 have e : nB 65536 (n - i) (65536 * Q + lo) = ((lo : Nat) : Int) :: nB 65536 (n - (i + 1)) Q := by
  rw [show n - i = n - (i + 1) + 1 by omega, nB, Nat.mul_add_mod, Nat.mod_eq_of_lt hlo, Nat.mul_add_div (by decide), Nat.div_eq_of_lt hlo]
  rfl
 rw [e, Nat.zero_add, List.replicate_succ', List.append_assoc, List.set_append_right _ _ (by rw [List.length_replicate]; exact Nat.le_refl _), List.length_replicate, Nat.sub_self]
 rfl
theorem pow_up {M k n : Nat} (h : M < 65536 ^ k) (hk : k + 1 ≤ n) : M * 65536 < 65536 ^ n := by
 have h2 : 65536 ^ (k + 1) ≤ 65536 ^ n := Nat.pow_le_pow_right (by decide) hk
 have h3 : M * 65536 < 65536 ^ (k + 1) := by
  rw [Nat.pow_succ]
  exact Nat.mul_lt_mul_of_pos_right h (by decide)
 exact Nat.lt_of_lt_of_le h3 h2
theorem len_dg {n : Nat} (h : n < 65536 ^ 1001) : lenS (dg n) ∧ lenOk (dg n) := len_ok h (by decide)
set_option maxRecDepth 100000 in
theorem m104 : Meets Tryd.prog 104 sp104 := by
 refine meets_of_owed (C := c104) ⟨tab_ok, lkS_ok ⟨m54, m106, m99, m61, trivial⟩⟩ (by kernel_rfl) (by kernel_rfl : Tryd.prog.funcs[104]? = some Tryd.f104) (by kernel_rfl) (by kernel_rfl) (by kernel_rfl) _ ?_
 rintro _ ⟨l, m, rfl, ⟨hl, hll⟩, ⟨hm, hml⟩, hM0⟩
 refine ⟨fun h => (by cases h), inv104 l m, ?_⟩
 show owed c104 (inv104 l m) Tryd.f104 [dgs l, dgs m] (.tup [dgs (dg (vD l / vD m)), dgs (dg (vD l % vD m))])
 rw [vc104]
 have hll : l.length ≤ 1000 := hll
 have hml : m.length ≤ 1000 := hml
 have hms : lenS m := by unfold lenS; omega
 have hM0 : vB 65536 m ≠ 0 := hM0
 have hMb : vB 65536 m * 65536 < 65536 ^ 1001 := by
  have h1 := vB_lt (b := 65536) hm
  refine pow_up (n := 1001) h1 ?_
  omega
 simp (decide := true) only [eq_self, true_and, and_true, ne_eq, not_false_eq_true, Int.toNat_natCast, vl_dg]
 rw [wi (n := (l.length : Int) - 1) (by omega) (by omega), show (l.length : Int) - 1 + 1 = (l.length : Int) by omega]
 simp only [Int.toNat_natCast]
 refine ⟨by omega, ?_, ?_⟩
 ·rw [List.drop_of_length_le (Nat.le_refl _), Nat.sub_self]
  have e : vB 65536 [] = 0 := rfl
  rw [e, Nat.zero_mod, dg_zero]
  simp [nB]
 intro z hz
 split
 ·rename_i h
  have h := of_decide_eq_true h
  obtain ⟨i, rfl⟩ : ∃ i, z = i + 1 := ⟨z - 1, by omega⟩
  obtain ⟨a, ea, ha⟩ := okd_get hl (i := i) (by omega)
  have hA := vB_dropS 65536 (l := l) i (by omega)
  rw [ea, Int.toNat_natCast] at hA
  rw [show ((i + 1 : Nat) : Int) - 1 = (i : Int) by omega, wi (n := (i : Int) - 1) (by omega) (by omega), show (i : Int) - 1 + 1 = (i : Int) by omega]
  simp only [Int.toNat_natCast, ea, trim_dg ha, vl_dg]
  have hQ := Nat.div_add_mod (vB 65536 (l.drop (i + 1))) (vB 65536 m)
  have hR := Nat.mod_lt (vB 65536 (l.drop (i + 1))) (y := vB 65536 m) (by omega)
  have hqs := q_step l.length i
  have hRl : (dg (vB 65536 (l.drop (i + 1)) % vB 65536 m)).length ≤ 1001 := dg_len _ _ (by omega)
  generalize vB 65536 (l.drop (i + 1)) / vB 65536 m = Q at *
  generalize vB 65536 (l.drop (i + 1)) % vB 65536 m = R at *
  have hAX : vB 65536 (l.drop i) = vB 65536 m * (65536 * Q) + (a + 65536 * R) := by
   rw [hA, ← hQ, Nat.mul_add, Nat.mul_left_comm]
   omega
  have hdiv : ∀ lo, vB 65536 m * lo ≤ a + 65536 * R → a + 65536 * R < vB 65536 m * (lo + 1) → vB 65536 (l.drop i) / vB 65536 m = 65536 * Q + lo ∧ vB 65536 (l.drop i) % vB 65536 m = a + 65536 * R - vB 65536 m * lo := by
   intro lo h1 h2
   have e : vB 65536 (l.drop i) = vB 65536 m * (65536 * Q + lo) + (a + 65536 * R - vB 65536 m * lo) := by
    rw [hAX, Nat.mul_add (vB 65536 m)]
    omega
   rw [Nat.mul_add, Nat.mul_one] at h2
   have h3 : a + 65536 * R - vB 65536 m * lo < vB 65536 m := by omega
   rw [e]
   exact ⟨by rw [Nat.mul_add_div (by omega), Nat.div_eq_of_lt h3, Nat.add_zero], by rw [Nat.mul_add_mod, Nat.mod_eq_of_lt h3]⟩
  have hXM : a + 65536 * R < vB 65536 m * 65536 := by omega
  have hXb : a + 65536 * R < 65536 ^ 1001 := Nat.lt_trans hXM hMb
  generalize a + 65536 * R = X at *
  have hXl := len_dg hXb
  refine ⟨by omega, by rw [List.length_cons]; omega, ⟨_, rfl, by unfold lenOk; rw [List.length_cons]; omega⟩, ?_, ?_⟩
  ·and_intros <;> first | rfl | omega | trivial
  rintro ⟨lo, hi⟩ ⟨⟨hlh, hh⟩, hlo, hhi⟩
  simp only at hlh hh hlo hhi ⊢
  rw [wi (n := (hi : Int) - (lo : Int)) (by omega) (by omega), ← Int.natCast_add, wi (n := ((lo + hi : Nat) : Int)) (by omega) (by omega), show ((lo + hi : Nat) : Int).tdiv 2 = (((lo + hi) / 2 : Nat) : Int) from tdivN (lo + hi) 2, wi (n := (((lo + hi) / 2 : Nat) : Int)) (by omega) (by omega)]
  have one : ∀ d : Nat, vB 65536 [((d : Nat) : Int)] = d := fun d => by simp [vB]
  have okd1 : ∀ d : Nat, d < 65536 → okd [((d : Nat) : Int)] := fun d hd x hx => by rw [List.mem_singleton.mp hx]; omega
  have l1 : ∀ d : Nat, lenS [((d : Nat) : Int)] := fun d => by simp [lenS]
  simp only [Int.toNat_natCast, one, cmp_le]
  split
  ·rename_i h2
   have h2 := of_decide_eq_true h2
   have hmid1 : lo < (lo + hi) / 2 := by omega
   have hmid2 : (lo + hi) / 2 < hi := by omega
   generalize (lo + hi) / 2 = mid at *
   have hpre1 : ∃ (l_1 m_1 : List Int), [dgs m, dgs [((mid : Nat) : Int)]] = [dgs l_1, dgs m_1] ∧ (okd l_1 ∧ lenS l_1) ∧ okd m_1 ∧ lenS m_1 := ⟨_, _, rfl, ⟨hm, hms⟩, okd1 mid (by omega), l1 mid⟩
   have hmb : vB 65536 m * mid < 65536 ^ 1001 := by
    have : vB 65536 m * mid ≤ vB 65536 m * 65536 := Nat.mul_le_mul_left _ (by omega)
    exact Nat.lt_of_le_of_lt this hMb
   have hpre2 : ∃ (l_1 m_1 : List Int), [dgs (dg (vB 65536 m * mid)), dgs (dg X)] = [dgs l_1, dgs m_1] ∧ (okd l_1 ∧ lenS l_1) ∧ okd m_1 ∧ lenS m_1 := ⟨_, _, rfl, ⟨dg_ok _, (len_dg hmb).1⟩, dg_ok _, hXl.1⟩
   refine ⟨hpre1, hpre2, ?_⟩
   split
   ·rename_i h3
    have h3 := of_decide_eq_true h3
    and_intros <;> first | exact h3 | exact hhi | rfl | omega | trivial
   ·rename_i h3
    have h3 := of_decide_eq_false h3
    have h3 : X < vB 65536 m * mid := by omega
    and_intros <;> first | exact h3 | exact hlo | rfl | omega | trivial
  ·rename_i h2
   have h2 := of_decide_eq_false h2
   obtain rfl : hi = lo + 1 := by omega
   obtain ⟨d1, d2⟩ := hdiv lo hlo hhi
   have hq := hqs lo Q (by omega) (by omega)
   split
   ·rename_i h3
    have h3 := of_decide_eq_true h3
    have hpre1 : ∃ (l_1 m_1 : List Int), [dgs m, dgs [((lo : Nat) : Int)]] = [dgs l_1, dgs m_1] ∧ (okd l_1 ∧ lenS l_1) ∧ okd m_1 ∧ lenS m_1 := ⟨_, _, rfl, ⟨hm, hms⟩, okd1 lo (by omega), l1 lo⟩
    have hpre2 : ∃ (l_1 m_1 : List Int), [dgs (dg X), dgs (dg (vB 65536 m * lo))] = [dgs l_1, dgs m_1] ∧ (okd l_1 ∧ lenS l_1) ∧ (okd m_1 ∧ lenS m_1) ∧ vB 65536 m_1 ≤ vB 65536 l_1 := ⟨_, _, rfl, ⟨dg_ok _, hXl.1⟩, ⟨dg_ok _, (len_dg (Nat.lt_of_le_of_lt hlo hXb)).1⟩, by rw [vl_dg, vl_dg]; exact hlo⟩
    rw [hq, d1, d2]
    and_intros <;> first | exact hpre1 | exact hpre2 | rfl | omega | trivial
   ·rename_i h3
    have h3 := of_decide_eq_false h3
    obtain rfl : lo = 0 := by omega
    rw [hq, d1, d2, Nat.mul_zero, Nat.sub_zero]
    and_intros <;> first | rfl | omega | trivial
 ·rename_i h
  have h := of_decide_eq_false h
  obtain rfl : z = 0 := by omega
  have hA := vB_lt (b := 65536) hl
  have hlt : vB 65536 l / vB 65536 m < 65536 ^ l.length := Nat.lt_of_le_of_lt (Nat.div_le_self _ _) hA
  have e : List.take l.length (List.drop 0 (List.replicate 0 0 ++ nB 65536 (l.length - 0) (vB 65536 (List.drop 0 l) / vB 65536 m))) = nB 65536 l.length (vB 65536 l / vB 65536 m) := by
   rw [List.replicate_zero, List.nil_append, List.drop_zero, List.drop_zero, Nat.sub_zero, List.take_of_length_le (by rw [nB_length]; exact Nat.le_refl _)]
  rw [e, trim_eq (nB_okd _ _), vB_nB, Nat.mod_eq_of_lt hlt, List.drop_zero]
  exact ⟨⟨_, rfl, by unfold lenOk; rw [nB_length]; omega⟩, rfl⟩
set_option maxRecDepth 100000 in
theorem m51 : Meets Tryd.prog 51 sp51 := by
 refine meets_of_owed (C := c51) ⟨tab_ok, lkS_ok ⟨m104, trivial⟩⟩ (by kernel_rfl) (by kernel_rfl : Tryd.prog.funcs[51]? = some Tryd.f51) (by kernel_rfl) (by kernel_rfl) (by kernel_rfl) _ ?_
 rintro _ ⟨l, m, rfl, hl, hm, h0⟩
 refine ⟨fun h => (by cases h), fun _ => none, ?_⟩
 show owed c51 (fun _ => none) Tryd.f51 [dgs l, dgs m] (dgs (dg (vD l % vD m)))
 rw [vc51]
 simp (decide := true) only [eq_self, true_and, and_true, ne_eq, not_false_eq_true]
 exact ⟨l, m, rfl, hl, hm, h0⟩
end Go.Proofs.YtkicjckhkefnpaaDoor
namespace Go.Proofs.YtkicjckhkefnpaaDoor
open Go Go.Vg
def adl (x y b : Nat) : Nat := (x + y + b) % B64
def adc (x y b : Nat) : Nat := (x + y + b) / B64
def mulL (x y : Nat) : Nat := x * y % B64
def mulH (x y : Nat) : Nat := x * y / B64
def stL (a b c d : Nat) : Nat := (a * b + c + d) % B64
def stH (a b c d : Nat) : Nat := (a * b + c + d) / B64
def smN (a b : Nat) : Nat := (a + b) % 2 ^ 256
def smC (a b : Nat) : Nat := (a + b) / 2 ^ 256
def sp124 : Go.Vg.Spec := ⟨fun ds => ∃ x y b, ds = [u64n x, u64n y, u64n b] ∧ x < B64 ∧ y < B64 ∧ b ≤ 1,
 fun ds => .tup [u64n (adl (nn (ds.headD default)) (nn (ds.getD 1 default)) (nn (ds.getD 2 default))), u64n (adc (nn (ds.headD default)) (nn (ds.getD 1 default)) (nn (ds.getD 2 default)))], true, [73, 73, 73]⟩
def sp132 : Go.Vg.Spec := ⟨fun ds => ∃ x y, ds = [u64n x, u64n y] ∧ x < B64 ∧ y < B64,
 fun ds => .tup [u64n (mulH (nn (ds.headD default)) (nn (ds.getD 1 default))), u64n (mulL (nn (ds.headD default)) (nn (ds.getD 1 default)))], true, [73, 73]⟩
def sp125 : Go.Vg.Spec := ⟨fun ds => ∃ a b c d, ds = [u64n a, u64n b, u64n c, u64n d] ∧ a < B64 ∧ b < B64 ∧ c < B64 ∧ d < B64,
 fun ds => .tup [u64n (stL (nn (ds.headD default)) (nn (ds.getD 1 default)) (nn (ds.getD 2 default)) (nn (ds.getD 3 default))), u64n (stH (nn (ds.headD default)) (nn (ds.getD 1 default)) (nn (ds.getD 2 default)) (nn (ds.getD 3 default)))], true, [73, 73, 73, 73]⟩
def isN (l : List Int) : Prop := okw l ∧ l.length = 4
def sp109 : Go.Vg.Spec := ⟨fun ds => ∃ l m, ds = [num4 l, num4 m] ∧ isN l ∧ isN m,
 fun ds => .tup [num4 (nB 18446744073709551616 4 (smN (wv (arrOf (ds.headD default))) (wv (arrOf (ds.getD 1 default))))), u64n (smC (wv (arrOf (ds.headD default))) (wv (arrOf (ds.getD 1 default))))], true, [75, 75]⟩
def sp110 : Go.Vg.Spec := ⟨fun ds => ∃ l m, ds = [num4 l, num4 m] ∧ isN l ∧ isN m,
 fun ds => num8 (nB 18446744073709551616 8 (wv (arrOf (ds.headD default)) * wv (arrOf (ds.getD 1 default)))), true, [75, 75]⟩
def c109 : Ctx := ⟨tab, lkS [(124, sp124)], [], []⟩
def c125 : Ctx := ⟨tab, lkS [(124, sp124), (132, sp132)], [], []⟩
def c110 : Ctx := ⟨tab, lkS [(125, sp125)], [], []⟩
def addV (l m : List Int) (i : Nat) : Nat := vB 18446744073709551616 (l.take i) + vB 18446744073709551616 (m.take i)
def addL (l m : List Int) (i : Nat) : List Int := nB 18446744073709551616 i (addV l m i) ++ l.drop i
def addK (l m : List Int) (i : Nat) : Nat := addV l m i / 18446744073709551616 ^ i
def inv109 (l m : List Int) : Nat → Option Inv
 | 3 => some ⟨Nat, fun i => [(8, .d (i64 i)), (6, .d (u64n (addK l m i)))], fun i => [(2, .fix (num4 (addL l m i)))], fun s => (slotN s 8).toNat, fun _ i => i ≤ 4, fun i => 4 - i⟩
 | _ => none
structure TimI (l m : List Int) (i : Nat) (out : List Int) : Prop where
 len : out.length = 8
 ok : okw out
 zero : ∀ j, i + 4 ≤ j → out.getD j 0 = 0
 val : wv out = wv (l.take i) * wv m
structure TimJ (l m : List Int) (i k : Nat) (c : Nat) (out : List Int) : Prop where
 len : out.length = 8
 ok : okw out
 zero : ∀ j, i + 4 ≤ j → out.getD j 0 = 0
 car : c < 18446744073709551616
 val : wv out + 18446744073709551616 ^ (i + k) * c = wv (l.take i) * wv m + 18446744073709551616 ^ i * ((l.getD i 0).toNat * wv (m.take k))
def inv110 (l m : List Int) : Nat → Option Inv
 | 3 => some ⟨Nat × List Int, fun x => [(9, .d (i64 x.1))], fun x => [(5, .fix (num8 x.2))], fun s => ((slotN s 9).toNat, rowD s 5), fun _ x => x.1 ≤ 4 ∧ TimI l m x.1 x.2, fun x => 4 - x.1⟩
 | 7 => some ⟨Nat × Nat × List Int, fun x => [(12, .d (i64 x.1)), (7, .d (u64n x.2.1))], fun x => [(5, .fix (num8 x.2.2))], fun s => ((slotN s 12).toNat, (slotN s 7).toNat, rowD s 5), fun s x => x.1 ≤ 4 ∧ TimJ l m (slotN s 9).toNat x.1 x.2.1 x.2.2, fun x => 4 - x.1⟩
 | _ => none
set_option maxRecDepth 100000 in
theorem vc109  (l m : List Int) (F : D)  :
    (owed c109 (inv109 l m) Tryd.f109 [num4 l, num4 m] F) = (
 (True ∧ false = false) ∧ (True ∧ false = false) ∧ (True ∧ 4 ≠ 0) ∧ True ∧ True ∧ True ∧ (((AV.d (D.val (.int .i64 0)) = AV.d (D.val (.int .i64 (↑(Int.toNat (0 : Int)) : Int))) ∧ AV.d (D.val (.int .u64 0)) = AV.d (D.val (.int .u64 (↑(addK l m (Int.toNat (0 : Int))) : Int))) ∧ True) ∧ (some (Blk.fix (D.arr .u64 4 l)) = some (Blk.fix (D.arr .u64 4 (addL l m (Int.toNat (0 : Int))))) ∧ sm (some (Blk.fix (D.arr .u64 4 m))) ∧ sm (some (Blk.fix (D.arr .u64 4 [(0 : Int), (0 : Int), (0 : Int), (0 : Int)]))) ∧ True) ∧ true = true) ∧ Int.toNat (0 : Int) ≤ 4) ∧ ∀ (x : Nat), x ≤ 4 → true = true ∧ True ∧ match decide ((↑x : Int) < (4 : Int)) with
 | true => True ∧ True ∧ True ∧ True ∧ ((0 : Int) ≤ (↑x : Int) ∧ (↑x : Int) < (↑(4 : Nat) : Int) ∧ 4 = 4 ∧ 1 = 1) ∧ (1 ≠ 0 ∧ 1 = 1 ∧ false = false) ∧ True ∧ ((0 : Int) ≤ (↑x : Int) ∧ (↑x : Int) < (↑(4 : Nat) : Int) ∧ 4 = 4 ∧ 1 = 1) ∧ (1 ≠ 0 ∧ 1 = 1 ∧ false = false) ∧ True ∧ (∃ (x_1 : Nat), ∃ (y : Nat), ∃ (b : Nat), [D.val (.int .u64 ((addL l m x).getD (↑x : Int).toNat (0 : Int))), D.val (.int .u64 (m.getD (↑x : Int).toNat (0 : Int))), D.val (.int .u64 (↑(addK l m x) : Int))] = [D.val (.int .u64 (↑x_1 : Int)), D.val (.int .u64 (↑y : Int)), D.val (.int .u64 (↑b : Int))] ∧ x_1 < 18446744073709551616 ∧ y < 18446744073709551616 ∧ b ≤ 1) ∧ True ∧ (0 < 2 ∧ false = false) ∧ (1 < 2 ∧ false = false) ∧ ((0 : Int) ≤ (↑x : Int) ∧ (↑x : Int) < (↑(4 : Nat) : Int) ∧ 4 = 4 ∧ 1 = 1) ∧ (((↑x : Int).toNat < 4 ∧ ([] : List Nat) = [] ∧ true = true) ∧ 1 ≠ 0 ∧ 1 = 1 ∧ false = false) ∧ True ∧ True ∧ True ∧ ((AV.d (D.val (.int .i64 (IntKind.i64.wrap ((↑x : Int) + (1 : Int))))) = AV.d (D.val (.int .i64 (↑(IntKind.i64.wrap ((↑x : Int) + (1 : Int))).toNat : Int))) ∧ AV.d (D.val (.int .u64 (↑(adc ((addL l m x).getD (↑x : Int).toNat (0 : Int)).toNat (m.getD (↑x : Int).toNat (0 : Int)).toNat (↑(addK l m x) : Int).toNat) : Int))) = AV.d (D.val (.int .u64 (↑(addK l m (IntKind.i64.wrap ((↑x : Int) + (1 : Int))).toNat) : Int))) ∧ True) ∧ (some (Blk.fix (D.arr .u64 4 ((addL l m x).set (↑x : Int).toNat (↑(adl ((addL l m x).getD (↑x : Int).toNat (0 : Int)).toNat (m.getD (↑x : Int).toNat (0 : Int)).toNat (↑(addK l m x) : Int).toNat) : Int)))) = some (Blk.fix (D.arr .u64 4 (addL l m (IntKind.i64.wrap ((↑x : Int) + (1 : Int))).toNat))) ∧ sm (some (Blk.fix (D.arr .u64 4 m))) ∧ sm (some (Blk.fix (D.arr .u64 4 [(0 : Int), (0 : Int), (0 : Int), (0 : Int)]))) ∧ True) ∧ true = true) ∧ (IntKind.i64.wrap ((↑x : Int) + (1 : Int))).toNat ≤ 4 ∧ 4 - (IntKind.i64.wrap ((↑x : Int) + (1 : Int))).toNat < 4 - x
 | false => (4 ≠ 0 ∧ 4 = 4 ∧ true = true) ∧ True ∧ (Sk.arr 4 = Sk.arr 4 ∧ 4 ≠ 0 ∧ 4 = 4 ∧ false = false) ∧ True ∧ ((4 ≠ 0 ∧ 4 = 4 ∧ true = true) ∧ false = false ∧ True) ∧ D.tup [D.arr .u64 4 (addL l m x), D.val (.int .u64 (↑(addK l m x) : Int))] = F) := by kernel_rfl
set_option maxRecDepth 100000 in
theorem vc132  (x y : Nat) (F : D)  :
    (owed c105 (fun _ => none) Tryd.f132 [u64n x, u64n y] F) = (
 True ∧ True ∧ True ∧ True ∧ True ∧ True ∧ (0 : Int) ≤ 32 ∧ True ∧ True ∧ True ∧ True ∧ True ∧ (0 : Int) ≤ 32 ∧ True ∧ True ∧ True ∧ True ∧ True ∧ True ∧ True ∧ True ∧ True ∧ (0 : Int) ≤ 32 ∧ True ∧ True ∧ True ∧ True ∧ True ∧ True ∧ (0 : Int) ≤ 32 ∧ True ∧ True ∧ True ∧ True ∧ True ∧ True ∧ True ∧ True ∧ True ∧ True ∧ True ∧ True ∧ True ∧ (0 : Int) ≤ 32 ∧ True ∧ True ∧ True ∧ True ∧ True ∧ True ∧ (false = false ∧ false = false ∧ True) ∧ D.tup [D.val (Value.int IntKind.u64 (IntKind.u64.wrap (IntKind.u64.wrap (IntKind.u64.wrap (ishr IntKind.u64 (↑x : Int) (32 : Int) * ishr IntKind.u64 (↑y : Int) (32 : Int)) + ishr IntKind.u64 (IntKind.u64.wrap (IntKind.u64.wrap (ishr IntKind.u64 (↑x : Int) (32 : Int) * iand IntKind.u64 (↑y : Int) (4294967295 : Int)) + ishr IntKind.u64 (IntKind.u64.wrap (iand IntKind.u64 (↑x : Int) (4294967295 : Int) * iand IntKind.u64 (↑y : Int) (4294967295 : Int))) (32 : Int))) (32 : Int)) + ishr IntKind.u64 (IntKind.u64.wrap (iand IntKind.u64 (IntKind.u64.wrap (IntKind.u64.wrap (ishr IntKind.u64 (↑x : Int) (32 : Int) * iand IntKind.u64 (↑y : Int) (4294967295 : Int)) + ishr IntKind.u64 (IntKind.u64.wrap (iand IntKind.u64 (↑x : Int) (4294967295 : Int) * iand IntKind.u64 (↑y : Int) (4294967295 : Int))) (32 : Int))) (4294967295 : Int) + IntKind.u64.wrap (iand IntKind.u64 (↑x : Int) (4294967295 : Int) * ishr IntKind.u64 (↑y : Int) (32 : Int)))) (32 : Int)))), D.val (.int .u64 (IntKind.u64.wrap ((↑x : Int) * (↑y : Int))))] = F) := by kernel_rfl
set_option maxRecDepth 100000 in
theorem vc125  (a b c d : Nat) (F : D)  :
    (owed c125 (fun _ => none) Tryd.f125 [u64n a, u64n b, u64n c, u64n d] F) = (
 True ∧ True ∧ True ∧ True ∧ (∃ (x : Nat), ∃ (y : Nat), [D.val (.int .u64 (↑a : Int)), D.val (.int .u64 (↑b : Int))] = [D.val (.int .u64 (↑x : Int)), D.val (.int .u64 (↑y : Int))] ∧ x < 18446744073709551616 ∧ y < 18446744073709551616) ∧ True ∧ (0 < 2 ∧ false = false) ∧ (1 < 2 ∧ false = false) ∧ True ∧ True ∧ True ∧ True ∧ (∃ (x : Nat), ∃ (y : Nat), ∃ (b_1 : Nat), [D.val (.int .u64 (↑(mulL (↑a : Int).toNat (↑b : Int).toNat) : Int)), D.val (.int .u64 (↑c : Int)), D.val (.int .u64 0)] = [D.val (.int .u64 (↑x : Int)), D.val (.int .u64 (↑y : Int)), D.val (.int .u64 (↑b_1 : Int))] ∧ x < 18446744073709551616 ∧ y < 18446744073709551616 ∧ b_1 ≤ 1) ∧ True ∧ (0 < 2 ∧ false = false) ∧ (1 < 2 ∧ false = false) ∧ True ∧ True ∧ True ∧ True ∧ True ∧ True ∧ True ∧ True ∧ (∃ (x : Nat), ∃ (y : Nat), ∃ (b_1 : Nat), [D.val (.int .u64 (↑(adl (↑(mulL (↑a : Int).toNat (↑b : Int).toNat) : Int).toNat (↑c : Int).toNat 0) : Int)), D.val (.int .u64 (↑d : Int)), D.val (.int .u64 0)] = [D.val (.int .u64 (↑x : Int)), D.val (.int .u64 (↑y : Int)), D.val (.int .u64 (↑b_1 : Int))] ∧ x < 18446744073709551616 ∧ y < 18446744073709551616 ∧ b_1 ≤ 1) ∧ True ∧ (0 < 2 ∧ false = false) ∧ (1 < 2 ∧ false = false) ∧ True ∧ True ∧ True ∧ True ∧ True ∧ True ∧ True ∧ True ∧ (false = false ∧ false = false ∧ True) ∧ D.tup [D.val (.int .u64 (↑(adl (↑(adl (↑(mulL (↑a : Int).toNat (↑b : Int).toNat) : Int).toNat (↑c : Int).toNat 0) : Int).toNat (↑d : Int).toNat 0) : Int)), D.val (Value.int IntKind.u64 (IntKind.u64.wrap (IntKind.u64.wrap ((↑(mulH (↑a : Int).toNat (↑b : Int).toNat) : Int) + (↑(adc (↑(mulL (↑a : Int).toNat (↑b : Int).toNat) : Int).toNat (↑c : Int).toNat 0) : Int)) + (↑(adc (↑(adl (↑(mulL (↑a : Int).toNat (↑b : Int).toNat) : Int).toNat (↑c : Int).toNat 0) : Int).toNat (↑d : Int).toNat 0) : Int))))] = F) := by kernel_rfl
set_option maxRecDepth 100000 in
theorem vc110  (l m : List Int) (F : D)  :
    (owed c110 (inv110 l m) Tryd.f110 [num4 l, num4 m] F) = (
 (True ∧ false = false) ∧ (True ∧ false = false) ∧ (True ∧ 8 ≠ 0) ∧ (True ∧ 8 ≠ 0) ∧ True ∧ (((AV.d (D.val (.int .i64 0)) = AV.d (D.val (.int .i64 (↑(0 : Nat) : Int))) ∧ True) ∧ (sm (some (Blk.fix (D.arr .u64 4 l))) ∧ sm (some (Blk.fix (D.arr .u64 4 m))) ∧ sm (some (Blk.fix (D.arr .u64 8 [(0 : Int), (0 : Int), (0 : Int), (0 : Int), (0 : Int), (0 : Int), (0 : Int), (0 : Int)]))) ∧ sm (some (Blk.fix (D.arr .u64 8 [(0 : Int), (0 : Int), (0 : Int), (0 : Int), (0 : Int), (0 : Int), (0 : Int), (0 : Int)]))) ∧ True) ∧ true = true) ∧ 0 ≤ 4 ∧ TimI l m 0 [(0 : Int), (0 : Int), (0 : Int), (0 : Int), (0 : Int), (0 : Int), (0 : Int), (0 : Int)]) ∧ ∀ (x : Nat × List Int), x.fst ≤ 4 ∧ TimI l m x.fst x.snd → true = true ∧ True ∧ match decide ((↑x.fst : Int) < (4 : Int)) with
 | true => True ∧ True ∧ True ∧ True ∧ (((AV.d (D.val (.int .i64 0)) = AV.d (D.val (.int .i64 (↑(0 : Nat) : Int))) ∧ AV.d (D.val (.int .u64 0)) = AV.d (D.val (.int .u64 (↑(0 : Nat) : Int))) ∧ True) ∧ (sm (some (Blk.fix (D.arr .u64 4 l))) ∧ sm (some (Blk.fix (D.arr .u64 4 m))) ∧ sm (some (Blk.fix (D.arr .u64 8 [(0 : Int), (0 : Int), (0 : Int), (0 : Int), (0 : Int), (0 : Int), (0 : Int), (0 : Int)]))) ∧ sm (some (Blk.fix (D.arr .u64 8 x.snd))) ∧ True) ∧ true = true) ∧ 0 ≤ 4 ∧ TimJ l m (↑x.fst : Int).toNat 0 0 x.snd) ∧ ∀ (x_1 : Nat × Nat × List Int), x_1.fst ≤ 4 ∧ TimJ l m (↑x.fst : Int).toNat x_1.fst x_1.snd.fst x_1.snd.snd → true = true ∧ True ∧ match decide ((↑x_1.fst : Int) < (4 : Int)) with
  | true => True ∧ True ∧ True ∧ True ∧ True ∧ True ∧ ((0 : Int) ≤ (↑x.fst : Int) ∧ (↑x.fst : Int) < (↑(4 : Nat) : Int) ∧ 4 = 4 ∧ 1 = 1) ∧ (1 ≠ 0 ∧ 1 = 1 ∧ false = false) ∧ True ∧ ((0 : Int) ≤ (↑x_1.fst : Int) ∧ (↑x_1.fst : Int) < (↑(4 : Nat) : Int) ∧ 4 = 4 ∧ 1 = 1) ∧ (1 ≠ 0 ∧ 1 = 1 ∧ false = false) ∧ True ∧ True ∧ True ∧ ((0 : Int) ≤ IntKind.i64.wrap ((↑x.fst : Int) + (↑x_1.fst : Int)) ∧ IntKind.i64.wrap ((↑x.fst : Int) + (↑x_1.fst : Int)) < (↑(8 : Nat) : Int) ∧ 8 = 8 ∧ 1 = 1) ∧ (1 ≠ 0 ∧ 1 = 1 ∧ false = false) ∧ True ∧ (∃ (a : Nat), ∃ (b : Nat), ∃ (c : Nat), ∃ (d : Nat), [D.val (.int .u64 (l.getD (↑x.fst : Int).toNat (0 : Int))), D.val (.int .u64 (m.getD (↑x_1.fst : Int).toNat (0 : Int))), D.val (.int .u64 (x_1.snd.snd.getD (IntKind.i64.wrap ((↑x.fst : Int) + (↑x_1.fst : Int))).toNat (0 : Int))), D.val (.int .u64 (↑x_1.snd.fst : Int))] = [D.val (.int .u64 (↑a : Int)), D.val (.int .u64 (↑b : Int)), D.val (.int .u64 (↑c : Int)), D.val (.int .u64 (↑d : Int))] ∧ a < 18446744073709551616 ∧ b < 18446744073709551616 ∧ c < 18446744073709551616 ∧ d < 18446744073709551616) ∧ True ∧ (0 < 2 ∧ false = false) ∧ (1 < 2 ∧ false = false) ∧ ((0 : Int) ≤ IntKind.i64.wrap ((↑x.fst : Int) + (↑x_1.fst : Int)) ∧ IntKind.i64.wrap ((↑x.fst : Int) + (↑x_1.fst : Int)) < (↑(8 : Nat) : Int) ∧ 8 = 8 ∧ 1 = 1) ∧ (((IntKind.i64.wrap ((↑x.fst : Int) + (↑x_1.fst : Int))).toNat < 8 ∧ ([] : List Nat) = [] ∧ true = true) ∧ 1 ≠ 0 ∧ 1 = 1 ∧ false = false) ∧ True ∧ True ∧ True ∧ ((AV.d (D.val (.int .i64 (IntKind.i64.wrap ((↑x_1.fst : Int) + (1 : Int))))) = AV.d (D.val (.int .i64 (↑(IntKind.i64.wrap ((↑x_1.fst : Int) + (1 : Int))).toNat : Int))) ∧ AV.d (D.val (.int .u64 (↑(stH (l.getD (↑x.fst : Int).toNat (0 : Int)).toNat (m.getD (↑x_1.fst : Int).toNat (0 : Int)).toNat (x_1.snd.snd.getD (IntKind.i64.wrap ((↑x.fst : Int) + (↑x_1.fst : Int))).toNat (0 : Int)).toNat (↑x_1.snd.fst : Int).toNat) : Int))) = AV.d (D.val (.int .u64 (↑(↑(stH (l.getD (↑x.fst : Int).toNat (0 : Int)).toNat (m.getD (↑x_1.fst : Int).toNat (0 : Int)).toNat (x_1.snd.snd.getD (IntKind.i64.wrap ((↑x.fst : Int) + (↑x_1.fst : Int))).toNat (0 : Int)).toNat (↑x_1.snd.fst : Int).toNat) : Int).toNat : Int))) ∧ True) ∧ (sm (some (Blk.fix (D.arr .u64 4 l))) ∧ sm (some (Blk.fix (D.arr .u64 4 m))) ∧ sm (some (Blk.fix (D.arr .u64 8 [(0 : Int), (0 : Int), (0 : Int), (0 : Int), (0 : Int), (0 : Int), (0 : Int), (0 : Int)]))) ∧ sm (some (Blk.fix (D.arr .u64 8 (x_1.snd.snd.set (IntKind.i64.wrap ((↑x.fst : Int) + (↑x_1.fst : Int))).toNat (↑(stL (l.getD (↑x.fst : Int).toNat (0 : Int)).toNat (m.getD (↑x_1.fst : Int).toNat (0 : Int)).toNat (x_1.snd.snd.getD (IntKind.i64.wrap ((↑x.fst : Int) + (↑x_1.fst : Int))).toNat (0 : Int)).toNat (↑x_1.snd.fst : Int).toNat) : Int))))) ∧ True) ∧ true = true) ∧ ((IntKind.i64.wrap ((↑x_1.fst : Int) + (1 : Int))).toNat ≤ 4 ∧ TimJ l m (↑x.fst : Int).toNat (IntKind.i64.wrap ((↑x_1.fst : Int) + (1 : Int))).toNat (↑(stH (l.getD (↑x.fst : Int).toNat (0 : Int)).toNat (m.getD (↑x_1.fst : Int).toNat (0 : Int)).toNat (x_1.snd.snd.getD (IntKind.i64.wrap ((↑x.fst : Int) + (↑x_1.fst : Int))).toNat (0 : Int)).toNat (↑x_1.snd.fst : Int).toNat) : Int).toNat
   (x_1.snd.snd.set (IntKind.i64.wrap ((↑x.fst : Int) + (↑x_1.fst : Int))).toNat (↑(stL (l.getD (↑x.fst : Int).toNat (0 : Int)).toNat (m.getD (↑x_1.fst : Int).toNat (0 : Int)).toNat (x_1.snd.snd.getD (IntKind.i64.wrap ((↑x.fst : Int) + (↑x_1.fst : Int))).toNat (0 : Int)).toNat (↑x_1.snd.fst : Int).toNat) : Int))) ∧ 4 - (IntKind.i64.wrap ((↑x_1.fst : Int) + (1 : Int))).toNat < 4 - x_1.fst
  | false => True ∧ True ∧ True ∧ ((0 : Int) ≤ IntKind.i64.wrap ((↑x.fst : Int) + (4 : Int)) ∧ IntKind.i64.wrap ((↑x.fst : Int) + (4 : Int)) < (↑(8 : Nat) : Int) ∧ 8 = 8 ∧ 1 = 1) ∧ (((IntKind.i64.wrap ((↑x.fst : Int) + (4 : Int))).toNat < 8 ∧ ([] : List Nat) = [] ∧ true = true) ∧ 1 ≠ 0 ∧ 1 = 1 ∧ false = false) ∧ True ∧ True ∧ ((AV.d (D.val (.int .i64 (IntKind.i64.wrap ((↑x.fst : Int) + (1 : Int))))) = AV.d (D.val (.int .i64 (↑(IntKind.i64.wrap ((↑x.fst : Int) + (1 : Int))).toNat : Int))) ∧ True) ∧ (sm (some (Blk.fix (D.arr .u64 4 l))) ∧ sm (some (Blk.fix (D.arr .u64 4 m))) ∧ sm (some (Blk.fix (D.arr .u64 8 [(0 : Int), (0 : Int), (0 : Int), (0 : Int), (0 : Int), (0 : Int), (0 : Int), (0 : Int)]))) ∧ sm (some (Blk.fix (D.arr .u64 8 (x_1.snd.snd.set (IntKind.i64.wrap ((↑x.fst : Int) + (4 : Int))).toNat (↑x_1.snd.fst : Int))))) ∧ True) ∧ true = true) ∧ ((IntKind.i64.wrap ((↑x.fst : Int) + (1 : Int))).toNat ≤ 4 ∧ TimI l m (IntKind.i64.wrap ((↑x.fst : Int) + (1 : Int))).toNat (x_1.snd.snd.set (IntKind.i64.wrap ((↑x.fst : Int) + (4 : Int))).toNat (↑x_1.snd.fst : Int))) ∧ 4 - (IntKind.i64.wrap ((↑x.fst : Int) + (1 : Int))).toNat < 4 - x.fst
 | false => (8 ≠ 0 ∧ 8 = 8 ∧ true = true) ∧ (Sk.arr 8 = Sk.arr 8 ∧ 8 ≠ 0 ∧ 8 = 8 ∧ false = false) ∧ ((8 ≠ 0 ∧ 8 = 8 ∧ true = true) ∧ True) ∧ D.arr .u64 8 x.snd = F) := by kernel_rfl
theorem m124 : Meets Tryd.prog 124 sp124 := by
 refine meets_extern Tryd.func124 (by kernel_rfl) (by kernel_rfl) (by kernel_rfl) (e := (Go.Extern.MathBitsCarry.rows.getD 0 ("", fun _ => default)).2) (by kernel_rfl) ?_
 rintro _ ⟨x, y, b, rfl, hx, hy, hb⟩
 refine ⟨rfl, fun X w vs h => ?_⟩
 obtain ⟨v1, v2, v3, rfl, h1, h2, h3⟩ := all2_3 h
 obtain rfl := vr_num h1
 obtain rfl := vr_num h2
 obtain rfl := vr_num h3
 refine ⟨_, ?_, pair_vr w X .u64 .u64 ((adl x y b : Nat) : Int) ((adc x y b : Nat) : Int)⟩
 obtain rfl | rfl : b = 0 ∨ b = 1 := by omega
 ·rfl
 ·rfl
end Go.Proofs.YtkicjckhkefnpaaDoor
namespace Go.Proofs.YtkicjckhkefnpaaDoor
open Go Go.Vg
theorem low32 (x : Nat) (hx : x < B64) : iand .u64 (x : Int) 4294967295 = ((x % 4294967296 : Nat) : Int) := by
 rw [show (4294967295 : Int) = ((4294967295 : Nat) : Int) from rfl, iandN .u64 (show x < 18446744073709551616 from hx) (show 4294967295 < 18446744073709551616 by decide)]
 congr 1
 exact Nat.and_two_pow_sub_one_eq_mod x 32
theorem shr32 (x : Nat) : ishr .u64 (x : Int) 32 = ((x / 4294967296 : Nat) : Int) := ishrN .u64 (a := x) (m := 32) (by decide)
theorem sq_le {a b : Nat} (ha : a < 4294967296) (hb : b < 4294967296) : a * b ≤ 18446744065119617025 := Nat.mul_le_mul (show a ≤ 4294967295 by omega) (show b ≤ 4294967295 by omega)
theorem wB {n : Nat} (h : n < 18446744073709551616) : IntKind.u64.wrap (n : Int) = (n : Int) := wrapN .u64 (show n < 18446744073709551616 from h)
theorem hiI (p q r s : Nat) (hp : p ≤ 18446744065119617025) (hq : q ≤ 18446744065119617025) (hr : r ≤ 18446744065119617025) (hs : s ≤ 18446744065119617025)
  (hh : s + (q + p / 4294967296) / 4294967296 + ((q + p / 4294967296) % 4294967296 + r) / 4294967296 < 18446744073709551616) :
  IntKind.u64.wrap (IntKind.u64.wrap (IntKind.u64.wrap (s : Int) + ishr .u64 (IntKind.u64.wrap (IntKind.u64.wrap (q : Int) + ishr .u64 (IntKind.u64.wrap (p : Int)) 32)) 32) +
   ishr .u64 (IntKind.u64.wrap (iand .u64 (IntKind.u64.wrap (IntKind.u64.wrap (q : Int) + ishr .u64 (IntKind.u64.wrap (p : Int)) 32)) 4294967295 + IntKind.u64.wrap (r : Int))) 32) =
  ((s + (q + p / 4294967296) / 4294967296 + ((q + p / 4294967296) % 4294967296 + r) / 4294967296 : Nat) : Int) := by
 rw [wB (n := p) (by omega), shr32, wB (n := q) (by omega), ← Int.natCast_add, wB (n := q + p / 4294967296) (by omega), shr32, low32 _ (show _ < 18446744073709551616 by omega), wB (n := r) (by omega),
  ← Int.natCast_add, wB (n := (q + p / 4294967296) % 4294967296 + r) (by omega), shr32, wB (n := s) (by omega), ← Int.natCast_add, wB (n := s + (q + p / 4294967296) / 4294967296) (by omega), ← Int.natCast_add, wB (by omega)]
theorem mul_parts (a b c d : Nat) : (4294967296 * a + b) * (4294967296 * c + d) = 18446744073709551616 * (a * c) + 4294967296 * (a * d) + 4294967296 * (b * c) + b * d := by
 rw [Nat.add_mul, Nat.mul_add, Nat.mul_add, Nat.mul_mul_mul_comm, Nat.mul_assoc 4294967296 a d, Nat.mul_left_comm b 4294967296 c]
 omega
theorem hi_eq (x y : Nat) (hx : x < B64) (hy : y < B64) :
  (x / 4294967296) * (y / 4294967296) + ((x / 4294967296) * (y % 4294967296) + (x % 4294967296) * (y % 4294967296) / 4294967296) / 4294967296 +
   (((x / 4294967296) * (y % 4294967296) + (x % 4294967296) * (y % 4294967296) / 4294967296) % 4294967296 + (x % 4294967296) * (y / 4294967296)) / 4294967296 = mulH x y ∧ mulH x y < 18446744073709551616 := by
 have e1 := Nat.div_add_mod x 4294967296
 have e2 := Nat.div_add_mod y 4294967296
 have hm := mul_parts (x / 4294967296) (x % 4294967296) (y / 4294967296) (y % 4294967296)
 rw [e1, e2] at hm
 have h1 : x % 4294967296 < 4294967296 := Nat.mod_lt _ (by decide)
 have h2 : y % 4294967296 < 4294967296 := Nat.mod_lt _ (by decide)
 have h3 : x / 4294967296 < 4294967296 := by have : x < 18446744073709551616 := hx; omega
 have h4 : y / 4294967296 < 4294967296 := by have : y < 18446744073709551616 := hy; omega
 have p1 := sq_le h1 h2
 have p2 := sq_le h3 h2
 have p3 := sq_le h1 h4
 have p4 := sq_le h3 h4
 unfold mulH
 show _ = x * y / 18446744073709551616 ∧ x * y / 18446744073709551616 < _
 rw [hm]
 generalize x / 4294967296 * (y / 4294967296) = s at *
 generalize x / 4294967296 * (y % 4294967296) = q at *
 generalize x % 4294967296 * (y / 4294967296) = r at *
 generalize x % 4294967296 * (y % 4294967296) = p at *
 omega
set_option maxRecDepth 100000 in
theorem m132 : Meets Tryd.prog 132 sp132 := by
 refine meets_of_owed (C := c105) ⟨tab_ok, fun f s h => by cases h⟩ (by kernel_rfl) (by kernel_rfl : Tryd.prog.funcs[132]? = some Tryd.f132) (by kernel_rfl) (by kernel_rfl) (by kernel_rfl) _ ?_
 rintro _ ⟨x, y, rfl, hx, hy⟩
 refine ⟨fun _ => rfl, fun _ => none, ?_⟩
 show owed c105 (fun _ => none) Tryd.f132 [u64n x, u64n y] (.tup [u64n (mulH x y), u64n (mulL x y)])
 rw [vc132]
 obtain ⟨e, eb⟩ := hi_eq x y hx hy
 have h1 : x % 4294967296 < 4294967296 := Nat.mod_lt _ (by decide)
 have h2 : y % 4294967296 < 4294967296 := Nat.mod_lt _ (by decide)
 have h3 : x / 4294967296 < 4294967296 := by have : x < 18446744073709551616 := hx; omega
 have h4 : y / 4294967296 < 4294967296 := by have : y < 18446744073709551616 := hy; omega
 rw [shr32, shr32, low32 x hx, low32 y hy, ← Int.natCast_mul, ← Int.natCast_mul, ← Int.natCast_mul, ← Int.natCast_mul, ← Int.natCast_mul, hiI _ _ _ _ (sq_le h1 h2) (sq_le h3 h2) (sq_le h1 h4) (sq_le h3 h4) (by rw [e]; exact eb), e, wN64]
 and_intros <;> first | rfl | omega | trivial
theorem step_eq (q c d : Nat) (hq : q ≤ 340282366920938463426481119284349108225) (hc : c < 18446744073709551616) (hd : d < 18446744073709551616) :
  ((q % 18446744073709551616 + c + 0) % 18446744073709551616 + d + 0) % 18446744073709551616 = (q + c + d) % 18446744073709551616 ∧
  q / 18446744073709551616 + (q % 18446744073709551616 + c + 0) / 18446744073709551616 + ((q % 18446744073709551616 + c + 0) % 18446744073709551616 + d + 0) / 18446744073709551616 = (q + c + d) / 18446744073709551616 ∧
  (q + c + d) / 18446744073709551616 < 18446744073709551616 := by omega
theorem sq_leB {a b : Nat} (ha : a < 18446744073709551616) (hb : b < 18446744073709551616) : a * b ≤ 340282366920938463426481119284349108225 := Nat.mul_le_mul (show a ≤ 18446744073709551615 by omega) (show b ≤ 18446744073709551615 by omega)
set_option maxRecDepth 100000 in
theorem m125 : Meets Tryd.prog 125 sp125 := by
 refine meets_of_owed (C := c125) ⟨tab_ok, lkS_ok ⟨m124, m132, trivial⟩⟩ (by kernel_rfl) (by kernel_rfl : Tryd.prog.funcs[125]? = some Tryd.f125) (by kernel_rfl) (by kernel_rfl) (by kernel_rfl) _ ?_
 rintro _ ⟨a, b, c, d, rfl, ha, hb, hc, hd⟩
 refine ⟨fun _ => rfl, fun _ => none, ?_⟩
 show owed c125 (fun _ => none) Tryd.f125 [u64n a, u64n b, u64n c, u64n d] (.tup [u64n (stL a b c d), u64n (stH a b c d)])
 rw [vc125]
 obtain ⟨s1, s2, s3⟩ := step_eq (a * b) c d (sq_leB ha hb) hc hd
 have l1 : mulL a b < 18446744073709551616 := Nat.mod_lt _ (by decide)
 have l2 : adl (mulL a b) c 0 < 18446744073709551616 := Nat.mod_lt _ (by decide)
 have e1 : adl (adl (mulL a b) c 0) d 0 = stL a b c d := s1
 have e2 : mulH a b + adc (mulL a b) c 0 + adc (adl (mulL a b) c 0) d 0 = stH a b c d := s2
 have e3 : stH a b c d < 18446744073709551616 := s3
 simp (decide := true) only [Int.toNat_natCast, eq_self, true_and, and_true, ne_eq, not_false_eq_true]
 refine ⟨⟨a, b, rfl, ha, hb⟩, ⟨_, c, 0, rfl, l1, hc, by decide⟩, ⟨_, d, 0, rfl, l2, hd, by decide⟩, ?_⟩
 rw [e1, ← Int.natCast_add, wB (by omega), ← Int.natCast_add, wB (by omega), e2]
theorem addL_get (l m : List Int) {i : Nat} : (addL l m i).getD i 0 = l.getD i 0 := by
 unfold addL
 rw [List.getD_eq_getElem?_getD, List.getElem?_append_right (by rw [nB_length]; exact Nat.le_refl _), nB_length, Nat.sub_self, List.getElem?_drop, Nat.add_zero, ← List.getD_eq_getElem?_getD]
theorem add_num (P V x y : Nat) (hP : 0 < P) : (V + P * (x + y)) / P = V / P + (x + y) ∧ (V + P * (x + y)) / (P * 18446744073709551616) = (x + y + V / P) / 18446744073709551616 := by
 have h := Nat.add_mul_div_left V (x + y) hP
 refine ⟨h, ?_⟩
 rw [← Nat.div_div_eq_div_mul, h, Nat.add_comm (V / P)]
theorem addV_lt {l m : List Int} (hl : okw l) (hm : okw m) {i : Nat} (h1 : i ≤ l.length) (h2 : i ≤ m.length) : addK l m i ≤ 1 := by
 have hA := vB_lt (b := 18446744073709551616) (l := l.take i) fun z hz => hl z (List.mem_of_mem_take hz)
 have hC := vB_lt (b := 18446744073709551616) (l := m.take i) fun z hz => hm z (List.mem_of_mem_take hz)
 rw [List.length_take, show min i l.length = i by omega] at hA
 rw [List.length_take, show min i m.length = i by omega] at hC
 unfold addK addV
 have : vB 18446744073709551616 (l.take i) + vB 18446744073709551616 (m.take i) < 2 * 18446744073709551616 ^ i := by omega
 have := Nat.div_lt_of_lt_mul (show _ < 18446744073709551616 ^ i * 2 by rw [Nat.mul_comm]; exact this)
 omega
theorem addL_set {l m : List Int} {i : Nat} (hil : i < l.length) (him : i < m.length) {x y : Nat} (ex : l.getD i 0 = (x : Int)) (ey : m.getD i 0 = (y : Int)) :
  (addL l m i).set i ((adl x y (addK l m i) : Nat) : Int) = addL l m (i + 1) ∧ adc x y (addK l m i) = addK l m (i + 1) := by
 have e1 := vB_take1 (b := 18446744073709551616) (l := l) i hil
 have e2 := vB_take1 (b := 18446744073709551616) (l := m) i him
 rw [ex, Int.toNat_natCast] at e1
 rw [ey, Int.toNat_natCast] at e2
 have hV : addV l m (i + 1) = addV l m i + 18446744073709551616 ^ i * (x + y) := by
  unfold addV
  rw [e1, e2, Nat.mul_add]
  omega
 obtain ⟨n1, n2⟩ := add_num (18446744073709551616 ^ i) (addV l m i) x y (Nat.pow_pos (by decide))
 have hk : addK l m (i + 1) = adc x y (addK l m i) := by
  unfold addK adc
  rw [hV, Nat.pow_succ, n2]
 refine ⟨?_, hk.symm⟩
 have hd : l.drop i = l.getD i 0 :: l.drop (i + 1) := by
  rw [List.drop_eq_getElem_cons hil]
  simp [hil]
 have hlow : nB 18446744073709551616 i (addV l m (i + 1)) = nB 18446744073709551616 i (addV l m i) := by
  rw [hV, ← nB_mod 18446744073709551616 i (addV l m i + _), Nat.add_mul_mod_self_left, nB_mod]
 unfold addL
 rw [nB_push, hlow, hd, List.set_append_right _ _ (by rw [nB_length]; exact Nat.le_refl _), nB_length, Nat.sub_self, List.set_cons_zero, hV, n1, List.append_assoc]
 have : adl x y (addK l m i) = (addV l m i / 18446744073709551616 ^ i + (x + y)) % 18446744073709551616 := by
  unfold adl addK
  rw [Nat.add_comm (x + y)]
 rw [this]
 rfl
set_option maxRecDepth 100000 in
theorem m109 : Meets Tryd.prog 109 sp109 := by
 refine meets_of_owed (C := c109) ⟨tab_ok, lkS_ok ⟨m124, trivial⟩⟩ (by kernel_rfl) (by kernel_rfl : Tryd.prog.funcs[109]? = some Tryd.f109) (by kernel_rfl) (by kernel_rfl) (by kernel_rfl) _ ?_
 rintro _ ⟨l, m, rfl, ⟨hl, hl4⟩, hm, hm4⟩
 refine ⟨fun _ => rfl, inv109 l m, ?_⟩
 show owed c109 (inv109 l m) Tryd.f109 [num4 l, num4 m] (.tup [num4 (nB 18446744073709551616 4 (smN (wv l) (wv m))), u64n (smC (wv l) (wv m))])
 rw [vc109]
 simp (decide := true) only [eq_self, true_and, and_true, ne_eq, not_false_eq_true, Int.toNat_natCast]
 refine ⟨?_, ?_⟩
 ·have e : addL l m 0 = l := by simp [addL, nB]
  have e2 : addK l m 0 = 0 := by simp [addK, addV, vB]
  rw [show (Int.toNat 0) = 0 from rfl, e, e2]
  and_intros <;> first | rfl | trivial
 intro i hi
 split
 ·rename_i h
  have h := of_decide_eq_true h
  obtain ⟨x, ex, hx⟩ := okw_get hl (i := i) (by omega)
  obtain ⟨y, ey, hy⟩ := okw_get hm (i := i) (by omega)
  obtain ⟨s1, s2⟩ := addL_set (l := l) (m := m) (i := i) (by omega) (by omega) ex ey
  have hb := addV_lt hl hm (i := i) (by omega) (by omega)
  rw [addL_get, ex, ey, show ((i : Int) + 1) = ((i + 1 : Nat) : Int) by omega, wi (n := ((i + 1 : Nat) : Int)) (by omega) (by omega)]
  simp only [Int.toNat_natCast]
  rw [s1, s2]
  have hp : ∃ x_1 y_1 b : Nat, [u64n x, u64n y, u64n (addK l m i)] = [u64n x_1, u64n y_1, u64n b] ∧ x_1 < 18446744073709551616 ∧ y_1 < 18446744073709551616 ∧ b ≤ 1 := ⟨x, y, _, rfl, hx, hy, hb⟩
  and_intros <;> first | exact hp | omega | rfl | trivial
 ·rename_i h
  have h := of_decide_eq_false h
  obtain rfl : i = 4 := by omega
  have t1 : l.take 4 = l := List.take_of_length_le (by omega)
  have t2 : m.take 4 = m := List.take_of_length_le (by omega)
  have e : addL l m 4 = nB 18446744073709551616 4 (smN (wv l) (wv m)) := by
   unfold addL addV smN
   rw [t1, t2, List.drop_of_length_le (by omega), List.append_nil]
   exact (nB_mod 18446744073709551616 4 _).symm
  have e2 : addK l m 4 = smC (wv l) (wv m) := by
   unfold addK addV smC
   rw [t1, t2]
  rw [e, e2]
end Go.Proofs.YtkicjckhkefnpaaDoor
namespace Go.Proofs.YtkicjckhkefnpaaDoor
open Go Go.Vg
theorem okw_set {l : List Int} (h : okw l) {i : Nat} {x : Nat} (hx : x < 18446744073709551616) : okw (l.set i (x : Int)) := by
 intro y hy
 rcases List.mem_or_eq_of_mem_set hy with h1 | rfl
 ·exact h y h1
 ·exact ⟨by omega, by omega⟩
theorem timW_step {l m : List Int} (hl : isN l) (hm : isN m) {i k c : Nat} {out : List Int} (h : TimJ l m i k c out) (hi : i < 4) (hk : k < 4) :
  ∃ a b o : Nat, l.getD i 0 = (a : Int) ∧ m.getD k 0 = (b : Int) ∧ out.getD (i + k) 0 = (o : Int) ∧ a < 18446744073709551616 ∧ b < 18446744073709551616 ∧ o < 18446744073709551616 ∧
   TimJ l m i (k + 1) (stH a b o c) (out.set (i + k) ((stL a b o c : Nat) : Int)) := by
 obtain ⟨a, ea, ha⟩ := okw_get hl.1 (i := i) (by have := hl.2; omega)
 obtain ⟨b, eb, hb⟩ := okw_get hm.1 (i := k) (by have := hm.2; omega)
 obtain ⟨o, eo, ho⟩ := okw_get h.ok (i := i + k) (by have := h.len; omega)
 refine ⟨a, b, o, ea, eb, eo, ha, hb, ho, ?_⟩
 have hq := sq_leB ha hb
 have hc := h.car
 have s3 := (step_eq (a * b) o c hq ho hc).2.2
 have sL : stL a b o c < 18446744073709551616 := Nat.mod_lt _ (by decide)
 have hv := vB_set (b := 18446744073709551616) out (i + k) ((stL a b o c : Nat) : Int) (by have := h.len; omega)
 have ht := vB_take1 (b := 18446744073709551616) (l := m) k (by have := hm.2; omega)
 have hval := h.val
 refine ⟨by simp [h.len], okw_set h.ok sL, fun j hj => ?_, s3, ?_⟩
 ·rw [getD_set, if_neg (by omega)]
  exact h.zero j hj
 ·rw [eo, Int.toNat_natCast, Int.toNat_natCast] at hv
  rw [ea, Int.toNat_natCast] at hval ⊢
  rw [eb, Int.toNat_natCast] at ht
  unfold wv at hval ⊢
  rw [ht, Nat.mul_add, Nat.mul_add, Nat.mul_left_comm a (18446744073709551616 ^ k), ← Nat.mul_assoc (18446744073709551616 ^ i) (18446744073709551616 ^ k), ← Nat.pow_add]
  rw [show i + (k + 1) = (i + k) + 1 by omega, Nat.pow_succ]
  generalize 18446744073709551616 ^ (i + k) = B at hv hval ⊢
  have e : B * stL a b o c + B * 18446744073709551616 * stH a b o c = B * (a * b) + B * o + B * c := by
   rw [Nat.mul_assoc, ← Nat.mul_add, ← Nat.mul_add, ← Nat.mul_add]
   congr 1
   unfold stL stH
   exact Nat.mod_add_div _ _
  omega
theorem timW_start {l m : List Int} {i : Nat} {out : List Int} (h : TimI l m i out) : TimJ l m i 0 0 out :=
 ⟨h.len, h.ok, h.zero, by decide, by have := h.val; simp [vB]; exact this⟩
theorem timW_next {l m : List Int} (hl : isN l) (hm : isN m) {i c : Nat} {out : List Int} (h : TimJ l m i 4 c out) (hi : i < 4) : TimI l m (i + 1) (out.set (i + 4) ((c : Nat) : Int)) := by
 have hz := h.zero (i + 4) (Nat.le_refl _)
 have hv := vB_set (b := 18446744073709551616) out (i + 4) ((c : Nat) : Int) (by have := h.len; omega)
 have ht := vB_take1 (b := 18446744073709551616) (l := l) i (by have := hl.2; omega)
 have hval := h.val
 refine ⟨by simp [h.len], okw_set h.ok h.car, fun j hj => ?_, ?_⟩
 ·rw [getD_set, if_neg (by omega)]
  exact h.zero j (by omega)
 ·rw [hz, show Int.toNat 0 = 0 from rfl, Nat.mul_zero, Nat.add_zero, Int.toNat_natCast] at hv
  rw [show m.take 4 = m from List.take_of_length_le (by have := hm.2; omega)] at hval
  unfold wv at hval ⊢
  rw [ht, hv, Nat.add_mul, Nat.mul_assoc, hval]
theorem timW_zero (l m : List Int) : TimI l m 0 (List.replicate 8 0) :=
 ⟨by simp, fun x hx => by rw [List.mem_replicate] at hx; rw [hx.2]; decide, fun j _ => by simp only [List.getD_eq_getElem?_getD, List.getElem?_replicate]; split <;> rfl, by unfold wv; rw [vB_rep]; simp [vB]⟩
set_option maxRecDepth 100000 in
theorem m110 : Meets Tryd.prog 110 sp110 := by
 refine meets_of_owed (C := c110) ⟨tab_ok, lkS_ok ⟨m125, trivial⟩⟩ (by kernel_rfl) (by kernel_rfl : Tryd.prog.funcs[110]? = some Tryd.f110) (by kernel_rfl) (by kernel_rfl) (by kernel_rfl) _ ?_
 rintro _ ⟨l, m, rfl, hl, hm⟩
 refine ⟨fun _ => rfl, inv110 l m, ?_⟩
 show owed c110 (inv110 l m) Tryd.f110 [num4 l, num4 m] (num8 (nB 18446744073709551616 8 (wv l * wv m)))
 rw [vc110]
 simp (decide := true) only [eq_self, true_and, and_true, ne_eq, not_false_eq_true, Int.toNat_natCast]
 refine ⟨⟨rfl, timW_zero l m⟩, ?_⟩
 rintro ⟨i, out⟩ ⟨hi, hT⟩
 simp only at hi hT ⊢
 split
 ·rename_i h
  have h := of_decide_eq_true h
  refine ⟨⟨by and_intros <;> first | rfl | trivial, timW_start hT⟩, ?_⟩
  rintro ⟨k, c, out⟩ ⟨hk, hJ⟩
  simp only at hk hJ ⊢
  split
  ·rename_i h2
   have h2 := of_decide_eq_true h2
   obtain ⟨a, b, o, ea, eb, eo, ha, hb, ho, hS⟩ := timW_step hl hm hJ (by omega) (by omega)
   have e1 : IntKind.i64.wrap ((i : Int) + (k : Int)) = ((i + k : Nat) : Int) := by rw [wi (by omega) (by omega)]; omega
   have e2 : IntKind.i64.wrap ((k : Int) + 1) = ((k + 1 : Nat) : Int) := by rw [wi (by omega) (by omega)]; omega
   simp only [e1, e2, Int.toNat_natCast, ea, eb, eo]
   have hp : ∃ a_1 b_1 c_1 d : Nat, [u64n a, u64n b, u64n o, u64n c] = [u64n a_1, u64n b_1, u64n c_1, u64n d] ∧ a_1 < 18446744073709551616 ∧ b_1 < 18446744073709551616 ∧ c_1 < 18446744073709551616 ∧ d < 18446744073709551616 := ⟨a, b, o, c, rfl, ha, hb, ho, hJ.car⟩
   and_intros <;> first | exact hp | exact hS | omega | rfl | trivial
  ·rename_i h2
   have h2 := of_decide_eq_false h2
   obtain rfl : k = 4 := by omega
   have e1 : IntKind.i64.wrap ((i : Int) + 4) = ((i + 4 : Nat) : Int) := by rw [wi (by omega) (by omega)]; omega
   have e2 : IntKind.i64.wrap ((i : Int) + 1) = ((i + 1 : Nat) : Int) := by rw [wi (by omega) (by omega)]; omega
   have hN := timW_next hl hm hJ (by omega)
   simp only [e1, e2, Int.toNat_natCast]
   and_intros <;> first | exact hN | omega | rfl | trivial
 ·rename_i h
  have h := of_decide_eq_false h
  obtain rfl : i = 4 := by omega
  have hv := hT.val
  rw [List.take_of_length_le (by have := hl.2; omega)] at hv
  have := nB_vB (b := 18446744073709551616) hT.ok
  rw [hT.len] at this
  rw [← hv, this]
end Go.Proofs.YtkicjckhkefnpaaDoor
namespace Go.Proofs.YtkicjckhkefnpaaDoor
open Go Go.Vg
abbrev n4 (v : Nat) : D := num4 (nB 18446744073709551616 4 v)
structure InvI (A M r0 r1 s0 s1 : Nat) : Prop where
 big : 1 < M
 top : M < 2 ^ 256
 r : r1 < r0 ∧ r0 ≤ M
 s : s0 < M ∧ s1 < M
 g : Nat.gcd r0 r1 = Nat.gcd A M
 e0 : ∃ k : Int, (A : Int) * (s0 : Int) = (r0 : Int) + k * (M : Int)
 e1 : ∃ k : Int, (A : Int) * (s1 : Int) = (r1 : Int) + k * (M : Int)
end Go.Proofs.YtkicjckhkefnpaaDoor
namespace Go.Proofs.YtkicjckhkefnpaaDoor
open Go Go.Vg
end Go.Proofs.YtkicjckhkefnpaaDoor
namespace Go.Proofs.YtkicjckhkefnpaaDoor
open Go Go.Vg
theorem n4v {v : Nat} (h : v < 2 ^ 256) : vB 18446744073709551616 (nB 18446744073709551616 4 v) = v := by
 rw [wv_nB, Nat.mod_eq_of_lt h]
theorem addz (l : List Int) : vB 18446744073709551616 (l ++ [0, 0, 0, 0]) = vB 18446744073709551616 l := by
 rw [vB_append, show vB 18446744073709551616 [0, 0, 0, 0] = 0 from rfl, Nat.mul_zero, Nat.add_zero]
theorem n8v {p : Nat} (h : p < 2 ^ 256 * 2 ^ 256) : vB 18446744073709551616 (nB 18446744073709551616 8 p) = p := by
 rw [vB_nB, Nat.mod_eq_of_lt (by rw [show 18446744073709551616 ^ 8 = 2 ^ 256 * 2 ^ 256 from by decide]; exact h)]
theorem isN_n4 (v : Nat) : isN (nB 18446744073709551616 4 v) := ⟨nB_okw 4 v, nB_length _ _ _⟩
theorem okw_app {a b : List Int} (ha : okw a) (hb : okw b) : okw (a ++ b) := by
 intro x hx
 rcases List.mem_append.1 hx with h | h
 ·exact ha x h
 ·exact hb x h
theorem okw_zero : okw [0, 0, 0, 0] := by
 intro x hx
 simp at hx
 omega
end Go.Proofs.YtkicjckhkefnpaaDoor
