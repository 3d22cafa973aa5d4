/- Vg, part X: functions without a body, for which the model has an entry. -/
import Derived.Test.YtkicjckhkefnpaaDoorZb10
import Derived.Laws.Externs
import Derived.Test.YtkicjckhkefnpaaDoorZb9
namespace Go.Vg
open Go Go.RowKit
theorem meets_extern {P : Program} {f : FuncId} {fn : Func} {e : Array Value → Sem Value} {sp : Spec} (hf : P.funcs[f]? = some fn) (hname : (fn.name == "runtime.NumGoroutine") = false)
  (hb : fn.body.isNone = true) (hn : Extern.findNext fn = none) (he : Extern.find fn = some e)
  (h : ∀ ds, sp.pre ds → flatD (sp.f ds) = true ∧ ∀ (X : Nat → Prop) (w : World) (vs : List Value), All2 (VR w X) ds vs → ∃ v, (e vs.toArray).run P w = .ok v w ∧ VR w X (sp.f ds) v) : Meets P f sp := by
 intro ds hpre
 obtain ⟨h1, h2⟩ := h ds hpre
 refine ⟨fun _ => h1, fun X w vs _ hvs => ?_⟩
 obtain ⟨v, hv, hr⟩ := h2 _ w vs hvs
 unfold UponCall
 rw [run_callFunc_extern hf hname hb hn he, hv]
 exact ⟨Grow.refl w, flat_VR h1 hr⟩
theorem all2_3 {w : World} {X : Nat → Prop} {a b c : D} {vs : List Value} (h : All2 (VR w X) [a, b, c] vs) : ∃ x y z, vs = [x, y, z] ∧ VR w X a x ∧ VR w X b y ∧ VR w X c z := by
 cases h with
 | cons h1 h => cases h with
  | cons h2 h => cases h with
   | cons h3 h => cases h with
    | nil => exact ⟨_, _, _, rfl, h1, h2, h3⟩
theorem vr_num {w : World} {X : Nat → Prop} {k : IntKind} {n : Int} {v : Value} (h : VR w X (.val (.int k n)) v) : v = .int k n := vr_val h
theorem num_vr (w : World) (X : Nat → Prop) (k : IntKind) (n : Int) : VR w X (.val (.int k n)) (.int k n) := vr_of_int w X k n
theorem pair_vr (w : World) (X : Nat → Prop) (k k' : IntKind) (n m : Int) : VR w X (.tup [.val (.int k n), .val (.int k' m)]) (.tuple #[.int k n, .int k' m]) :=
 ⟨[.int k n, .int k' m], rfl, .cons (VR.one (num_vr w X k n) rfl) (.cons (VR.one (num_vr w X k' m) rfl) .nil)⟩
end Go.Vg
namespace Go.Proofs.YtkicjckhkefnpaaDoor
open Go Go.Vg
abbrev u64n (n : Nat) : D := .val (.int .u64 (n : Int))
abbrev B64 : Nat := 18446744073709551616
def nn (d : D) : Nat := (numOf d).toNat
def sbd (x y b : Nat) : Nat := (x + B64 - y - b) % B64
def sbb (x y b : Nat) : Nat := if x < y + b then 1 else 0
def dif (a b : Nat) : Nat := (a + 2 ^ 256 - b) % 2 ^ 256
def bor (a b : Nat) : Nat := if a < b then 1 else 0
def cmpN (a b : Nat) : Int := if a < b then -1 else if a > b then 1 else 0
def shf (v : Nat) (n : Int) : Nat := if 0 ≤ n then v * 2 ^ n.toNat else v / 2 ^ (-n).toNat
def i64ok (n : Int) : Prop := -9223372036854775808 ≤ n ∧ n ≤ 9223372036854775807
def sp121 : Go.Vg.Spec := ⟨fun ds => ∃ x y b, ds = [u64n x, u64n y, u64n b] ∧ x < B64 ∧ y < B64 ∧ b ≤ 1,
 fun ds => .tup [u64n (sbd (nn (ds.headD default)) (nn (ds.getD 1 default)) (nn (ds.getD 2 default))), u64n (sbb (nn (ds.headD default)) (nn (ds.getD 1 default)) (nn (ds.getD 2 default)))], true, [73, 73, 73]⟩
def sp93 : Go.Vg.Spec := ⟨fun ds => ∃ l m, ds = [num4 l, num4 m] ∧ (okw l ∧ l.length = 4) ∧ okw m ∧ m.length = 4,
 fun ds => .tup [num4 (nB 18446744073709551616 4 (dif (wv (arrOf (ds.headD default))) (wv (arrOf (ds.getD 1 default))))), u64n (bor (wv (arrOf (ds.headD default))) (wv (arrOf (ds.getD 1 default))))], true, [75, 75]⟩
def sp98 : Go.Vg.Spec := ⟨fun ds => ∃ l m, ds = [num4 l, num4 m] ∧ (okw l ∧ l.length = 4) ∧ okw m ∧ m.length = 4, fun ds => i64 (cmpN (wv (arrOf (ds.headD default))) (wv (arrOf (ds.getD 1 default)))), true, [75, 75]⟩
def sp96 : Go.Vg.Spec := ⟨fun ds => ∃ l n, ds = [num4 l, i64 n] ∧ (okw l ∧ l.length = 4) ∧ i64ok n, fun ds => num4 (nB 18446744073709551616 4 (shf (wv (arrOf (ds.headD default))) (numOf (ds.getD 1 default)))), true, [75, 3]⟩
def c93 : Ctx := ⟨tab, lkS [(121, sp121)], [], []⟩
def subL (l m : List Int) (i : Nat) : List Int := nB 18446744073709551616 i ((vB 18446744073709551616 (l.take i) + 18446744073709551616 ^ i - vB 18446744073709551616 (m.take i)) % 18446744073709551616 ^ i) ++ l.drop i
def inv93 (l m : List Int) : Nat → Option Inv
 | 3 => some ⟨Nat, fun i => [(8, .d (i64 i)), (6, .d (u64n (bor (vB 18446744073709551616 (l.take i)) (vB 18446744073709551616 (m.take i)))))], fun i => [(2, .fix (num4 (subL l m i)))], fun s => (slotN s 8).toNat, fun _ i => i ≤ 4, fun i => 4 - i⟩
 | _ => none
def inv98 (l m : List Int) : Nat → Option Inv
 | 2 => some ⟨Int, fun i => [(5, .d (i64 i))], fun _ => [], fun s => slotN s 5, fun _ i => (-1 ≤ i ∧ i ≤ 3) ∧ l.drop (i + 1).toNat = m.drop (i + 1).toNat, fun i => (i + 1).toNat⟩
 | _ => none
def inv96 (l : List Int) (n : Int) : Nat → Option Inv
 | 13 => some ⟨Nat, fun i => [(8, .d (i64 i))], fun i => [(5, .fix (num4 (nB 18446744073709551616 i (shf (wv l) n) ++ List.replicate (4 - i) 0)))], fun s => (slotN s 8).toNat, fun _ i => n.toNat / 64 ≤ i ∧ i ≤ 4, fun i => 4 - i⟩
 | 4 => some ⟨Nat, fun i => [(11, .d (i64 i))], fun i => [(5, .fix (num4 (nB 18446744073709551616 (i - (-n).toNat / 64) (shf (wv l) n) ++ List.replicate (4 - (i - (-n).toNat / 64)) 0)))], fun s => (slotN s 11).toNat, fun _ i => (-n).toNat / 64 ≤ i ∧ i ≤ 4, fun i => 4 - i⟩
 | _ => none
set_option maxRecDepth 100000 in
theorem vc93  (l m : List Int) (F : D)  :
    (owed c93 (inv93 l m) Tryd.f93 [num4 l, num4 m] F) = (
 (True ∧ false = false) ∧
 (True ∧ false = false) ∧
 (True ∧ (4 : Nat) ≠ (0 : Nat)) ∧
 True ∧
 True ∧
 True ∧
 (((AV.d (D.val (Value.int IntKind.i64 (0 : Int))) = AV.d (D.val (Value.int IntKind.i64 (↑(Int.toNat (0 : Int)) : Int))) ∧ AV.d (D.val (Value.int IntKind.u64 (0 : Int))) = AV.d (D.val (Value.int IntKind.u64 (↑(bor (vB (18446744073709551616 : Nat) (List.take (Int.toNat (0 : Int)) l)) (vB (18446744073709551616 : Nat) (List.take (Int.toNat (0 : Int)) m))) : Int))) ∧ True) ∧
 (some (Blk.fix (D.arr IntKind.u64 (4 : Nat) l)) = some (Blk.fix (D.arr IntKind.u64 (4 : Nat) (subL l m (Int.toNat (0 : Int))))) ∧ sm (some (Blk.fix (D.arr IntKind.u64 (4 : Nat) m))) ∧ sm (some (Blk.fix (D.arr IntKind.u64 (4 : Nat) [(0 : Int), (0 : Int), (0 : Int), (0 : Int)]))) ∧ True) ∧ true = true) ∧
 Int.toNat (0 : Int) ≤ (4 : Nat)) ∧
 ∀ (x : Nat),
 x ≤ (4 : Nat) →
 true = true ∧
 True ∧
 match decide ((↑x : Int) < (4 : Int)) with
 | true =>
  True ∧
  True ∧
  True ∧
  True ∧
  ((0 : Int) ≤ (↑x : Int) ∧ (↑x : Int) < (↑(4 : Nat) : Int) ∧ (4 : Nat) = (4 : Nat) ∧ (1 : Nat) = (1 : Nat)) ∧
  ((1 : Nat) ≠ (0 : Nat) ∧ (1 : Nat) = (1 : Nat) ∧ false = false) ∧
  True ∧
  ((0 : Int) ≤ (↑x : Int) ∧ (↑x : Int) < (↑(4 : Nat) : Int) ∧ (4 : Nat) = (4 : Nat) ∧ (1 : Nat) = (1 : Nat)) ∧
  ((1 : Nat) ≠ (0 : Nat) ∧ (1 : Nat) = (1 : Nat) ∧ false = false) ∧
  True ∧
  (∃ (x_1 : Nat),
  ∃ (y : Nat),
  ∃ (b : Nat),
  [D.val (Value.int IntKind.u64 ((subL l m x).getD (↑x : Int).toNat (0 : Int))), D.val (Value.int IntKind.u64 (m.getD (↑x : Int).toNat (0 : Int))), D.val (Value.int IntKind.u64 (↑(bor (vB (18446744073709551616 : Nat) (List.take x l)) (vB (18446744073709551616 : Nat) (List.take x m))) : Int))] =
  [D.val (Value.int IntKind.u64 (↑x_1 : Int)), D.val (Value.int IntKind.u64 (↑y : Int)), D.val (Value.int IntKind.u64 (↑b : Int))] ∧
  x_1 < (18446744073709551616 : Nat) ∧ y < (18446744073709551616 : Nat) ∧ b ≤ (1 : Nat)) ∧
  True ∧
  ((0 : Nat) < (2 : Nat) ∧ false = false) ∧
  ((1 : Nat) < (2 : Nat) ∧ false = false) ∧
  ((0 : Int) ≤ (↑x : Int) ∧ (↑x : Int) < (↑(4 : Nat) : Int) ∧ (4 : Nat) = (4 : Nat) ∧ (1 : Nat) = (1 : Nat)) ∧
  (((↑x : Int).toNat < (4 : Nat) ∧ ([] : List Nat) = [] ∧ true = true) ∧ (1 : Nat) ≠ (0 : Nat) ∧ (1 : Nat) = (1 : Nat) ∧ false = false) ∧
  True ∧
  True ∧
  True ∧
  ((AV.d (D.val (Value.int IntKind.i64 (IntKind.i64.wrap ((↑x : Int) + (1 : Int))))) = AV.d (D.val (Value.int IntKind.i64 (↑(IntKind.i64.wrap ((↑x : Int) + (1 : Int))).toNat : Int))) ∧
  AV.d (D.val (Value.int IntKind.u64 (↑(sbb ((subL l m x).getD (↑x : Int).toNat (0 : Int)).toNat (m.getD (↑x : Int).toNat (0 : Int)).toNat (↑(bor (vB (18446744073709551616 : Nat) (List.take x l)) (vB (18446744073709551616 : Nat) (List.take x m))) : Int).toNat) : Int))) =
  AV.d (D.val (Value.int IntKind.u64 (↑(bor (vB (18446744073709551616 : Nat) (List.take (IntKind.i64.wrap ((↑x : Int) + (1 : Int))).toNat l)) (vB (18446744073709551616 : Nat) (List.take (IntKind.i64.wrap ((↑x : Int) + (1 : Int))).toNat m))) : Int))) ∧
  True) ∧
  (some (Blk.fix (D.arr IntKind.u64 (4 : Nat) ((subL l m x).set (↑x : Int).toNat (↑(sbd ((subL l m x).getD (↑x : Int).toNat (0 : Int)).toNat (m.getD (↑x : Int).toNat (0 : Int)).toNat (↑(bor (vB (18446744073709551616 : Nat) (List.take x l)) (vB (18446744073709551616 : Nat) (List.take x m))) : Int).toNat) : Int)))) =
  some (Blk.fix (D.arr IntKind.u64 (4 : Nat) (subL l m (IntKind.i64.wrap ((↑x : Int) + (1 : Int))).toNat))) ∧
  sm (some (Blk.fix (D.arr IntKind.u64 (4 : Nat) m))) ∧ sm (some (Blk.fix (D.arr IntKind.u64 (4 : Nat) [(0 : Int), (0 : Int), (0 : Int), (0 : Int)]))) ∧ True) ∧
  true = true) ∧
  (IntKind.i64.wrap ((↑x : Int) + (1 : Int))).toNat ≤ (4 : Nat) ∧ (4 : Nat) - (IntKind.i64.wrap ((↑x : Int) + (1 : Int))).toNat < (4 : Nat) - x
 | false =>
  ((4 : Nat) ≠ (0 : Nat) ∧ (4 : Nat) = (4 : Nat) ∧ true = true) ∧
  True ∧
  (Sk.arr (4 : Nat) = Sk.arr (4 : Nat) ∧ (4 : Nat) ≠ (0 : Nat) ∧ (4 : Nat) = (4 : Nat) ∧ false = false) ∧
  True ∧ (((4 : Nat) ≠ (0 : Nat) ∧ (4 : Nat) = (4 : Nat) ∧ true = true) ∧ false = false ∧ True) ∧ D.tup [D.arr IntKind.u64 (4 : Nat) (subL l m x), D.val (Value.int IntKind.u64 (↑(bor (vB (18446744073709551616 : Nat) (List.take x l)) (vB (18446744073709551616 : Nat) (List.take x m))) : Int))] = F) := by kernel_rfl
set_option maxRecDepth 100000 in
theorem vc98  (l m : List Int) (F : D)  :
    (owed c105 (inv98 l m) Tryd.f98 [num4 l, num4 m] F) = (
 (True ∧ false = false) ∧
 (True ∧ false = false) ∧
 True ∧
 True ∧
 (((sm (AV.d (D.val (Value.int IntKind.i64 (3 : Int)))) ∧ True) ∧ (sm (some (Blk.fix (D.arr IntKind.u64 (4 : Nat) l))) ∧ sm (some (Blk.fix (D.arr IntKind.u64 (4 : Nat) m))) ∧ True) ∧ true = true) ∧ ((-1 : Int) ≤ (3 : Int) ∧ (3 : Int) ≤ (3 : Int)) ∧ List.drop ((3 : Int) + (1 : Int)).toNat l = List.drop ((3 : Int) + (1 : Int)).toNat m) ∧
 ∀ (x : Int),
 ((-1 : Int) ≤ x ∧ x ≤ (3 : Int)) ∧ List.drop (x + (1 : Int)).toNat l = List.drop (x + (1 : Int)).toNat m →
 true = true ∧
 True ∧
 True ∧
 match decide (x ≥ (0 : Int)) with
 | true =>
  True ∧
  ((0 : Int) ≤ x ∧ x < (↑(4 : Nat) : Int) ∧ (4 : Nat) = (4 : Nat) ∧ (1 : Nat) = (1 : Nat)) ∧
  ((1 : Nat) ≠ (0 : Nat) ∧ (1 : Nat) = (1 : Nat) ∧ false = false) ∧
  True ∧
  ((0 : Int) ≤ x ∧ x < (↑(4 : Nat) : Int) ∧ (4 : Nat) = (4 : Nat) ∧ (1 : Nat) = (1 : Nat)) ∧
  ((1 : Nat) ≠ (0 : Nat) ∧ (1 : Nat) = (1 : Nat) ∧ false = false) ∧
  True ∧
  True ∧
  match decide (l.getD x.toNat (0 : Int) < m.getD x.toNat (0 : Int)) with
  | true => True ∧ (false = false ∧ True) ∧ D.val (Value.int IntKind.i64 (-1 : Int)) = F
  | false =>
   True ∧
   ((0 : Int) ≤ x ∧ x < (↑(4 : Nat) : Int) ∧ (4 : Nat) = (4 : Nat) ∧ (1 : Nat) = (1 : Nat)) ∧
   ((1 : Nat) ≠ (0 : Nat) ∧ (1 : Nat) = (1 : Nat) ∧ false = false) ∧
   True ∧
   ((0 : Int) ≤ x ∧ x < (↑(4 : Nat) : Int) ∧ (4 : Nat) = (4 : Nat) ∧ (1 : Nat) = (1 : Nat)) ∧
   ((1 : Nat) ≠ (0 : Nat) ∧ (1 : Nat) = (1 : Nat) ∧ false = false) ∧
   True ∧
   True ∧
   match decide (l.getD x.toNat (0 : Int) > m.getD x.toNat (0 : Int)) with
   | true => True ∧ (false = false ∧ True) ∧ D.val (Value.int IntKind.i64 (1 : Int)) = F
   | false =>
    True ∧
    True ∧
    True ∧
    ((sm (AV.d (D.val (Value.int IntKind.i64 (IntKind.i64.wrap (x - (1 : Int)))))) ∧ True) ∧ (sm (some (Blk.fix (D.arr IntKind.u64 (4 : Nat) l))) ∧ sm (some (Blk.fix (D.arr IntKind.u64 (4 : Nat) m))) ∧ True) ∧ true = true) ∧
    (((-1 : Int) ≤ IntKind.i64.wrap (x - (1 : Int)) ∧ IntKind.i64.wrap (x - (1 : Int)) ≤ (3 : Int)) ∧ List.drop (IntKind.i64.wrap (x - (1 : Int)) + (1 : Int)).toNat l = List.drop (IntKind.i64.wrap (x - (1 : Int)) + (1 : Int)).toNat m) ∧ (IntKind.i64.wrap (x - (1 : Int)) + (1 : Int)).toNat < (x + (1 : Int)).toNat
 | false => True ∧ (false = false ∧ True) ∧ D.val (Value.int IntKind.i64 (0 : Int)) = F) := by kernel_rfl
set_option maxRecDepth 100000 in
theorem vc96  (l : List Int) (n : Int) (F : D)  :
    (owed c105 (inv96 l n) Tryd.f96 [num4 l, i64 n] F) = (
 (True ∧ false = false) ∧
 (True ∧ (4 : Nat) ≠ (0 : Nat)) ∧
 (True ∧ (4 : Nat) ≠ (0 : Nat)) ∧
 True ∧
 True ∧
 True ∧
 match decide (n > (255 : Int)) with
 | true => True ∧ True ∧ ((4 : Nat) ≠ (0 : Nat) ∧ (4 : Nat) = (4 : Nat) ∧ true = true) ∧ (Sk.arr (4 : Nat) = Sk.arr (4 : Nat) ∧ (4 : Nat) ≠ (0 : Nat) ∧ (4 : Nat) = (4 : Nat) ∧ false = false) ∧ (((4 : Nat) ≠ (0 : Nat) ∧ (4 : Nat) = (4 : Nat) ∧ true = true) ∧ True) ∧ D.arr IntKind.u64 (4 : Nat) [(0 : Int), (0 : Int), (0 : Int), (0 : Int)] = F
 | false =>
  True ∧
  True ∧
  True ∧
  True ∧
  match decide (n < (-255 : Int)) with
  | true => ((4 : Nat) ≠ (0 : Nat) ∧ (4 : Nat) = (4 : Nat) ∧ true = true) ∧ (Sk.arr (4 : Nat) = Sk.arr (4 : Nat) ∧ (4 : Nat) ≠ (0 : Nat) ∧ (4 : Nat) = (4 : Nat) ∧ false = false) ∧ (((4 : Nat) ≠ (0 : Nat) ∧ (4 : Nat) = (4 : Nat) ∧ true = true) ∧ True) ∧ D.arr IntKind.u64 (4 : Nat) [(0 : Int), (0 : Int), (0 : Int), (0 : Int)] = F
  | false =>
   True ∧
   True ∧
   True ∧
   match decide (n ≥ (0 : Int)) with
   | true =>
    True ∧
    (64 : Int) ≠ (0 : Int) ∧
    True ∧
    (64 : Int) ≠ (0 : Int) ∧
    True ∧
    True ∧
    True ∧
    True ∧
    True ∧
    (((AV.d (D.val (Value.int IntKind.i64 (IntKind.i64.wrap (n.tdiv (64 : Int))))) = AV.d (D.val (Value.int IntKind.i64 (↑(IntKind.i64.wrap (n.tdiv (64 : Int))).toNat : Int))) ∧ True) ∧
    (sm (some (Blk.fix (D.arr IntKind.u64 (4 : Nat) l))) ∧
    sm (some (Blk.fix (D.arr IntKind.u64 (4 : Nat) [(0 : Int), (0 : Int), (0 : Int), (0 : Int)]))) ∧
    some (Blk.fix (D.arr IntKind.u64 (4 : Nat) [(0 : Int), (0 : Int), (0 : Int), (0 : Int)])) =
    some (Blk.fix (D.arr IntKind.u64 (4 : Nat) (nB (18446744073709551616 : Nat) (IntKind.i64.wrap (n.tdiv (64 : Int))).toNat (shf (vB (18446744073709551616 : Nat) l) n) ++ List.replicate ((4 : Nat) - (IntKind.i64.wrap (n.tdiv (64 : Int))).toNat) (0 : Int)))) ∧
    True) ∧
    true = true) ∧
    n.toNat / (64 : Nat) ≤ (IntKind.i64.wrap (n.tdiv (64 : Int))).toNat ∧ (IntKind.i64.wrap (n.tdiv (64 : Int))).toNat ≤ (4 : Nat)) ∧
    ∀ (x : Nat),
    n.toNat / (64 : Nat) ≤ x ∧ x ≤ (4 : Nat) →
    true = true ∧
    True ∧
    True ∧
    match decide ((↑x : Int) < (4 : Int)) with
    | true =>
     True ∧
     True ∧
     True ∧
     True ∧
     ((0 : Int) ≤ IntKind.i64.wrap ((↑x : Int) - IntKind.i64.wrap (n.tdiv (64 : Int))) ∧ IntKind.i64.wrap ((↑x : Int) - IntKind.i64.wrap (n.tdiv (64 : Int))) < (↑(4 : Nat) : Int) ∧ (4 : Nat) = (4 : Nat) ∧ (1 : Nat) = (1 : Nat)) ∧
     ((1 : Nat) ≠ (0 : Nat) ∧ (1 : Nat) = (1 : Nat) ∧ false = false) ∧
     True ∧
     (0 : Int) ≤ IntKind.u64.wrap (n.tmod (64 : Int)) ∧
     ((0 : Int) ≤ (↑x : Int) ∧ (↑x : Int) < (↑(4 : Nat) : Int) ∧ (4 : Nat) = (4 : Nat) ∧ (1 : Nat) = (1 : Nat)) ∧
     (((↑x : Int).toNat < (4 : Nat) ∧ ([] : List Nat) = [] ∧ true = true) ∧ (1 : Nat) ≠ (0 : Nat) ∧ (1 : Nat) = (1 : Nat) ∧ false = false) ∧
     True ∧
     True ∧
     True ∧
     match decide ((↑x : Int) > IntKind.i64.wrap (n.tdiv (64 : Int))) with
     | true =>
      True ∧
      ((0 : Int) ≤ (↑x : Int) ∧ (↑x : Int) < (↑(4 : Nat) : Int) ∧ (4 : Nat) = (4 : Nat) ∧ (1 : Nat) = (1 : Nat)) ∧
      ((1 : Nat) ≠ (0 : Nat) ∧ (1 : Nat) = (1 : Nat) ∧ false = false) ∧
      True ∧
      True ∧
      True ∧
      True ∧
      ((0 : Int) ≤ IntKind.i64.wrap (IntKind.i64.wrap ((↑x : Int) - IntKind.i64.wrap (n.tdiv (64 : Int))) - (1 : Int)) ∧ IntKind.i64.wrap (IntKind.i64.wrap ((↑x : Int) - IntKind.i64.wrap (n.tdiv (64 : Int))) - (1 : Int)) < (↑(4 : Nat) : Int) ∧ (4 : Nat) = (4 : Nat) ∧ (1 : Nat) = (1 : Nat)) ∧
      ((1 : Nat) ≠ (0 : Nat) ∧ (1 : Nat) = (1 : Nat) ∧ false = false) ∧
      True ∧
      True ∧
      (0 : Int) ≤ IntKind.u64.wrap ((64 : Int) - IntKind.u64.wrap (n.tmod (64 : Int))) ∧
      True ∧
      ((0 : Int) ≤ (↑x : Int) ∧ (↑x : Int) < (↑(4 : Nat) : Int) ∧ (4 : Nat) = (4 : Nat) ∧ (1 : Nat) = (1 : Nat)) ∧
      (((↑x : Int).toNat < (4 : Nat) ∧ ([] : List Nat) = [] ∧ true = true) ∧ (1 : Nat) ≠ (0 : Nat) ∧ (1 : Nat) = (1 : Nat) ∧ false = false) ∧
      True ∧
      True ∧
      True ∧
      ((AV.d (D.val (Value.int IntKind.i64 (IntKind.i64.wrap ((↑x : Int) + (1 : Int))))) = AV.d (D.val (Value.int IntKind.i64 (↑(IntKind.i64.wrap ((↑x : Int) + (1 : Int))).toNat : Int))) ∧ True) ∧
      (sm (some (Blk.fix (D.arr IntKind.u64 (4 : Nat) l))) ∧
      sm (some (Blk.fix (D.arr IntKind.u64 (4 : Nat) [(0 : Int), (0 : Int), (0 : Int), (0 : Int)]))) ∧
      some
      (Blk.fix
      (D.arr IntKind.u64 (4 : Nat)
      (((nB (18446744073709551616 : Nat) x (shf (vB (18446744073709551616 : Nat) l) n) ++ List.replicate ((4 : Nat) - x) (0 : Int)).set (↑x : Int).toNat
      (ishl IntKind.u64 (l.getD (IntKind.i64.wrap ((↑x : Int) - IntKind.i64.wrap (n.tdiv (64 : Int)))).toNat (0 : Int)) (IntKind.u64.wrap (n.tmod (64 : Int))))).set
      (↑x : Int).toNat
      (ior IntKind.u64
      (((nB (18446744073709551616 : Nat) x (shf (vB (18446744073709551616 : Nat) l) n) ++ List.replicate ((4 : Nat) - x) (0 : Int)).set (↑x : Int).toNat
      (ishl IntKind.u64 (l.getD (IntKind.i64.wrap ((↑x : Int) - IntKind.i64.wrap (n.tdiv (64 : Int)))).toNat (0 : Int)) (IntKind.u64.wrap (n.tmod (64 : Int))))).getD
      (↑x : Int).toNat (0 : Int))
      (ishr IntKind.u64 (l.getD (IntKind.i64.wrap (IntKind.i64.wrap ((↑x : Int) - IntKind.i64.wrap (n.tdiv (64 : Int))) - (1 : Int))).toNat (0 : Int)) (IntKind.u64.wrap ((64 : Int) - IntKind.u64.wrap (n.tmod (64 : Int))))))))) =
      some
      (Blk.fix
      (D.arr IntKind.u64 (4 : Nat) (nB (18446744073709551616 : Nat) (IntKind.i64.wrap ((↑x : Int) + (1 : Int))).toNat (shf (vB (18446744073709551616 : Nat) l) n) ++ List.replicate ((4 : Nat) - (IntKind.i64.wrap ((↑x : Int) + (1 : Int))).toNat) (0 : Int)))) ∧
      True) ∧
      true = true) ∧
      (n.toNat / (64 : Nat) ≤ (IntKind.i64.wrap ((↑x : Int) + (1 : Int))).toNat ∧ (IntKind.i64.wrap ((↑x : Int) + (1 : Int))).toNat ≤ (4 : Nat)) ∧ (4 : Nat) - (IntKind.i64.wrap ((↑x : Int) + (1 : Int))).toNat < (4 : Nat) - x
     | false =>
      True ∧
      True ∧
      True ∧
      ((AV.d (D.val (Value.int IntKind.i64 (IntKind.i64.wrap ((↑x : Int) + (1 : Int))))) = AV.d (D.val (Value.int IntKind.i64 (↑(IntKind.i64.wrap ((↑x : Int) + (1 : Int))).toNat : Int))) ∧ True) ∧
      (sm (some (Blk.fix (D.arr IntKind.u64 (4 : Nat) l))) ∧
      sm (some (Blk.fix (D.arr IntKind.u64 (4 : Nat) [(0 : Int), (0 : Int), (0 : Int), (0 : Int)]))) ∧
      some
      (Blk.fix
      (D.arr IntKind.u64 (4 : Nat)
      ((nB (18446744073709551616 : Nat) x (shf (vB (18446744073709551616 : Nat) l) n) ++ List.replicate ((4 : Nat) - x) (0 : Int)).set (↑x : Int).toNat
      (ishl IntKind.u64 (l.getD (IntKind.i64.wrap ((↑x : Int) - IntKind.i64.wrap (n.tdiv (64 : Int)))).toNat (0 : Int)) (IntKind.u64.wrap (n.tmod (64 : Int))))))) =
      some (Blk.fix (D.arr IntKind.u64 (4 : Nat) (nB (18446744073709551616 : Nat) (IntKind.i64.wrap ((↑x : Int) + (1 : Int))).toNat (shf (vB (18446744073709551616 : Nat) l) n) ++ List.replicate ((4 : Nat) - (IntKind.i64.wrap ((↑x : Int) + (1 : Int))).toNat) (0 : Int)))) ∧
      True) ∧
      true = true) ∧
      (n.toNat / (64 : Nat) ≤ (IntKind.i64.wrap ((↑x : Int) + (1 : Int))).toNat ∧ (IntKind.i64.wrap ((↑x : Int) + (1 : Int))).toNat ≤ (4 : Nat)) ∧ (4 : Nat) - (IntKind.i64.wrap ((↑x : Int) + (1 : Int))).toNat < (4 : Nat) - x
    | false =>
     ((4 : Nat) ≠ (0 : Nat) ∧ (4 : Nat) = (4 : Nat) ∧ true = true) ∧
     (Sk.arr (4 : Nat) = Sk.arr (4 : Nat) ∧ (4 : Nat) ≠ (0 : Nat) ∧ (4 : Nat) = (4 : Nat) ∧ false = false) ∧ (((4 : Nat) ≠ (0 : Nat) ∧ (4 : Nat) = (4 : Nat) ∧ true = true) ∧ True) ∧ D.arr IntKind.u64 (4 : Nat) (nB (18446744073709551616 : Nat) x (shf (vB (18446744073709551616 : Nat) l) n) ++ List.replicate ((4 : Nat) - x) (0 : Int)) = F
   | false =>
    True ∧
    True ∧
    (64 : Int) ≠ (0 : Int) ∧
    True ∧
    True ∧
    (64 : Int) ≠ (0 : Int) ∧
    True ∧
    True ∧
    True ∧
    True ∧
    True ∧
    (((AV.d (D.val (Value.int IntKind.i64 (IntKind.i64.wrap ((IntKind.i64.wrap ((0 : Int) - n)).tdiv (64 : Int))))) = AV.d (D.val (Value.int IntKind.i64 (↑(IntKind.i64.wrap ((IntKind.i64.wrap ((0 : Int) - n)).tdiv (64 : Int))).toNat : Int))) ∧ True) ∧
    (sm (some (Blk.fix (D.arr IntKind.u64 (4 : Nat) l))) ∧
    sm (some (Blk.fix (D.arr IntKind.u64 (4 : Nat) [(0 : Int), (0 : Int), (0 : Int), (0 : Int)]))) ∧
    some (Blk.fix (D.arr IntKind.u64 (4 : Nat) [(0 : Int), (0 : Int), (0 : Int), (0 : Int)])) =
    some
    (Blk.fix
    (D.arr IntKind.u64 (4 : Nat)
    (nB (18446744073709551616 : Nat) ((IntKind.i64.wrap ((IntKind.i64.wrap ((0 : Int) - n)).tdiv (64 : Int))).toNat - (-n).toNat / (64 : Nat)) (shf (vB (18446744073709551616 : Nat) l) n) ++
    List.replicate ((4 : Nat) - ((IntKind.i64.wrap ((IntKind.i64.wrap ((0 : Int) - n)).tdiv (64 : Int))).toNat - (-n).toNat / (64 : Nat))) (0 : Int)))) ∧
    True) ∧
    true = true) ∧
    (-n).toNat / (64 : Nat) ≤ (IntKind.i64.wrap ((IntKind.i64.wrap ((0 : Int) - n)).tdiv (64 : Int))).toNat ∧ (IntKind.i64.wrap ((IntKind.i64.wrap ((0 : Int) - n)).tdiv (64 : Int))).toNat ≤ (4 : Nat)) ∧
    ∀ (x : Nat),
    (-n).toNat / (64 : Nat) ≤ x ∧ x ≤ (4 : Nat) →
    true = true ∧
    True ∧
    True ∧
    match decide ((↑x : Int) < (4 : Int)) with
    | true =>
     True ∧
     True ∧
     True ∧
     True ∧
     ((0 : Int) ≤ (↑x : Int) ∧ (↑x : Int) < (↑(4 : Nat) : Int) ∧ (4 : Nat) = (4 : Nat) ∧ (1 : Nat) = (1 : Nat)) ∧
     ((1 : Nat) ≠ (0 : Nat) ∧ (1 : Nat) = (1 : Nat) ∧ false = false) ∧
     True ∧
     (0 : Int) ≤ IntKind.u64.wrap ((IntKind.i64.wrap ((0 : Int) - n)).tmod (64 : Int)) ∧
     ((0 : Int) ≤ IntKind.i64.wrap ((↑x : Int) - IntKind.i64.wrap ((IntKind.i64.wrap ((0 : Int) - n)).tdiv (64 : Int))) ∧ IntKind.i64.wrap ((↑x : Int) - IntKind.i64.wrap ((IntKind.i64.wrap ((0 : Int) - n)).tdiv (64 : Int))) < (↑(4 : Nat) : Int) ∧ (4 : Nat) = (4 : Nat) ∧ (1 : Nat) = (1 : Nat)) ∧
     (((IntKind.i64.wrap ((↑x : Int) - IntKind.i64.wrap ((IntKind.i64.wrap ((0 : Int) - n)).tdiv (64 : Int)))).toNat < (4 : Nat) ∧ ([] : List Nat) = [] ∧ true = true) ∧ (1 : Nat) ≠ (0 : Nat) ∧ (1 : Nat) = (1 : Nat) ∧ false = false) ∧
     True ∧
     True ∧
     match decide ((↑x : Int) < (3 : Int)) with
     | true =>
      True ∧
      True ∧
      True ∧
      ((0 : Int) ≤ IntKind.i64.wrap ((↑x : Int) - IntKind.i64.wrap ((IntKind.i64.wrap ((0 : Int) - n)).tdiv (64 : Int))) ∧ IntKind.i64.wrap ((↑x : Int) - IntKind.i64.wrap ((IntKind.i64.wrap ((0 : Int) - n)).tdiv (64 : Int))) < (↑(4 : Nat) : Int) ∧ (4 : Nat) = (4 : Nat) ∧ (1 : Nat) = (1 : Nat)) ∧
      ((1 : Nat) ≠ (0 : Nat) ∧ (1 : Nat) = (1 : Nat) ∧ false = false) ∧
      True ∧
      True ∧
      ((0 : Int) ≤ IntKind.i64.wrap ((↑x : Int) + (1 : Int)) ∧ IntKind.i64.wrap ((↑x : Int) + (1 : Int)) < (↑(4 : Nat) : Int) ∧ (4 : Nat) = (4 : Nat) ∧ (1 : Nat) = (1 : Nat)) ∧
      ((1 : Nat) ≠ (0 : Nat) ∧ (1 : Nat) = (1 : Nat) ∧ false = false) ∧
      True ∧
      True ∧
      (0 : Int) ≤ IntKind.u64.wrap ((64 : Int) - IntKind.u64.wrap ((IntKind.i64.wrap ((0 : Int) - n)).tmod (64 : Int))) ∧
      True ∧
      ((0 : Int) ≤ IntKind.i64.wrap ((↑x : Int) - IntKind.i64.wrap ((IntKind.i64.wrap ((0 : Int) - n)).tdiv (64 : Int))) ∧
      IntKind.i64.wrap ((↑x : Int) - IntKind.i64.wrap ((IntKind.i64.wrap ((0 : Int) - n)).tdiv (64 : Int))) < (↑(4 : Nat) : Int) ∧ (4 : Nat) = (4 : Nat) ∧ (1 : Nat) = (1 : Nat)) ∧
      (((IntKind.i64.wrap ((↑x : Int) - IntKind.i64.wrap ((IntKind.i64.wrap ((0 : Int) - n)).tdiv (64 : Int)))).toNat < (4 : Nat) ∧ ([] : List Nat) = [] ∧ true = true) ∧ (1 : Nat) ≠ (0 : Nat) ∧ (1 : Nat) = (1 : Nat) ∧ false = false) ∧
      True ∧
      True ∧
      True ∧
      ((AV.d (D.val (Value.int IntKind.i64 (IntKind.i64.wrap ((↑x : Int) + (1 : Int))))) = AV.d (D.val (Value.int IntKind.i64 (↑(IntKind.i64.wrap ((↑x : Int) + (1 : Int))).toNat : Int))) ∧ True) ∧
      (sm (some (Blk.fix (D.arr IntKind.u64 (4 : Nat) l))) ∧
      sm (some (Blk.fix (D.arr IntKind.u64 (4 : Nat) [(0 : Int), (0 : Int), (0 : Int), (0 : Int)]))) ∧
      some
      (Blk.fix
      (D.arr IntKind.u64 (4 : Nat)
      (((nB (18446744073709551616 : Nat) (x - (-n).toNat / (64 : Nat)) (shf (vB (18446744073709551616 : Nat) l) n) ++ List.replicate ((4 : Nat) - (x - (-n).toNat / (64 : Nat))) (0 : Int)).set
      (IntKind.i64.wrap ((↑x : Int) - IntKind.i64.wrap ((IntKind.i64.wrap ((0 : Int) - n)).tdiv (64 : Int)))).toNat (ishr IntKind.u64 (l.getD (↑x : Int).toNat (0 : Int)) (IntKind.u64.wrap ((IntKind.i64.wrap ((0 : Int) - n)).tmod (64 : Int))))).set
      (IntKind.i64.wrap ((↑x : Int) - IntKind.i64.wrap ((IntKind.i64.wrap ((0 : Int) - n)).tdiv (64 : Int)))).toNat
      (ior IntKind.u64
      (((nB (18446744073709551616 : Nat) (x - (-n).toNat / (64 : Nat)) (shf (vB (18446744073709551616 : Nat) l) n) ++ List.replicate ((4 : Nat) - (x - (-n).toNat / (64 : Nat))) (0 : Int)).set
      (IntKind.i64.wrap ((↑x : Int) - IntKind.i64.wrap ((IntKind.i64.wrap ((0 : Int) - n)).tdiv (64 : Int)))).toNat
      (ishr IntKind.u64 (l.getD (↑x : Int).toNat (0 : Int)) (IntKind.u64.wrap ((IntKind.i64.wrap ((0 : Int) - n)).tmod (64 : Int))))).getD
      (IntKind.i64.wrap ((↑x : Int) - IntKind.i64.wrap ((IntKind.i64.wrap ((0 : Int) - n)).tdiv (64 : Int)))).toNat (0 : Int))
      (ishl IntKind.u64 (l.getD (IntKind.i64.wrap ((↑x : Int) + (1 : Int))).toNat (0 : Int)) (IntKind.u64.wrap ((64 : Int) - IntKind.u64.wrap ((IntKind.i64.wrap ((0 : Int) - n)).tmod (64 : Int))))))))) =
      some
      (Blk.fix
      (D.arr IntKind.u64 (4 : Nat)
      (nB (18446744073709551616 : Nat) ((IntKind.i64.wrap ((↑x : Int) + (1 : Int))).toNat - (-n).toNat / (64 : Nat)) (shf (vB (18446744073709551616 : Nat) l) n) ++
      List.replicate ((4 : Nat) - ((IntKind.i64.wrap ((↑x : Int) + (1 : Int))).toNat - (-n).toNat / (64 : Nat))) (0 : Int)))) ∧
      True) ∧
      true = true) ∧
      ((-n).toNat / (64 : Nat) ≤ (IntKind.i64.wrap ((↑x : Int) + (1 : Int))).toNat ∧ (IntKind.i64.wrap ((↑x : Int) + (1 : Int))).toNat ≤ (4 : Nat)) ∧ (4 : Nat) - (IntKind.i64.wrap ((↑x : Int) + (1 : Int))).toNat < (4 : Nat) - x
     | false =>
      True ∧
      True ∧
      True ∧
      ((AV.d (D.val (Value.int IntKind.i64 (IntKind.i64.wrap ((↑x : Int) + (1 : Int))))) = AV.d (D.val (Value.int IntKind.i64 (↑(IntKind.i64.wrap ((↑x : Int) + (1 : Int))).toNat : Int))) ∧ True) ∧
      (sm (some (Blk.fix (D.arr IntKind.u64 (4 : Nat) l))) ∧
      sm (some (Blk.fix (D.arr IntKind.u64 (4 : Nat) [(0 : Int), (0 : Int), (0 : Int), (0 : Int)]))) ∧
      some
      (Blk.fix
      (D.arr IntKind.u64 (4 : Nat)
      ((nB (18446744073709551616 : Nat) (x - (-n).toNat / (64 : Nat)) (shf (vB (18446744073709551616 : Nat) l) n) ++ List.replicate ((4 : Nat) - (x - (-n).toNat / (64 : Nat))) (0 : Int)).set
      (IntKind.i64.wrap ((↑x : Int) - IntKind.i64.wrap ((IntKind.i64.wrap ((0 : Int) - n)).tdiv (64 : Int)))).toNat (ishr IntKind.u64 (l.getD (↑x : Int).toNat (0 : Int)) (IntKind.u64.wrap ((IntKind.i64.wrap ((0 : Int) - n)).tmod (64 : Int))))))) =
      some
      (Blk.fix
      (D.arr IntKind.u64 (4 : Nat)
      (nB (18446744073709551616 : Nat) ((IntKind.i64.wrap ((↑x : Int) + (1 : Int))).toNat - (-n).toNat / (64 : Nat)) (shf (vB (18446744073709551616 : Nat) l) n) ++
      List.replicate ((4 : Nat) - ((IntKind.i64.wrap ((↑x : Int) + (1 : Int))).toNat - (-n).toNat / (64 : Nat))) (0 : Int)))) ∧
      True) ∧
      true = true) ∧
      ((-n).toNat / (64 : Nat) ≤ (IntKind.i64.wrap ((↑x : Int) + (1 : Int))).toNat ∧ (IntKind.i64.wrap ((↑x : Int) + (1 : Int))).toNat ≤ (4 : Nat)) ∧ (4 : Nat) - (IntKind.i64.wrap ((↑x : Int) + (1 : Int))).toNat < (4 : Nat) - x
    | false =>
     ((4 : Nat) ≠ (0 : Nat) ∧ (4 : Nat) = (4 : Nat) ∧ true = true) ∧
     (Sk.arr (4 : Nat) = Sk.arr (4 : Nat) ∧ (4 : Nat) ≠ (0 : Nat) ∧ (4 : Nat) = (4 : Nat) ∧ false = false) ∧
     (((4 : Nat) ≠ (0 : Nat) ∧ (4 : Nat) = (4 : Nat) ∧ true = true) ∧ True) ∧ D.arr IntKind.u64 (4 : Nat) (nB (18446744073709551616 : Nat) (x - (-n).toNat / (64 : Nat)) (shf (vB (18446744073709551616 : Nat) l) n) ++ List.replicate ((4 : Nat) - (x - (-n).toNat / (64 : Nat))) (0 : Int)) = F) := by kernel_rfl
theorem m121 : Meets Tryd.prog 121 sp121 := by
 refine meets_extern Tryd.func121 (by kernel_rfl) (by kernel_rfl) (by kernel_rfl) (e := (Go.Extern.MathBitsCarry.rows.getD 1 ("", fun _ => default)).2) (by kernel_rfl) ?_
 rintro _ ⟨x, y, b, rfl, hx, hy, hb⟩
 refine ⟨rfl, fun X w vs h => ?_⟩
 obtain ⟨v1, v2, v3, rfl, h1, h2, h3⟩ := all2_3 h
 obtain rfl := vr_num h1
 obtain rfl := vr_num h2
 obtain rfl := vr_num h3
 refine ⟨_, ?_, pair_vr w X .u64 .u64 ((sbd x y b : Nat) : Int) ((sbb x y b : Nat) : Int)⟩
 obtain rfl | rfl : b = 0 ∨ b = 1 := by omega
 ·rfl
 ·rfl
end Go.Proofs.YtkicjckhkefnpaaDoor
namespace Go.Proofs.YtkicjckhkefnpaaDoor
open Go Go.Vg
theorem sbd_spec (x y b : Nat) (hx : x < B64) (hy : y < B64) (hb : b ≤ 1) : (sbd x y b < B64) ∧ ((y + b ≤ x ∧ sbd x y b + y + b = x ∧ sbb x y b = 0) ∨ (x < y + b ∧ sbd x y b + y + b = x + B64 ∧ sbb x y b = 1)) := by
 unfold sbd sbb
 refine ⟨Nat.mod_lt _ (by decide), ?_⟩
 rcases Nat.lt_or_ge x (y + b) with h | h
 ·right
  refine ⟨h, ?_, if_pos h⟩
  rw [Nat.mod_eq_of_lt (by omega)]
  omega
 ·left
  refine ⟨h, ?_, if_neg (by omega)⟩
  rw [show x + B64 - y - b = (x - y - b) + B64 by omega, Nat.add_mod_right, Nat.mod_eq_of_lt (by omega)]
  omega
theorem mod_one (X Y M : Nat) (h : X = Y ∨ X = Y + M) (hy : Y < M) : X % M = Y := by
 rcases h with rfl | rfl
 ·exact Nat.mod_eq_of_lt hy
 ·rw [Nat.add_mod_right, Nat.mod_eq_of_lt hy]
theorem sub_num (P A C x y : Nat) (hA : A < P) (hC : C < P) (hx : x < B64) (hy : y < B64) :
  (A + P * x + P * B64 - (C + P * y)) % (P * B64) = (A + P - C) % P + P * sbd x y (bor A C) ∧ bor (A + P * x) (C + P * y) = sbb x y (bor A C) := by
 have hb : bor A C ≤ 1 := by unfold bor; split <;> omega
 have hAC : (A < C ∧ bor A C = 1 ∧ (A + P - C) % P = A + P - C) ∨ (C ≤ A ∧ bor A C = 0 ∧ (A + P - C) % P = A - C) := by
  rcases Nat.lt_or_ge A C with h | h
  ·exact .inl ⟨h, if_pos h, Nat.mod_eq_of_lt (by omega)⟩
  ·exact .inr ⟨h, if_neg (by omega), mod_one _ _ _ (.inr (by omega)) (by omega)⟩
 obtain ⟨hd, hcase⟩ := sbd_spec x y (bor A C) hx hy hb
 generalize bor A C = b at hb hAC hd hcase ⊢
 generalize sbd x y b = d at hd hcase ⊢
 generalize sbb x y b = e at hcase ⊢
 have m1 : P * (d + 1) ≤ P * B64 := Nat.mul_le_mul_left P hd
 rw [Nat.mul_add, Nat.mul_one] at m1
 have hr : (A + P - C) % P < P := Nat.mod_lt _ (by omega)
 have lin : ∀ u v : Nat, u = v → P * u = P * v := fun u v h => by rw [h]
 have fin : ∀ s t : Nat, (s < t ↔ e = 1) → (e = 0 ∨ e = 1) → bor s t = e := by
  intro s t h1 h2
  unfold bor
  split
  ·rename_i h; exact (h1.1 h).symm
  ·rename_i h; rcases h2 with h2 | h2
   ·exact h2.symm
   ·exact absurd (h1.2 h2) h
 rcases hAC with ⟨h1, h2, h3⟩ | ⟨h1, h2, h3⟩ <;> rcases hcase with ⟨c1, c2, c3xx⟩ | ⟨c1, c2, c3xx⟩
 all_goals
  have q := lin _ _ c2
  subst h2
  simp only [Nat.mul_add, Nat.mul_one, Nat.mul_zero, Nat.add_zero] at q
  rw [h3] at hr ⊢
  have hB : P ≤ P * B64 := Nat.le_mul_of_pos_right P (by decide)
  generalize P * B64 = PB at *
  generalize P * x = Px at *
  generalize P * y = Py at *
  generalize P * d = Pd at *
  refine ⟨mod_one _ _ _ (by omega) (by omega), fin _ _ (by omega) (by omega)⟩
theorem okw_get {l : List Int} (h : okw l) {i : Nat} (hi : i < l.length) : ∃ n : Nat, l.getD i 0 = (n : Int) ∧ n < B64 := by
 have := h _ (getD_mem hi)
 exact ⟨(l.getD i 0).toNat, by omega, by show _ < 18446744073709551616; omega⟩
theorem subL_get (l m : List Int) {i : Nat} (hi : i < l.length) : (subL l m i).getD i 0 = l.getD i 0 := by
 unfold subL
 rw [List.getD_eq_getElem?_getD, List.getElem?_append_right (by rw [nB_length]; exact Nat.le_refl _), nB_length, Nat.sub_self, List.getElem?_drop, Nat.add_zero, ← List.getD_eq_getElem?_getD]
theorem nB_low (b n lo d : Nat) (h : lo < b ^ n) : nB b n (lo + b ^ n * d) = nB b n lo := by
 rw [← nB_mod b n (lo + b ^ n * d), Nat.add_mul_mod_self_left, nB_mod]
theorem subL_set {l m : List Int} (hl : okw l) (hl4 : l.length = 4) (hm : okw m) (hm4 : m.length = 4) {i : Nat} (hi : i < 4) {x y : Nat} (ex : l.getD i 0 = (x : Int)) (ey : m.getD i 0 = (y : Int)) (hx : x < B64) (hy : y < B64) :
  (subL l m i).set i ((sbd x y (bor (vB 18446744073709551616 (l.take i)) (vB 18446744073709551616 (m.take i))) : Nat) : Int) = subL l m (i + 1) ∧
   sbb x y (bor (vB 18446744073709551616 (l.take i)) (vB 18446744073709551616 (m.take i))) = bor (vB 18446744073709551616 (l.take (i + 1))) (vB 18446744073709551616 (m.take (i + 1))) := by
 have e1 := vB_take1 (b := 18446744073709551616) (l := l) i (by omega)
 have e2 := vB_take1 (b := 18446744073709551616) (l := m) i (by omega)
 rw [ex, Int.toNat_natCast] at e1
 rw [ey, Int.toNat_natCast] at e2
 have hA := vB_lt (b := 18446744073709551616) (l := l.take i) fun z hz => hl z (List.mem_of_mem_take hz)
 have hC := vB_lt (b := 18446744073709551616) (l := m.take i) fun z hz => hm z (List.mem_of_mem_take hz)
 rw [List.length_take, show min i l.length = i by omega] at hA
 rw [List.length_take, show min i m.length = i by omega] at hC
 obtain ⟨n1, n2⟩ := sub_num (18446744073709551616 ^ i) _ _ x y hA hC hx hy
 rw [← e1, ← e2] at n2
 refine ⟨?_, n2.symm⟩
 have hd : l.drop i = l.getD i 0 :: l.drop (i + 1) := by
  rw [List.drop_eq_getElem_cons (by omega)]
  simp [show i < l.length by omega]
 unfold subL
 have hlo : (vB 18446744073709551616 (l.take i) + 18446744073709551616 ^ i - vB 18446744073709551616 (m.take i)) % 18446744073709551616 ^ i < 18446744073709551616 ^ i := Nat.mod_lt _ (Nat.pow_pos (by decide))
 have hsd := (sbd_spec x y (bor (vB 18446744073709551616 (l.take i)) (vB 18446744073709551616 (m.take i))) hx hy (by unfold bor; split <;> omega)).1
 rw [e1, e2, Nat.pow_succ, n1, nB_push, nB_low _ _ _ _ hlo, hd, List.set_append_right _ _ (by rw [nB_length]; exact Nat.le_refl _), nB_length, Nat.sub_self, List.set_cons_zero, Nat.add_mul_div_left _ _ (Nat.pow_pos (by decide)), Nat.div_eq_of_lt hlo, Nat.zero_add, Nat.mod_eq_of_lt hsd, List.append_assoc]
 rfl
set_option maxRecDepth 100000 in
theorem m93 : Meets Tryd.prog 93 sp93 := by
 refine meets_of_owed (C := c93) ⟨tab_ok, lkS_ok ⟨m121, trivial⟩⟩ (by kernel_rfl) (by kernel_rfl : Tryd.prog.funcs[93]? = some Tryd.f93) (by kernel_rfl) (by kernel_rfl) (by kernel_rfl) _ ?_
 rintro _ ⟨l, m, rfl, ⟨hl, hl4⟩, hm, hm4⟩
 refine ⟨fun _ => rfl, inv93 l m, ?_⟩
 show owed c93 (inv93 l m) Tryd.f93 [num4 l, num4 m] (.tup [num4 (nB 18446744073709551616 4 (dif (wv l) (wv m))), u64n (bor (wv l) (wv m))])
 rw [vc93]
 simp (decide := true) only [eq_self, true_and, and_true, ne_eq, not_false_eq_true, Int.toNat_natCast]
 refine ⟨?_, ?_⟩
 ·have e : subL l m 0 = l := by simp [subL, nB]
  rw [show (Int.toNat 0) = 0 from rfl, e]
  and_intros <;> first | rfl | trivial
 intro i hi
 split
 ·rename_i h
  have h := of_decide_eq_true h
  obtain ⟨x, ex, hx⟩ := okw_get hl (i := i) (by omega)
  obtain ⟨y, ey, hy⟩ := okw_get hm (i := i) (by omega)
  obtain ⟨s1, s2⟩ := subL_set hl hl4 hm hm4 (i := i) (by omega) ex ey hx hy
  have hb : bor (vB 18446744073709551616 (l.take i)) (vB 18446744073709551616 (m.take i)) ≤ 1 := by unfold bor; split <;> omega
  rw [subL_get l m (by omega), ex, ey, show ((i : Int) + 1) = ((i + 1 : Nat) : Int) by omega, wi (n := ((i + 1 : Nat) : Int)) (by omega) (by omega)]
  simp only [Int.toNat_natCast]
  rw [s1, s2]
  have hp : ∃ x_1 y_1 b : Nat, [u64n x, u64n y, u64n (bor (vB 18446744073709551616 (l.take i)) (vB 18446744073709551616 (m.take i)))] = [u64n x_1, u64n y_1, u64n b] ∧ x_1 < 18446744073709551616 ∧ y_1 < 18446744073709551616 ∧ b ≤ 1 := ⟨x, y, _, rfl, hx, hy, hb⟩
  and_intros <;> first | exact hp | omega | rfl | trivial
 ·rename_i h
  have h := of_decide_eq_false h
  obtain rfl : i = 4 := by omega
  have t1 : l.take 4 = l := List.take_of_length_le (by omega)
  have t2 : m.take 4 = m := List.take_of_length_le (by omega)
  have e : subL l m 4 = nB 18446744073709551616 4 (dif (wv l) (wv m)) := by
   unfold subL dif
   rw [t1, t2, List.drop_of_length_le (by omega), List.append_nil]
  rw [e, t1, t2]
theorem vB_cut {l : List Int} (hl : okw l) {i : Nat} (hi : i < l.length) {x : Nat} (ex : l.getD i 0 = (x : Int)) : ∃ A, A < 18446744073709551616 ^ i ∧ wv l = A + 18446744073709551616 ^ i * (x + 18446744073709551616 * vB 18446744073709551616 (l.drop (i + 1))) := by
 have hA := vB_lt (b := 18446744073709551616) (l := l.take i) fun z hz => hl z (List.mem_of_mem_take hz)
 rw [List.length_take, show min i l.length = i by omega] at hA
 refine ⟨_, hA, ?_⟩
 have := vB_append 18446744073709551616 (l.take i) (l.drop i)
 rw [List.take_append_drop, List.length_take, show min i l.length = i by omega, vB_dropS 18446744073709551616 i hi, ex, Int.toNat_natCast] at this
 exact this
theorem cmp_lt {P A C x y R : Nat} (hA : A < P) (h : x < y) : A + P * (x + R) < C + P * (y + R) := by
 have := Nat.mul_le_mul_left P (show x + R + 1 ≤ y + R by omega)
 rw [Nat.mul_add P (x + R) 1, Nat.mul_one] at this
 omega
set_option maxRecDepth 100000 in
theorem m98 : Meets Tryd.prog 98 sp98 := by
 refine meets_of_owed (C := c105) ⟨tab_ok, fun f s h => by cases h⟩ (by kernel_rfl) (by kernel_rfl : Tryd.prog.funcs[98]? = some Tryd.f98) (by kernel_rfl) (by kernel_rfl) (by kernel_rfl) _ ?_
 rintro _ ⟨l, m, rfl, ⟨hl, hl4⟩, hm, hm4⟩
 refine ⟨fun _ => rfl, inv98 l m, ?_⟩
 show owed c105 (inv98 l m) Tryd.f98 [num4 l, num4 m] (i64 (cmpN (wv l) (wv m)))
 rw [vc98]
 simp (decide := true) only [eq_self, true_and, and_true, ne_eq, not_false_eq_true, Int.toNat_natCast]
 refine ⟨?_, ?_⟩
 ·rw [List.drop_of_length_le (by rw [hl4]; decide), List.drop_of_length_le (by rw [hm4]; decide)]
 rintro i ⟨hi, he⟩
 obtain ⟨z, rfl⟩ : ∃ z : Nat, i = (z : Int) - 1 := ⟨(i + 1).toNat, by omega⟩
 rw [show ((z : Int) - 1 + 1) = (z : Int) by omega] at he ⊢
 simp only [Int.toNat_natCast] at he ⊢
 split
 ·rename_i h
  have h := of_decide_eq_true h
  obtain ⟨u, rfl⟩ : ∃ u, z = u + 1 := ⟨z - 1, by omega⟩
  obtain ⟨x, ex, hx⟩ := okw_get hl (i := u) (by omega)
  obtain ⟨y, ey, hy⟩ := okw_get hm (i := u) (by omega)
  obtain ⟨A, hA, eA⟩ := vB_cut hl (by omega) ex
  obtain ⟨C, hC, eC⟩ := vB_cut hm (by omega) ey
  rw [he] at eA
  rw [show ((u + 1 : Nat) : Int) - 1 = (u : Int) by omega, wi (n := (u : Int) - 1) (by omega) (by omega), show ((u : Int) - 1 + 1) = (u : Int) by omega]
  simp only [Int.toNat_natCast, ex, ey]
  refine ⟨by omega, by omega, ?_⟩
  split
  ·rename_i h2
   have h2 := of_decide_eq_true h2
   have := cmp_lt (C := C) (R := 18446744073709551616 * vB 18446744073709551616 (m.drop (u + 1))) hA (show x < y by omega)
   rw [← eA, ← eC] at this
   unfold cmpN
   rw [if_pos this]
  ·rename_i h2
   have h2 := of_decide_eq_false h2
   refine ⟨by omega, by omega, ?_⟩
   split
   ·rename_i h3
    have h3 := of_decide_eq_true h3
    have := cmp_lt (C := A) (R := 18446744073709551616 * vB 18446744073709551616 (m.drop (u + 1))) hC (show y < x by omega)
    rw [← eA, ← eC] at this
    unfold cmpN
    rw [if_neg (by omega), if_pos this]
   ·rename_i h3
    have h3 := of_decide_eq_false h3
    have hd1 := List.drop_eq_getElem_cons (l := l) (i := u) (by omega)
    have hd2 := List.drop_eq_getElem_cons (l := m) (i := u) (by omega)
    have g1 : l[u]'(by omega) = l.getD u 0 := by simp [show u < l.length by omega]
    have g2 : m[u]'(by omega) = m.getD u 0 := by simp [show u < m.length by omega]
    have hdd : l.drop u = m.drop u := by rw [hd1, hd2, he, g1, g2, ex, ey, show x = y by omega]
    and_intros <;> first | exact hdd | omega | rfl | trivial
 ·rename_i h
  have h := of_decide_eq_false h
  obtain rfl : z = 0 := by omega
  rw [List.drop_zero, List.drop_zero] at he
  subst he
  unfold cmpN
  rw [if_neg (by omega), if_neg (by omega)]
end Go.Proofs.YtkicjckhkefnpaaDoor
namespace Go.Proofs.YtkicjckhkefnpaaDoor
open Go Go.Vg
theorem B_pow (i : Nat) : 18446744073709551616 ^ i = 2 ^ (64 * i) := by
 rw [show (18446744073709551616 : Nat) = 2 ^ 64 by decide, ← Nat.pow_mul]
theorem wbit (V i t : Nat) : (V / 18446744073709551616 ^ i % 18446744073709551616).testBit t = (decide (t < 64) && V.testBit (64 * i + t)) := by
 rw [show V / 18446744073709551616 ^ i % 18446744073709551616 = V / 2 ^ (64 * i) % 2 ^ 64 by rw [B_pow], Nat.testBit_mod_two_pow, Nat.testBit_div_two_pow, Nat.add_comm]
theorem shl_bit (a k t : Nat) : (a * 2 ^ k % 18446744073709551616).testBit t = (decide (t < 64) && (decide (t ≥ k) && a.testBit (t - k))) := by
 rw [show a * 2 ^ k % 18446744073709551616 = a * 2 ^ k % 2 ^ 64 by rfl, Nat.testBit_mod_two_pow, Nat.mul_comm, Nat.testBit_two_pow_mul]
theorem left_word (V w j k : Nat) (hk : k < 64) :
  V * 2 ^ (64 * w + k) / 18446744073709551616 ^ (w + (j + 1)) % 18446744073709551616 = ((V / 18446744073709551616 ^ (j + 1) % 18446744073709551616) * 2 ^ k % 18446744073709551616) ||| ((V / 18446744073709551616 ^ j % 18446744073709551616) / 2 ^ (64 - k)) := by
 apply Nat.eq_of_testBit_eq
 intro t
 rw [wbit, Nat.testBit_or, shl_bit, Nat.testBit_div_two_pow, wbit, wbit, Nat.mul_comm V, Nat.testBit_two_pow_mul]
 by_cases h1 : t < 64
 ·by_cases h2 : t < k
  ·rw [show 64 * (w + (j + 1)) + t - (64 * w + k) = 64 * j + (t + (64 - k)) by omega]
   simp [h1, show ¬ k ≤ t by omega, show t + (64 - k) < 64 by omega, show 64 * w + k ≤ 64 * (w + (j + 1)) + t by omega]
  ·rw [show 64 * (w + (j + 1)) + t - (64 * w + k) = 64 * (j + 1) + (t - k) by omega]
   simp [h1, show k ≤ t by omega, show ¬ t + (64 - k) < 64 by omega, show t - k < 64 by omega, show 64 * w + k ≤ 64 * (w + (j + 1)) + t by omega]
 ·simp [h1, show ¬ t + (64 - k) < 64 by omega]
theorem left_word0 (V w k : Nat) (hk : k < 64) :
  V * 2 ^ (64 * w + k) / 18446744073709551616 ^ w % 18446744073709551616 = (V / 18446744073709551616 ^ 0 % 18446744073709551616) * 2 ^ k % 18446744073709551616 := by
 apply Nat.eq_of_testBit_eq
 intro t
 rw [wbit, shl_bit, wbit, Nat.mul_comm V, Nat.testBit_two_pow_mul]
 by_cases h1 : t < 64
 ·by_cases h2 : t < k
  ·simp [h1, show ¬ k ≤ t by omega]
  ·rw [show 64 * w + t - (64 * w + k) = 64 * 0 + (t - k) by omega]
   simp [h1, show k ≤ t by omega, show t - k < 64 by omega]
 ·simp [h1]
theorem right_word (V w p k : Nat) (hk : k < 64) :
  V / 2 ^ (64 * w + k) / 18446744073709551616 ^ p % 18446744073709551616 = ((V / 18446744073709551616 ^ (w + p) % 18446744073709551616) / 2 ^ k) ||| ((V / 18446744073709551616 ^ (w + p + 1) % 18446744073709551616) * 2 ^ (64 - k) % 18446744073709551616) := by
 apply Nat.eq_of_testBit_eq
 intro t
 rw [wbit, Nat.testBit_or, shl_bit, Nat.testBit_div_two_pow, Nat.testBit_div_two_pow, wbit, wbit]
 by_cases h1 : t < 64
 ·by_cases h2 : t + k < 64
  ·rw [show 64 * p + t + (64 * w + k) = 64 * (w + p) + (t + k) by omega]
   simp [h1, h2, show ¬ 64 - k ≤ t by omega]
  ·rw [show 64 * p + t + (64 * w + k) = 64 * (w + p + 1) + (t - (64 - k)) by omega]
   simp [h1, h2, show 64 - k ≤ t by omega, show t - (64 - k) < 64 by omega]
 ·simp [h1, show ¬ t + k < 64 by omega]
theorem right_word3 (V w p k : Nat) (hk : k < 64) (h : w + p = 3) (hV : V < 2 ^ 256) :
  V / 2 ^ (64 * w + k) / 18446744073709551616 ^ p % 18446744073709551616 = (V / 18446744073709551616 ^ (w + p) % 18446744073709551616) / 2 ^ k := by
 rw [right_word V w p k hk, h]
 have : V / 18446744073709551616 ^ (3 + 1) = 0 := Nat.div_eq_of_lt hV
 rw [this]
 simp
theorem words_step (v i : Nat) (C : Int) (hi : i < 4) (h : C = ((v / 18446744073709551616 ^ i % 18446744073709551616 : Nat) : Int)) :
  (nB 18446744073709551616 i v ++ List.replicate (4 - i) 0).set i C = nB 18446744073709551616 (i + 1) v ++ List.replicate (4 - (i + 1)) 0 := by
 have e := set_rep (nB 18446744073709551616 i v) (4 - (i + 1)) C
 rw [nB_length] at e
 rw [show 4 - i = 4 - (i + 1) + 1 by omega, e, h, nB_push]
theorem get_set (L : List Int) (i : Nat) (A : Int) (h : i < L.length) : (L.set i A).getD i 0 = A := by
 simp [List.getD_eq_getElem?_getD, h]
theorem nB_zeros (b n v : Nat) (h : v % b ^ n = 0) : nB b n v = List.replicate n 0 := by
 rw [← nB_mod, h]
 clear h
 induction n with
 | zero => rfl
 | succ n ih => rw [nB, List.replicate_succ, Nat.zero_div, ih]; simp
theorem ext_rep (v n m : Nat) (h : v < 18446744073709551616 ^ n) : nB 18446744073709551616 (n + m) v = nB 18446744073709551616 n v ++ List.replicate m 0 := by
 induction m with
 | zero => simp
 | succ m ih =>
  have : v / 18446744073709551616 ^ (n + m) = 0 := Nat.div_eq_of_lt (Nat.lt_of_lt_of_le h (Nat.pow_le_pow_right (by decide) (by omega)))
  rw [← Nat.add_assoc, nB_push, ih, this, List.append_assoc, List.replicate_succ']
  rfl
theorem word_or (k : IntKind) (a b : Nat) (h : k = .u64) (ha : a < 18446744073709551616) (hb : b < 18446744073709551616) : ior k (a : Int) (b : Int) = ((a ||| b : Nat) : Int) := by
 subst h
 exact iorN .u64 ha hb
set_option maxRecDepth 100000 in
theorem m96 : Meets Tryd.prog 96 sp96 := by
 refine meets_of_owed (C := c105) ⟨tab_ok, fun f s h => by cases h⟩ (by kernel_rfl) (by kernel_rfl : Tryd.prog.funcs[96]? = some Tryd.f96) (by kernel_rfl) (by kernel_rfl) (by kernel_rfl) _ ?_
 rintro _ ⟨l, n, rfl, ⟨hl, hl4⟩, hn1, hn2⟩
 refine ⟨fun _ => rfl, inv96 l n, ?_⟩
 show owed c105 (inv96 l n) Tryd.f96 [num4 l, i64 n] (num4 (nB 18446744073709551616 4 (shf (wv l) n)))
 rw [vc96]
 have hV := wv_lt hl hl4
 have hget : ∀ i, i < 4 → l.getD i 0 = ((wv l / 18446744073709551616 ^ i % 18446744073709551616 : Nat) : Int) := fun i hi => vB_get hl (by omega)
 have hw : ∀ i, wv l / 18446744073709551616 ^ i % 18446744073709551616 < 18446744073709551616 := fun i => Nat.mod_lt _ (by decide)
 simp (decide := true) only [eq_self, true_and, and_true, ne_eq, not_false_eq_true, Int.toNat_natCast]
 have zer : ∀ v : Nat, v % 18446744073709551616 ^ 4 = 0 → num4 [0, 0, 0, 0] = num4 (nB 18446744073709551616 4 v) := fun v h => by rw [nB_zeros _ _ _ h]; rfl
 split
 ·rename_i h
  have h := of_decide_eq_true h
  refine zer _ ?_
  unfold shf
  rw [if_pos (by omega), B_pow, show n.toNat = 64 * 4 + (n.toNat - 256) by omega, Nat.pow_add, ← Nat.mul_assoc, Nat.mul_right_comm, Nat.mul_mod_left]
 rename_i h
 have h := of_decide_eq_false h
 split
 ·rename_i h1
  have h1 := of_decide_eq_true h1
  refine zer _ ?_
  unfold shf
  rw [if_neg (by omega), Nat.div_eq_of_lt (Nat.lt_of_lt_of_le hV (Nat.pow_le_pow_right (by decide) (by omega)))]
 rename_i h1
 have h1 := of_decide_eq_false h1
 split
 ·rename_i h2
  have h2 := of_decide_eq_true h2
  obtain ⟨N, rfl⟩ : ∃ N : Nat, n = (N : Int) := ⟨n.toNat, by omega⟩
  have e1 : (N : Int).tdiv 64 = ((N / 64 : Nat) : Int) := tdivN N 64
  have e2 : (N : Int).tmod 64 = ((N % 64 : Nat) : Int) := tmodN N 64
  have es : shf (wv l) (N : Int) = wv l * 2 ^ (64 * (N / 64) + N % 64) := by
   unfold shf
   rw [if_pos (by omega), Int.toNat_natCast, Nat.div_add_mod]
  have hk : N % 64 < 64 := Nat.mod_lt _ (by decide)
  have hw3 : N / 64 < 4 := by omega
  have e0 : (N : Int).toNat = N := Int.toNat_natCast N
  rw [e1, e2, es, e0]
  generalize N / 64 = w at *
  generalize N % 64 = k at *
  rw [wi (n := ((w : Nat) : Int)) (by omega) (by omega), wu (n := ((k : Nat) : Int)) (by omega) (by omega), show (64 : Int) - ((k : Nat) : Int) = ((64 - k : Nat) : Int) by omega, wu (n := ((64 - k : Nat) : Int)) (by omega) (by omega)]
  simp only [Int.toNat_natCast]
  refine ⟨?_, ?_⟩
  ·have z0 : wv l * 2 ^ (64 * w + k) % 18446744073709551616 ^ w = 0 := by
    rw [B_pow, Nat.pow_add, Nat.mul_left_comm, Nat.mul_mod_right]
   rw [nB_zeros _ _ _ z0, List.replicate_append_replicate, show w + (4 - w) = 4 by omega]
   and_intros <;> first | rfl | omega | trivial
  rintro i ⟨hi, hi4⟩
  split
  ·rename_i h3
   have h3 := of_decide_eq_true h3
   obtain ⟨j, rfl⟩ : ∃ j, i = w + j := ⟨i - w, by omega⟩
   have hlen : w + j < (nB 18446744073709551616 (w + j) (wv l * 2 ^ (64 * w + k)) ++ List.replicate (4 - (w + j)) 0).length := by rw [List.length_append, nB_length, List.length_replicate]; omega
   rw [show ((w + j : Nat) : Int) - ((w : Nat) : Int) = ((j : Nat) : Int) by omega, wi (n := ((j : Nat) : Int)) (by omega) (by omega), show ((w + j : Nat) : Int) + 1 = ((w + j + 1 : Nat) : Int) by omega, wi (n := ((w + j + 1 : Nat) : Int)) (by omega) (by omega)]
   have wj : IntKind.i64.wrap (((j : Nat) : Int) - 1) = ((j : Nat) : Int) - 1 := wi (by omega) (by omega)
   rw [wj]
   simp only [Int.toNat_natCast]
   rw [hget j (by omega), ishlN .u64 (by simp only [IntKind.bits]; omega), wN64, get_set _ _ _ hlen]
   split
   ·rename_i h4
    have h4 := of_decide_eq_true h4
    obtain ⟨q, rfl⟩ : ∃ q, j = q + 1 := ⟨j - 1, by omega⟩
    rw [show ((q + 1 : Nat) : Int) - 1 = ((q : Nat) : Int) by omega]
    simp only [Int.toNat_natCast]
    rw [hget q (by omega), ishrN .u64 (by simp only [IntKind.bits]; omega), word_or _ _ _ rfl (Nat.mod_lt _ (by decide)) (Nat.lt_of_le_of_lt (Nat.div_le_self _ _) (hw q)), List.set_set,
     words_step (wv l * 2 ^ (64 * w + k)) (w + (q + 1)) _ (by omega) (by rw [left_word _ _ _ _ hk])]
    and_intros <;> first | omega | rfl | trivial
   ·rename_i h4
    have h4 := of_decide_eq_false h4
    obtain rfl : j = 0 := by omega
    rw [words_step (wv l * 2 ^ (64 * w + k)) (w + 0) _ (by omega) (by rw [Nat.add_zero, left_word0 _ _ _ hk])]
    and_intros <;> first | omega | rfl | trivial
  ·rename_i h3
   have h3 := of_decide_eq_false h3
   obtain rfl : i = 4 := by omega
   rw [Nat.sub_self, List.replicate_zero, List.append_nil]
 ·rename_i h2
  have h2 := of_decide_eq_false h2
  obtain ⟨N, hN⟩ : ∃ N : Nat, n = -(N : Int) := ⟨(-n).toNat, by omega⟩
  have e1 : (N : Int).tdiv 64 = ((N / 64 : Nat) : Int) := tdivN N 64
  have e2 : (N : Int).tmod 64 = ((N % 64 : Nat) : Int) := tmodN N 64
  have es : shf (wv l) n = wv l / 2 ^ (64 * (N / 64) + N % 64) := by
   unfold shf
   rw [if_neg (by omega), Nat.div_add_mod, show (-n).toNat = N by omega]
  have hk : N % 64 < 64 := Nat.mod_lt _ (by decide)
  have hw3 : N / 64 < 4 := by omega
  have e0 : (-n).toNat = N := by omega
  have en : IntKind.i64.wrap (0 - n) = (N : Int) := by rw [wi (by omega) (by omega)]; omega
  rw [en, e1, e2, es, e0]
  clear en e0 es
  generalize N / 64 = w at *
  generalize N % 64 = k at *
  rw [wi (n := ((w : Nat) : Int)) (by omega) (by omega), wu (n := ((k : Nat) : Int)) (by omega) (by omega), show (64 : Int) - ((k : Nat) : Int) = ((64 - k : Nat) : Int) by omega, wu (n := ((64 - k : Nat) : Int)) (by omega) (by omega)]
  simp only [Int.toNat_natCast, Nat.sub_self]
  refine ⟨?_, ?_⟩
  ·and_intros <;> first | rfl | omega | trivial
  rintro i ⟨hi, hi4⟩
  split
  ·rename_i h3
   have h3 := of_decide_eq_true h3
   obtain ⟨p, rfl⟩ : ∃ p, i = w + p := ⟨i - w, by omega⟩
   have hlen : p < (nB 18446744073709551616 p (wv l / 2 ^ (64 * w + k)) ++ List.replicate (4 - p) 0).length := by rw [List.length_append, nB_length, List.length_replicate]; omega
   rw [show ((w + p : Nat) : Int) - ((w : Nat) : Int) = ((p : Nat) : Int) by omega, wi (n := ((p : Nat) : Int)) (by omega) (by omega), show ((w + p : Nat) : Int) + 1 = ((w + p + 1 : Nat) : Int) by omega, wi (n := ((w + p + 1 : Nat) : Int)) (by omega) (by omega)]
   simp only [Int.toNat_natCast]
   rw [show w + p - w = p by omega, show w + p + 1 - w = p + 1 by omega, hget (w + p) (by omega), ishrN .u64 (by simp only [IntKind.bits]; omega), get_set _ _ _ hlen]
   split
   ·rename_i h4
    have h4 := of_decide_eq_true h4
    rw [hget (w + p + 1) (by omega), ishlN .u64 (by simp only [IntKind.bits]; omega), wN64, word_or _ _ _ rfl (Nat.lt_of_le_of_lt (Nat.div_le_self _ _) (hw _)) (Nat.mod_lt _ (by decide)), List.set_set,
     words_step (wv l / 2 ^ (64 * w + k)) p _ (by omega) (by rw [right_word _ _ _ _ hk])]
    and_intros <;> first | omega | rfl | trivial
   ·rename_i h4
    have h4 := of_decide_eq_false h4
    rw [words_step (wv l / 2 ^ (64 * w + k)) p _ (by omega) (by rw [right_word3 _ _ _ _ hk (by omega) hV])]
    and_intros <;> first | omega | rfl | trivial
  ·rename_i h3
   have h3 := of_decide_eq_false h3
   obtain rfl : i = 4 := by omega
   have hlt : wv l / 2 ^ (64 * w + k) < 18446744073709551616 ^ (4 - w) := by
    rw [B_pow]
    refine Nat.div_lt_of_lt_mul (Nat.lt_of_lt_of_le hV ?_)
    rw [← Nat.pow_add]
    exact Nat.pow_le_pow_right (by decide) (by omega)
   have := ext_rep (wv l / 2 ^ (64 * w + k)) (4 - w) w hlt
   rw [show 4 - (4 - w) = w by omega, ← this, show 4 - w + w = 4 by omega]
end Go.Proofs.YtkicjckhkefnpaaDoor
namespace Go.Proofs.YtkicjckhkefnpaaDoor
open Go Go.Vg
abbrev i64n (n : Nat) : D := .val (.int .i64 (n : Int))
end Go.Proofs.YtkicjckhkefnpaaDoor
namespace Go.Proofs.YtkicjckhkefnpaaDoor
open Go Go.Vg
theorem wv_zero {m : List Int} (hm : okw m) (hm4 : m.length = 4) : eqB m [0, 0, 0, 0] = decide (wv m = 0) := by
 rw [eqB_eq, Bool.eq_iff_iff, decide_eq_true_iff, decide_eq_true_iff]
 constructor
 ·rintro rfl
  rfl
 ·intro h
  have := nB_vB (b := 18446744073709551616) hm
  rw [hm4] at this
  have h' : vB 18446744073709551616 m = 0 := h
  rw [← this, h']
  rfl
theorem nB_okw (n v : Nat) : okw (nB 18446744073709551616 n v) := by
 intro x hx
 induction n generalizing v with
 | zero => cases hx
 | succ n ih =>
  rw [nB, List.mem_cons] at hx
  rcases hx with rfl | hx
  ·have := Nat.mod_lt v (y := 18446744073709551616) (by decide)
   omega
  ·exact ih _ hx
theorem dif_ge {X M : Nat} (h1 : M ≤ X) (h2 : X < 2 * M) (h3 : M < 2 ^ 256) : dif (X % 2 ^ 256) M = X - M := by
 unfold dif
 generalize (2 : Nat) ^ 256 = P at *
 rcases Nat.lt_or_ge X P with h | h
 ·rw [Nat.mod_eq_of_lt h]
  exact mod_one _ _ _ (.inr (by omega)) (by omega)
 ·have e : X % P = X - P := mod_one _ _ _ (.inr (by omega)) (by omega)
  rw [e]
  exact mod_one _ _ _ (.inl (by omega)) (by omega)
end Go.Proofs.YtkicjckhkefnpaaDoor
namespace Go.Proofs.YtkicjckhkefnpaaDoor
open Go Go.Vg
def len1 (l : List Int) : Prop := l.length ≤ 1000
abbrev vD (l : List Int) : Nat := vB 65536 l
def sp99 : Go.Vg.Spec := ⟨fun ds => ∃ l m, ds = [dgs l, dgs m] ∧ (okd l ∧ lenS l) ∧ okd m ∧ lenS m, fun ds => i64 (cmpN (vD (intsOf (ds.headD default))) (vD (intsOf (ds.getD 1 default)))), true, [89, 89]⟩
def sp61 : Go.Vg.Spec := ⟨fun ds => ∃ l m, ds = [dgs l, dgs m] ∧ (okd l ∧ lenS l) ∧ (okd m ∧ lenS m) ∧ vD m ≤ vD l, fun ds => dgs (dg (vD (intsOf (ds.headD default)) - vD (intsOf (ds.getD 1 default)))), false, [89, 89]⟩
def sp104 : Go.Vg.Spec := ⟨fun ds => ∃ l m, ds = [dgs l, dgs m] ∧ (okd l ∧ len1 l) ∧ (okd m ∧ len1 m) ∧ vD m ≠ 0,
 fun ds => .tup [dgs (dg (vD (intsOf (ds.headD default)) / vD (intsOf (ds.getD 1 default)))), dgs (dg (vD (intsOf (ds.headD default)) % vD (intsOf (ds.getD 1 default))))], false, [89, 89]⟩
def sp51 : Go.Vg.Spec := ⟨fun ds => ∃ l m, ds = [dgs l, dgs m] ∧ (okd l ∧ len1 l) ∧ (okd m ∧ len1 m) ∧ vD m ≠ 0,
 fun ds => dgs (dg (vD (intsOf (ds.headD default)) % vD (intsOf (ds.getD 1 default)))), false, [89, 89]⟩
def c99 : Ctx := ⟨tab, lkS [(105, sp105)], [], []⟩
def c61 : Ctx := ⟨tab, lkS [(105, sp105), (106, sp106)], [5], [34]⟩
def c104 : Ctx := ⟨tab, lkS [(54, sp54), (106, sp106), (99, sp99), (61, sp61)], [26], [60, 100029]⟩
def c51 : Ctx := ⟨tab, lkS [(104, sp104)], [], []⟩
def inv99 (l m : List Int) : Nat → Option Inv
 | 2 => some ⟨Int, fun i => [(5, .d (i64 i))], fun _ => [], fun s => slotN s 5, fun _ i => (-1 ≤ i ∧ i ≤ 65536) ∧ vD (l.drop (i + 1).toNat) = vD (m.drop (i + 1).toNat), fun i => (i + 1).toNat⟩
 | _ => none
def sbD (l m : List Int) (i : Nat) : Nat := (vD (l.take i) + 65536 ^ i - vD (m.take i)) % 65536 ^ i
def inv61 (l m : List Int) : Nat → Option Inv
 | 4 => some ⟨Nat, fun i => [(11, .d (i64 i)), (6, .d (i64 (bor (vD (l.take i)) (vD (m.take i))))), (5, .row 5)], fun i => [(5, .row 3 (dgs (nB 65536 i (sbD l m i))))], fun s => (slotN s 11).toNat, fun _ i => i ≤ l.length, fun i => l.length - i⟩
 | _ => none
def inv104 (l m : List Int) : Nat → Option Inv
 | 4 => some ⟨Nat, fun z => [(8, .d (.val (.int .i64 ((z : Int) - 1)))), (7, .d (dgs (dg (vD (l.drop z) % vD m))))], fun z => [(14, .fix (.arr .i64 l.length (List.replicate z 0 ++ nB 65536 (l.length - z) (vD (l.drop z) / vD m))))], fun s => (slotN s 8 + 1).toNat, fun _ z => z ≤ l.length, fun z => z⟩
 | 8 => some ⟨Nat × Nat, fun z => [(9, .d (i64 z.1)), (10, .d (i64 z.2))], fun _ => [], fun s => ((slotN s 9).toNat, (slotN s 10).toNat), fun s z => (z.1 < z.2 ∧ z.2 ≤ 65536) ∧ vD m * z.1 ≤ vD (intsOf (slotD s 7)) ∧ vD (intsOf (slotD s 7)) < vD m * z.2, fun z => z.2 - z.1⟩
 | _ => none
set_option maxRecDepth 100000 in
theorem vc99  (l m : List Int) (F : D)  :
    (owed c99 (inv99 l m) Tryd.f99 [dgs l, dgs m] F) = (
 True ∧
 True ∧
 True ∧
 True ∧
 True ∧
 IntKind.i64 = IntKind.i64 ∧
 True ∧
 True ∧
 (((sm (AV.d (D.val (Value.int IntKind.i64 (IntKind.i64.wrap ((bif decide ((↑l.length : Int) < (↑m.length : Int)) then (↑m.length : Int) else (↑l.length : Int)) - (1 : Int)))))) ∧ True) ∧ True ∧ true = true) ∧
 ((-1 : Int) ≤ IntKind.i64.wrap ((bif decide ((↑l.length : Int) < (↑m.length : Int)) then (↑m.length : Int) else (↑l.length : Int)) - (1 : Int)) ∧ IntKind.i64.wrap ((bif decide ((↑l.length : Int) < (↑m.length : Int)) then (↑m.length : Int) else (↑l.length : Int)) - (1 : Int)) ≤ (65536 : Int)) ∧
 vB (65536 : Nat) (List.drop (IntKind.i64.wrap ((bif decide ((↑l.length : Int) < (↑m.length : Int)) then (↑m.length : Int) else (↑l.length : Int)) - (1 : Int)) + (1 : Int)).toNat l) = vB (65536 : Nat) (List.drop (IntKind.i64.wrap ((bif decide ((↑l.length : Int) < (↑m.length : Int)) then (↑m.length : Int) else (↑l.length : Int)) - (1 : Int)) + (1 : Int)).toNat m)) ∧
 ∀ (x : Int),
 ((-1 : Int) ≤ x ∧ x ≤ (65536 : Int)) ∧ vB (65536 : Nat) (List.drop (x + (1 : Int)).toNat l) = vB (65536 : Nat) (List.drop (x + (1 : Int)).toNat m) →
 true = true ∧
 True ∧
 True ∧
 match decide (x ≥ (0 : Int)) with
 | true =>
  True ∧
  True ∧
  (∃ (l_1 : List Int), ∃ (i : Int), [D.ints IntKind.i64 l, D.val (Value.int IntKind.i64 x)] = [D.ints IntKind.i64 l_1, D.val (Value.int IntKind.i64 i)] ∧ lenOk l_1) ∧
  True ∧
  True ∧
  (∃ (l : List Int), ∃ (i : Int), [D.ints IntKind.i64 m, D.val (Value.int IntKind.i64 x)] = [D.ints IntKind.i64 l, D.val (Value.int IntKind.i64 i)] ∧ lenOk l) ∧
  True ∧
  True ∧
  True ∧
  True ∧
  True ∧
  match decide (dig l x < dig m x) with
  | true => True ∧ (false = false ∧ True) ∧ D.val (Value.int IntKind.i64 (-1 : Int)) = F
  | false =>
   True ∧
   True ∧
   True ∧
   match decide (dig l x > dig m x) with
   | true => True ∧ (false = false ∧ True) ∧ D.val (Value.int IntKind.i64 (1 : Int)) = F
   | false =>
    True ∧
    True ∧
    True ∧
    ((sm (AV.d (D.val (Value.int IntKind.i64 (IntKind.i64.wrap (x - (1 : Int)))))) ∧ True) ∧ True ∧ true = true) ∧
    (((-1 : Int) ≤ IntKind.i64.wrap (x - (1 : Int)) ∧ IntKind.i64.wrap (x - (1 : Int)) ≤ (65536 : Int)) ∧ vB (65536 : Nat) (List.drop (IntKind.i64.wrap (x - (1 : Int)) + (1 : Int)).toNat l) = vB (65536 : Nat) (List.drop (IntKind.i64.wrap (x - (1 : Int)) + (1 : Int)).toNat m)) ∧
    (IntKind.i64.wrap (x - (1 : Int)) + (1 : Int)).toNat < (x + (1 : Int)).toNat
 | false => True ∧ (false = false ∧ True) ∧ D.val (Value.int IntKind.i64 (0 : Int)) = F) := by kernel_rfl
set_option maxRecDepth 100000 in
theorem vc61  (l m : List Int) (F : D)  :
    (owed c61 (inv61 l m) Tryd.f61 [dgs l, dgs m] F) = (
 True ∧
 (1 : Nat) ≠ (0 : Nat) ∧
 True ∧
 True ∧
 True ∧
 True ∧
 (((AV.d (D.val (Value.int IntKind.i64 (0 : Int))) = AV.d (D.val (Value.int IntKind.i64 (↑(Int.toNat (0 : Int)) : Int))) ∧ AV.d (D.val (Value.int IntKind.i64 (0 : Int))) = AV.d (D.val (Value.int IntKind.i64 (↑(bor (vB (65536 : Nat) (List.take (Int.toNat (0 : Int)) l)) (vB (65536 : Nat) (List.take (Int.toNat (0 : Int)) m))) : Int))) ∧ sm (AV.row (5 : Nat)) ∧ True) ∧
 (some (Blk.row (3 : TypeId) (D.ints IntKind.i64 [])) = some (Blk.row (3 : TypeId) (D.ints IntKind.i64 (nB (65536 : Nat) (Int.toNat (0 : Int)) (sbD l m (Int.toNat (0 : Int)))))) ∧ True) ∧ true = true) ∧
 Int.toNat (0 : Int) ≤ l.length) ∧
 ∀ (x : Nat),
 x ≤ l.length →
 true = true ∧
 True ∧
 match decide ((↑x : Int) < (↑l.length : Int)) with
 | true =>
  True ∧
  True ∧
  True ∧
  True ∧
  ((0 : Int) ≤ (↑x : Int) ∧ (↑x : Int) < (↑l.length : Int) ∧ (1 : Nat) = (1 : Nat)) ∧
  ((1 : Nat) ≠ (0 : Nat) ∧ (1 : Nat) = (1 : Nat) ∧ false = false) ∧
  True ∧
  True ∧
  (∃ (l : List Int), ∃ (i : Int), [D.ints IntKind.i64 m, D.val (Value.int IntKind.i64 (↑x : Int))] = [D.ints IntKind.i64 l, D.val (Value.int IntKind.i64 i)] ∧ lenOk l) ∧
  True ∧
  True ∧
  True ∧
  True ∧
  True ∧
  True ∧
  True ∧
  match decide (IntKind.i64.wrap (IntKind.i64.wrap (l.getD (↑x : Int).toNat (0 : Int) - dig m (↑x : Int)) - (↑(bor (vB (65536 : Nat) (List.take x l)) (vB (65536 : Nat) (List.take x m))) : Int)) < (0 : Int)) with
  | true =>
   True ∧
   True ∧
   True ∧
   True ∧
   True ∧
   True ∧
   ((1 : Nat) = (1 : Nat) ∧ (1 : Nat) ≤ (4096 : Nat)) ∧
   ((3 : TypeId) = (3 : TypeId) ∧
   (89 : Nat) = (89 : Nat) ∧
   true = true ∧
   (nB (65536 : Nat) x (sbD l m x) ++ [IntKind.i64.wrap (IntKind.i64.wrap (IntKind.i64.wrap (l.getD (↑x : Int).toNat (0 : Int) - dig m (↑x : Int)) - (↑(bor (vB (65536 : Nat) (List.take x l)) (vB (65536 : Nat) (List.take x m))) : Int)) + (65536 : Int))]).length ≤ (140737488355328 : Nat) ∧
   (nB (65536 : Nat) x (sbD l m x) ++ [IntKind.i64.wrap (IntKind.i64.wrap (IntKind.i64.wrap (l.getD (↑x : Int).toNat (0 : Int) - dig m (↑x : Int)) - (↑(bor (vB (65536 : Nat) (List.take x l)) (vB (65536 : Nat) (List.take x m))) : Int)) + (65536 : Int))]).length * (8 : Nat) ≤ (140737488355328 : Nat) ∧
   (1 : Nat) ≠ (0 : Nat) ∧ (1 : Nat) = (1 : Nat)) ∧
   True ∧
   True ∧
   True ∧
   ((AV.d (D.val (Value.int IntKind.i64 (IntKind.i64.wrap ((↑x : Int) + (1 : Int))))) = AV.d (D.val (Value.int IntKind.i64 (↑(IntKind.i64.wrap ((↑x : Int) + (1 : Int))).toNat : Int))) ∧
   AV.d (D.val (Value.int IntKind.i64 (1 : Int))) = AV.d (D.val (Value.int IntKind.i64 (↑(bor (vB (65536 : Nat) (List.take (IntKind.i64.wrap ((↑x : Int) + (1 : Int))).toNat l)) (vB (65536 : Nat) (List.take (IntKind.i64.wrap ((↑x : Int) + (1 : Int))).toNat m))) : Int))) ∧ sm (AV.row (5 : Nat)) ∧ True) ∧
   (some (Blk.row (3 : TypeId) (D.ints IntKind.i64 (nB (65536 : Nat) x (sbD l m x) ++ [IntKind.i64.wrap (IntKind.i64.wrap (IntKind.i64.wrap (l.getD (↑x : Int).toNat (0 : Int) - dig m (↑x : Int)) - (↑(bor (vB (65536 : Nat) (List.take x l)) (vB (65536 : Nat) (List.take x m))) : Int)) + (65536 : Int))]))) =
   some (Blk.row (3 : TypeId) (D.ints IntKind.i64 (nB (65536 : Nat) (IntKind.i64.wrap ((↑x : Int) + (1 : Int))).toNat (sbD l m (IntKind.i64.wrap ((↑x : Int) + (1 : Int))).toNat)))) ∧
   True) ∧
   true = true) ∧
   (IntKind.i64.wrap ((↑x : Int) + (1 : Int))).toNat ≤ l.length ∧ l.length - (IntKind.i64.wrap ((↑x : Int) + (1 : Int))).toNat < l.length - x
  | false =>
   True ∧
   True ∧
   ((1 : Nat) = (1 : Nat) ∧ (1 : Nat) ≤ (4096 : Nat)) ∧
   ((3 : TypeId) = (3 : TypeId) ∧
   (89 : Nat) = (89 : Nat) ∧
   true = true ∧
   (nB (65536 : Nat) x (sbD l m x) ++ [IntKind.i64.wrap (IntKind.i64.wrap (l.getD (↑x : Int).toNat (0 : Int) - dig m (↑x : Int)) - (↑(bor (vB (65536 : Nat) (List.take x l)) (vB (65536 : Nat) (List.take x m))) : Int))]).length ≤ (140737488355328 : Nat) ∧
   (nB (65536 : Nat) x (sbD l m x) ++ [IntKind.i64.wrap (IntKind.i64.wrap (l.getD (↑x : Int).toNat (0 : Int) - dig m (↑x : Int)) - (↑(bor (vB (65536 : Nat) (List.take x l)) (vB (65536 : Nat) (List.take x m))) : Int))]).length * (8 : Nat) ≤ (140737488355328 : Nat) ∧ (1 : Nat) ≠ (0 : Nat) ∧ (1 : Nat) = (1 : Nat)) ∧
   True ∧
   True ∧
   True ∧
   ((AV.d (D.val (Value.int IntKind.i64 (IntKind.i64.wrap ((↑x : Int) + (1 : Int))))) = AV.d (D.val (Value.int IntKind.i64 (↑(IntKind.i64.wrap ((↑x : Int) + (1 : Int))).toNat : Int))) ∧
   AV.d (D.val (Value.int IntKind.i64 (0 : Int))) = AV.d (D.val (Value.int IntKind.i64 (↑(bor (vB (65536 : Nat) (List.take (IntKind.i64.wrap ((↑x : Int) + (1 : Int))).toNat l)) (vB (65536 : Nat) (List.take (IntKind.i64.wrap ((↑x : Int) + (1 : Int))).toNat m))) : Int))) ∧ sm (AV.row (5 : Nat)) ∧ True) ∧
   (some (Blk.row (3 : TypeId) (D.ints IntKind.i64 (nB (65536 : Nat) x (sbD l m x) ++ [IntKind.i64.wrap (IntKind.i64.wrap (l.getD (↑x : Int).toNat (0 : Int) - dig m (↑x : Int)) - (↑(bor (vB (65536 : Nat) (List.take x l)) (vB (65536 : Nat) (List.take x m))) : Int))]))) =
   some (Blk.row (3 : TypeId) (D.ints IntKind.i64 (nB (65536 : Nat) (IntKind.i64.wrap ((↑x : Int) + (1 : Int))).toNat (sbD l m (IntKind.i64.wrap ((↑x : Int) + (1 : Int))).toNat)))) ∧
   True) ∧
   true = true) ∧
   (IntKind.i64.wrap ((↑x : Int) + (1 : Int))).toNat ≤ l.length ∧ l.length - (IntKind.i64.wrap ((↑x : Int) + (1 : Int))).toNat < l.length - x
 | false => True ∧ (∃ (l_1 : List Int), [D.ints IntKind.i64 (nB (65536 : Nat) x (sbD l m x))] = [D.ints IntKind.i64 l_1] ∧ lenOk l_1) ∧ True ∧ (false = false ∧ True) ∧ D.ints IntKind.i64 (trimL (nB (65536 : Nat) x (sbD l m x))) = F) := by kernel_rfl
set_option maxRecDepth 100000 in
theorem vc104  (l m : List Int) (F : D)  :
    (owed c104 (inv104 l m) Tryd.f104 [dgs l, dgs m] F) = (
 True ∧
 True ∧
 True ∧
 True ∧
 ((0 : Int) ≤ (↑l.length : Int) ∧ (↑l.length : Int) = (↑l.length : Int) ∧ (↑l.length : Int) ≤ (281474976710656 : Int) ∧ (↑(8 : Nat) : Int) * (↑l.length : Int) ≤ (281474976710656 : Int) ∧ (1 : Nat) = (1 : Nat)) ∧
 True ∧
 True ∧
 True ∧
 True ∧
 True ∧
 True ∧
 (((AV.d (D.val (Value.int IntKind.i64 (IntKind.i64.wrap ((↑l.length : Int) - (1 : Int))))) = AV.d (D.val (Value.int IntKind.i64 ((↑(IntKind.i64.wrap ((↑l.length : Int) - (1 : Int)) + (1 : Int)).toNat : Int) - (1 : Int)))) ∧ dg (vB (65536 : Nat) (List.drop (IntKind.i64.wrap ((↑l.length : Int) - (1 : Int)) + (1 : Int)).toNat l) % vB (65536 : Nat) m) = [] ∧ True) ∧
 (some (Blk.fix (D.arr IntKind.i64 (↑l.length : Int).toNat (List.replicate (↑l.length : Int).toNat (0 : Int)))) =
 some
 (Blk.fix (D.arr IntKind.i64 l.length (List.replicate (IntKind.i64.wrap ((↑l.length : Int) - (1 : Int)) + (1 : Int)).toNat (0 : Int) ++ nB (65536 : Nat) (l.length - (IntKind.i64.wrap ((↑l.length : Int) - (1 : Int)) + (1 : Int)).toNat) (vB (65536 : Nat) (List.drop (IntKind.i64.wrap ((↑l.length : Int) - (1 : Int)) + (1 : Int)).toNat l) / vB (65536 : Nat) m)))) ∧
 True) ∧
 true = true) ∧
 (IntKind.i64.wrap ((↑l.length : Int) - (1 : Int)) + (1 : Int)).toNat ≤ l.length) ∧
 ∀ (x : Nat),
 x ≤ l.length →
 true = true ∧
 True ∧
 True ∧
 match decide ((↑x : Int) - (1 : Int) ≥ (0 : Int)) with
 | true =>
  True ∧
  True ∧
  ((0 : Int) ≤ (↑x : Int) - (1 : Int) ∧ (↑x : Int) - (1 : Int) < (↑l.length : Int) ∧ (1 : Nat) = (1 : Nat)) ∧
  ((1 : Nat) ≠ (0 : Nat) ∧ (1 : Nat) = (1 : Nat) ∧ false = false) ∧
  ((1 : Nat) = (1 : Nat) ∧ (1 : Nat) ≤ (4096 : Nat)) ∧
  True ∧
  ((3 : TypeId) = (3 : TypeId) ∧
  (89 : Nat) = (89 : Nat) ∧
  true = true ∧
  (l.getD ((↑x : Int) - (1 : Int)).toNat (0 : Int) :: dg (vB (65536 : Nat) (List.drop x l) % vB (65536 : Nat) m)).length ≤ (140737488355328 : Nat) ∧
  (l.getD ((↑x : Int) - (1 : Int)).toNat (0 : Int) :: dg (vB (65536 : Nat) (List.drop x l) % vB (65536 : Nat) m)).length * (8 : Nat) ≤ (140737488355328 : Nat) ∧ (1 : Nat) ≠ (0 : Nat) ∧ (1 : Nat) = (1 : Nat)) ∧
  (∃ (l_1 : List Int), [D.ints IntKind.i64 (l.getD ((↑x : Int) - (1 : Int)).toNat (0 : Int) :: dg (vB (65536 : Nat) (List.drop x l) % vB (65536 : Nat) m))] = [D.ints IntKind.i64 l_1] ∧ lenOk l_1) ∧
  True ∧
  True ∧
  True ∧
  (((AV.d (D.val (Value.int IntKind.i64 (0 : Int))) = AV.d (D.val (Value.int IntKind.i64 (↑(0 : Nat) : Int))) ∧ AV.d (D.val (Value.int IntKind.i64 (65536 : Int))) = AV.d (D.val (Value.int IntKind.i64 (↑(65536 : Nat) : Int))) ∧ True) ∧
  (sm (some (Blk.fix (D.arr IntKind.i64 l.length (List.replicate x (0 : Int) ++ nB (65536 : Nat) (l.length - x) (vB (65536 : Nat) (List.drop x l) / vB (65536 : Nat) m))))) ∧ True) ∧ true = true) ∧
  ((0 : Nat) < (65536 : Nat) ∧ (65536 : Nat) ≤ (65536 : Nat)) ∧
  vB (65536 : Nat) m * (0 : Nat) ≤ vB (65536 : Nat) (trimL (l.getD ((↑x : Int) - (1 : Int)).toNat (0 : Int) :: dg (vB (65536 : Nat) (List.drop x l) % vB (65536 : Nat) m))) ∧
  vB (65536 : Nat) (trimL (l.getD ((↑x : Int) - (1 : Int)).toNat (0 : Int) :: dg (vB (65536 : Nat) (List.drop x l) % vB (65536 : Nat) m))) < vB (65536 : Nat) m * (65536 : Nat)) ∧
  ∀ (x_1 : Nat × Nat),
  (x_1.fst < x_1.snd ∧ x_1.snd ≤ (65536 : Nat)) ∧
  vB (65536 : Nat) m * x_1.fst ≤ vB (65536 : Nat) (trimL (l.getD ((↑x : Int) - (1 : Int)).toNat (0 : Int) :: dg (vB (65536 : Nat) (List.drop x l) % vB (65536 : Nat) m))) ∧
  vB (65536 : Nat) (trimL (l.getD ((↑x : Int) - (1 : Int)).toNat (0 : Int) :: dg (vB (65536 : Nat) (List.drop x l) % vB (65536 : Nat) m))) < vB (65536 : Nat) m * x_1.snd →
  true = true ∧
  True ∧
  True ∧
  True ∧
  True ∧
  match decide (IntKind.i64.wrap ((↑x_1.snd : Int) - (↑x_1.fst : Int)) > (1 : Int)) with
  | true =>
   True ∧
   True ∧
   True ∧
   (2 : Int) ≠ (0 : Int) ∧
   True ∧
   True ∧
   True ∧
   ((1 : Nat) = (1 : Nat) ∧ (1 : Nat) ≤ (4096 : Nat)) ∧
   (∃ (l : List Int), ∃ (m_1 : List Int), [D.ints IntKind.i64 m, D.ints IntKind.i64 [IntKind.i64.wrap ((IntKind.i64.wrap ((↑x_1.fst : Int) + (↑x_1.snd : Int))).tdiv (2 : Int))]] = [D.ints IntKind.i64 l, D.ints IntKind.i64 m_1] ∧ (okd l ∧ lenS l) ∧ okd m_1 ∧ lenS m_1) ∧
   True ∧
   (∃ (l_1 : List Int),
   ∃ (m_1 : List Int),
   [D.ints IntKind.i64 (dg (vB (65536 : Nat) m * vB (65536 : Nat) [IntKind.i64.wrap ((IntKind.i64.wrap ((↑x_1.fst : Int) + (↑x_1.snd : Int))).tdiv (2 : Int))])),
   D.ints IntKind.i64 (trimL (l.getD ((↑x : Int) - (1 : Int)).toNat (0 : Int) :: dg (vB (65536 : Nat) (List.drop x l) % vB (65536 : Nat) m)))] =
   [D.ints IntKind.i64 l_1, D.ints IntKind.i64 m_1] ∧
   (okd l_1 ∧ lenS l_1) ∧ okd m_1 ∧ lenS m_1) ∧
   True ∧
   match
   decide
   (cmpN (vB (65536 : Nat) (dg (vB (65536 : Nat) m * vB (65536 : Nat) [IntKind.i64.wrap ((IntKind.i64.wrap ((↑x_1.fst : Int) + (↑x_1.snd : Int))).tdiv (2 : Int))])))
   (vB (65536 : Nat) (trimL (l.getD ((↑x : Int) - (1 : Int)).toNat (0 : Int) :: dg (vB (65536 : Nat) (List.drop x l) % vB (65536 : Nat) m)))) ≤
   (0 : Int)) with
   | true =>
    True ∧
    True ∧
    ((AV.d (D.val (Value.int IntKind.i64 (IntKind.i64.wrap ((IntKind.i64.wrap ((↑x_1.fst : Int) + (↑x_1.snd : Int))).tdiv (2 : Int))))) = AV.d (D.val (Value.int IntKind.i64 (↑(IntKind.i64.wrap ((IntKind.i64.wrap ((↑x_1.fst : Int) + (↑x_1.snd : Int))).tdiv (2 : Int))).toNat : Int))) ∧
    AV.d (D.val (Value.int IntKind.i64 (↑x_1.snd : Int))) = AV.d (D.val (Value.int IntKind.i64 (↑(↑x_1.snd : Int).toNat : Int))) ∧ True) ∧
    (sm (some (Blk.fix (D.arr IntKind.i64 l.length (List.replicate x (0 : Int) ++ nB (65536 : Nat) (l.length - x) (vB (65536 : Nat) (List.drop x l) / vB (65536 : Nat) m))))) ∧ True) ∧ true = true) ∧
    (((IntKind.i64.wrap ((IntKind.i64.wrap ((↑x_1.fst : Int) + (↑x_1.snd : Int))).tdiv (2 : Int))).toNat < (↑x_1.snd : Int).toNat ∧ (↑x_1.snd : Int).toNat ≤ (65536 : Nat)) ∧
    vB (65536 : Nat) m * (IntKind.i64.wrap ((IntKind.i64.wrap ((↑x_1.fst : Int) + (↑x_1.snd : Int))).tdiv (2 : Int))).toNat ≤ vB (65536 : Nat) (trimL (l.getD ((↑x : Int) - (1 : Int)).toNat (0 : Int) :: dg (vB (65536 : Nat) (List.drop x l) % vB (65536 : Nat) m))) ∧
    vB (65536 : Nat) (trimL (l.getD ((↑x : Int) - (1 : Int)).toNat (0 : Int) :: dg (vB (65536 : Nat) (List.drop x l) % vB (65536 : Nat) m))) < vB (65536 : Nat) m * (↑x_1.snd : Int).toNat) ∧
    (↑x_1.snd : Int).toNat - (IntKind.i64.wrap ((IntKind.i64.wrap ((↑x_1.fst : Int) + (↑x_1.snd : Int))).tdiv (2 : Int))).toNat < x_1.snd - x_1.fst
   | false =>
    True ∧
    True ∧
    ((AV.d (D.val (Value.int IntKind.i64 (↑x_1.fst : Int))) = AV.d (D.val (Value.int IntKind.i64 (↑(↑x_1.fst : Int).toNat : Int))) ∧
    AV.d (D.val (Value.int IntKind.i64 (IntKind.i64.wrap ((IntKind.i64.wrap ((↑x_1.fst : Int) + (↑x_1.snd : Int))).tdiv (2 : Int))))) = AV.d (D.val (Value.int IntKind.i64 (↑(IntKind.i64.wrap ((IntKind.i64.wrap ((↑x_1.fst : Int) + (↑x_1.snd : Int))).tdiv (2 : Int))).toNat : Int))) ∧ True) ∧
    (sm (some (Blk.fix (D.arr IntKind.i64 l.length (List.replicate x (0 : Int) ++ nB (65536 : Nat) (l.length - x) (vB (65536 : Nat) (List.drop x l) / vB (65536 : Nat) m))))) ∧ True) ∧ true = true) ∧
    (((↑x_1.fst : Int).toNat < (IntKind.i64.wrap ((IntKind.i64.wrap ((↑x_1.fst : Int) + (↑x_1.snd : Int))).tdiv (2 : Int))).toNat ∧ (IntKind.i64.wrap ((IntKind.i64.wrap ((↑x_1.fst : Int) + (↑x_1.snd : Int))).tdiv (2 : Int))).toNat ≤ (65536 : Nat)) ∧
    vB (65536 : Nat) m * (↑x_1.fst : Int).toNat ≤ vB (65536 : Nat) (trimL (l.getD ((↑x : Int) - (1 : Int)).toNat (0 : Int) :: dg (vB (65536 : Nat) (List.drop x l) % vB (65536 : Nat) m))) ∧
    vB (65536 : Nat) (trimL (l.getD ((↑x : Int) - (1 : Int)).toNat (0 : Int) :: dg (vB (65536 : Nat) (List.drop x l) % vB (65536 : Nat) m))) < vB (65536 : Nat) m * (IntKind.i64.wrap ((IntKind.i64.wrap ((↑x_1.fst : Int) + (↑x_1.snd : Int))).tdiv (2 : Int))).toNat) ∧
    (IntKind.i64.wrap ((IntKind.i64.wrap ((↑x_1.fst : Int) + (↑x_1.snd : Int))).tdiv (2 : Int))).toNat - (↑x_1.fst : Int).toNat < x_1.snd - x_1.fst
  | false =>
   True ∧
   True ∧
   match decide ((↑x_1.fst : Int) > (0 : Int)) with
   | true =>
    True ∧
    True ∧
    True ∧
    ((1 : Nat) = (1 : Nat) ∧ (1 : Nat) ≤ (4096 : Nat)) ∧
    (∃ (l : List Int), ∃ (m_1 : List Int), [D.ints IntKind.i64 m, D.ints IntKind.i64 [(↑x_1.fst : Int)]] = [D.ints IntKind.i64 l, D.ints IntKind.i64 m_1] ∧ (okd l ∧ lenS l) ∧ okd m_1 ∧ lenS m_1) ∧
    (∃ (l_1 : List Int),
    ∃ (m_1 : List Int),
    [D.ints IntKind.i64 (trimL (l.getD ((↑x : Int) - (1 : Int)).toNat (0 : Int) :: dg (vB (65536 : Nat) (List.drop x l) % vB (65536 : Nat) m))), D.ints IntKind.i64 (dg (vB (65536 : Nat) m * vB (65536 : Nat) [(↑x_1.fst : Int)]))] = [D.ints IntKind.i64 l_1, D.ints IntKind.i64 m_1] ∧
    (okd l_1 ∧ lenS l_1) ∧ (okd m_1 ∧ lenS m_1) ∧ vB (65536 : Nat) m_1 ≤ vB (65536 : Nat) l_1) ∧
    True ∧
    True ∧
    True ∧
    True ∧
    ((0 : Int) ≤ (↑x : Int) - (1 : Int) ∧ (↑x : Int) - (1 : Int) < (↑(↑l.length : Int).toNat : Int) ∧ (1 : Nat) = (1 : Nat)) ∧
    (((0 : Nat) + ((↑x : Int) - (1 : Int)).toNat < l.length ∧ ([] : List Nat) = [] ∧ true = true) ∧ (1 : Nat) ≠ (0 : Nat) ∧ (1 : Nat) = (1 : Nat) ∧ false = false) ∧
    True ∧
    True ∧
    True ∧
    ((AV.d (D.val (Value.int IntKind.i64 (IntKind.i64.wrap ((↑x : Int) - (1 : Int) - (1 : Int))))) = AV.d (D.val (Value.int IntKind.i64 ((↑(IntKind.i64.wrap ((↑x : Int) - (1 : Int) - (1 : Int)) + (1 : Int)).toNat : Int) - (1 : Int)))) ∧
    AV.d (D.ints IntKind.i64 (dg (vB (65536 : Nat) (trimL (l.getD ((↑x : Int) - (1 : Int)).toNat (0 : Int) :: dg (vB (65536 : Nat) (List.drop x l) % vB (65536 : Nat) m))) - vB (65536 : Nat) (dg (vB (65536 : Nat) m * vB (65536 : Nat) [(↑x_1.fst : Int)]))))) =
    AV.d (D.ints IntKind.i64 (dg (vB (65536 : Nat) (List.drop (IntKind.i64.wrap ((↑x : Int) - (1 : Int) - (1 : Int)) + (1 : Int)).toNat l) % vB (65536 : Nat) m))) ∧
    True) ∧
    (some (Blk.fix (D.arr IntKind.i64 l.length ((List.replicate x (0 : Int) ++ nB (65536 : Nat) (l.length - x) (vB (65536 : Nat) (List.drop x l) / vB (65536 : Nat) m)).set ((0 : Nat) + ((↑x : Int) - (1 : Int)).toNat) (↑x_1.fst : Int)))) =
    some
    (Blk.fix
    (D.arr IntKind.i64 l.length
    (List.replicate (IntKind.i64.wrap ((↑x : Int) - (1 : Int) - (1 : Int)) + (1 : Int)).toNat (0 : Int) ++
    nB (65536 : Nat) (l.length - (IntKind.i64.wrap ((↑x : Int) - (1 : Int) - (1 : Int)) + (1 : Int)).toNat) (vB (65536 : Nat) (List.drop (IntKind.i64.wrap ((↑x : Int) - (1 : Int) - (1 : Int)) + (1 : Int)).toNat l) / vB (65536 : Nat) m)))) ∧
    True) ∧
    true = true) ∧
    (IntKind.i64.wrap ((↑x : Int) - (1 : Int) - (1 : Int)) + (1 : Int)).toNat ≤ l.length ∧ (IntKind.i64.wrap ((↑x : Int) - (1 : Int) - (1 : Int)) + (1 : Int)).toNat < x
   | false =>
    True ∧
    True ∧
    True ∧
    ((0 : Int) ≤ (↑x : Int) - (1 : Int) ∧ (↑x : Int) - (1 : Int) < (↑(↑l.length : Int).toNat : Int) ∧ (1 : Nat) = (1 : Nat)) ∧
    (((0 : Nat) + ((↑x : Int) - (1 : Int)).toNat < l.length ∧ ([] : List Nat) = [] ∧ true = true) ∧ (1 : Nat) ≠ (0 : Nat) ∧ (1 : Nat) = (1 : Nat) ∧ false = false) ∧
    True ∧
    True ∧
    True ∧
    ((AV.d (D.val (Value.int IntKind.i64 (IntKind.i64.wrap ((↑x : Int) - (1 : Int) - (1 : Int))))) = AV.d (D.val (Value.int IntKind.i64 ((↑(IntKind.i64.wrap ((↑x : Int) - (1 : Int) - (1 : Int)) + (1 : Int)).toNat : Int) - (1 : Int)))) ∧
    AV.d (D.ints IntKind.i64 (trimL (l.getD ((↑x : Int) - (1 : Int)).toNat (0 : Int) :: dg (vB (65536 : Nat) (List.drop x l) % vB (65536 : Nat) m)))) =
    AV.d (D.ints IntKind.i64 (dg (vB (65536 : Nat) (List.drop (IntKind.i64.wrap ((↑x : Int) - (1 : Int) - (1 : Int)) + (1 : Int)).toNat l) % vB (65536 : Nat) m))) ∧
    True) ∧
    (some (Blk.fix (D.arr IntKind.i64 l.length ((List.replicate x (0 : Int) ++ nB (65536 : Nat) (l.length - x) (vB (65536 : Nat) (List.drop x l) / vB (65536 : Nat) m)).set ((0 : Nat) + ((↑x : Int) - (1 : Int)).toNat) (↑x_1.fst : Int)))) =
    some
    (Blk.fix
    (D.arr IntKind.i64 l.length
    (List.replicate (IntKind.i64.wrap ((↑x : Int) - (1 : Int) - (1 : Int)) + (1 : Int)).toNat (0 : Int) ++
    nB (65536 : Nat) (l.length - (IntKind.i64.wrap ((↑x : Int) - (1 : Int) - (1 : Int)) + (1 : Int)).toNat) (vB (65536 : Nat) (List.drop (IntKind.i64.wrap ((↑x : Int) - (1 : Int) - (1 : Int)) + (1 : Int)).toNat l) / vB (65536 : Nat) m)))) ∧
    True) ∧
    true = true) ∧
    (IntKind.i64.wrap ((↑x : Int) - (1 : Int) - (1 : Int)) + (1 : Int)).toNat ≤ l.length ∧ (IntKind.i64.wrap ((↑x : Int) - (1 : Int) - (1 : Int)) + (1 : Int)).toNat < x
 | false =>
  True ∧
  (∃ (l_1 : List Int), [D.ints IntKind.i64 (List.take (↑l.length : Int).toNat (List.drop (0 : Nat) (List.replicate x (0 : Int) ++ nB (65536 : Nat) (l.length - x) (vB (65536 : Nat) (List.drop x l) / vB (65536 : Nat) m))))] = [D.ints IntKind.i64 l_1] ∧ lenOk l_1) ∧
  True ∧
  True ∧ True ∧ (false = false ∧ false = false ∧ True) ∧ D.tup [D.ints IntKind.i64 (trimL (List.take (↑l.length : Int).toNat (List.drop (0 : Nat) (List.replicate x (0 : Int) ++ nB (65536 : Nat) (l.length - x) (vB (65536 : Nat) (List.drop x l) / vB (65536 : Nat) m))))), D.ints IntKind.i64 (dg (vB (65536 : Nat) (List.drop x l) % vB (65536 : Nat) m))] = F) := by kernel_rfl
set_option maxRecDepth 100000 in
theorem vc51  (l m : List Int) (F : D)  :
    (owed c51 (fun _ => none) Tryd.f51 [dgs l, dgs m] F) = (
 True ∧
 True ∧
 True ∧
 (∃ (l_1 : List Int), ∃ (m_1 : List Int), [D.ints IntKind.i64 l, D.ints IntKind.i64 m] = [D.ints IntKind.i64 l_1, D.ints IntKind.i64 m_1] ∧ (okd l_1 ∧ len1 l_1) ∧ (okd m_1 ∧ len1 m_1) ∧ vB (65536 : Nat) m_1 ≠ (0 : Nat)) ∧
 True ∧ ((0 : Nat) < (2 : Nat) ∧ false = false) ∧ ((1 : Nat) < (2 : Nat) ∧ false = false) ∧ True ∧ True ∧ True ∧ True ∧ (false = false ∧ True) ∧ D.ints IntKind.i64 (dg (vB (65536 : Nat) l % vB (65536 : Nat) m)) = F) := by kernel_rfl
end Go.Proofs.YtkicjckhkefnpaaDoor
namespace Go.Proofs.YtkicjckhkefnpaaDoor
open Go Go.Vg
theorem vd_split (a i : Nat) : a / 65536 ^ i = 65536 * (a / 65536 ^ (i + 1)) + a / 65536 ^ i % 65536 := by
 rw [Nat.pow_succ, ← Nat.div_div_eq_div_mul, Nat.div_add_mod]
set_option maxRecDepth 100000 in
theorem m99 : Meets Tryd.prog 99 sp99 := by
 refine meets_of_owed (C := c99) ⟨tab_ok, lkS_ok ⟨m105, trivial⟩⟩ (by kernel_rfl) (by kernel_rfl : Tryd.prog.funcs[99]? = some Tryd.f99) (by kernel_rfl) (by kernel_rfl) (by kernel_rfl) _ ?_
 rintro _ ⟨l, m, rfl, ⟨hl, hls⟩, hm, hms⟩
 refine ⟨fun _ => rfl, inv99 l m, ?_⟩
 show owed c99 (inv99 l m) Tryd.f99 [dgs l, dgs m] (i64 (cmpN (vD l) (vD m)))
 rw [vc99]
 have hls : l.length ≤ 65536 := hls
 have hms : m.length ≤ 65536 := hms
 have hlo : lenOk l := by unfold lenOk; omega
 have hmo : lenOk m := by unfold lenOk; omega
 simp (decide := true) only [eq_self, true_and, and_true, ne_eq, not_false_eq_true, Int.toNat_natCast]
 obtain ⟨k, hk, hk1, hk2⟩ : ∃ k : Nat, (bif decide ((l.length : Int) < (m.length : Int)) then (m.length : Int) else (l.length : Int)) = (k : Int) ∧ l.length ≤ k ∧ m.length ≤ k ∧ k ≤ 65536 := by
  by_cases h : l.length < m.length
  ·exact ⟨m.length, by rw [decide_eq_true (by omega), cond_true], by omega, by omega, by omega⟩
  ·exact ⟨l.length, by rw [decide_eq_false (by omega), cond_false], by omega, by omega, by omega⟩
 obtain ⟨hk2, hk3⟩ := hk2
 rw [hk, wi (n := (k : Int) - 1) (by omega) (by omega), show (k : Int) - 1 + 1 = (k : Int) by omega]
 simp only [Int.toNat_natCast]
 refine ⟨⟨by omega, by rw [List.drop_of_length_le hk1, List.drop_of_length_le hk2]⟩, ?_⟩
 rintro i ⟨hi, he⟩
 obtain ⟨z, rfl⟩ : ∃ z : Nat, i = (z : Int) - 1 := ⟨(i + 1).toNat, by omega⟩
 rw [show ((z : Int) - 1 + 1) = (z : Int) by omega] at he ⊢
 simp only [Int.toNat_natCast] at he ⊢
 rw [vB_drop hl, vB_drop hm] at he
 split
 ·rename_i h
  have h := of_decide_eq_true h
  obtain ⟨u, rfl⟩ : ∃ u, z = u + 1 := ⟨z - 1, by omega⟩
  rw [show ((u + 1 : Nat) : Int) - 1 = (u : Int) by omega, wi (n := (u : Int) - 1) (by omega) (by omega), show ((u : Int) - 1 + 1) = (u : Int) by omega, dig_nat hl, dig_nat hm]
  simp only [Int.toNat_natCast]
  have s1 := vd_split (vB 65536 l) u
  have s2 := vd_split (vB 65536 m) u
  rw [he] at s1
  clear he
  have hdd0 : vB 65536 l / 65536 ^ u = vB 65536 m / 65536 ^ u → vB 65536 (l.drop u) = vB 65536 (m.drop u) := fun h => by rw [vB_drop hl, vB_drop hm, h]
  have lt1 : vB 65536 l / 65536 ^ u < vB 65536 m / 65536 ^ u → vD l < vD m := fun h => Nat.lt_of_div_lt_div (c := 65536 ^ u) h
  have lt2 : vB 65536 m / 65536 ^ u < vB 65536 l / 65536 ^ u → vD m < vD l := fun h => Nat.lt_of_div_lt_div (c := 65536 ^ u) h
  generalize vB 65536 m / 65536 ^ (u + 1) = Q at s1 s2
  generalize vB 65536 l / 65536 ^ u = p at *
  generalize vB 65536 m / 65536 ^ u = q at *
  refine ⟨⟨l, _, rfl, hlo⟩, ⟨m, _, rfl, hmo⟩, ?_⟩
  split
  ·rename_i h2
   have h2 := of_decide_eq_true h2
   have := lt1 (by omega)
   unfold cmpN
   rw [if_pos this]
  ·rename_i h2
   have h2 := of_decide_eq_false h2
   split
   ·rename_i h3
    have h3 := of_decide_eq_true h3
    have := lt2 (by omega)
    unfold cmpN
    rw [if_neg (by omega), if_pos this]
   ·rename_i h3
    have h3 := of_decide_eq_false h3
    have hdd := hdd0 (by omega)
    and_intros <;> first | exact hdd | omega | rfl | trivial
 ·rename_i h
  have h := of_decide_eq_false h
  obtain rfl : z = 0 := by omega
  rw [Nat.pow_zero, Nat.div_one, Nat.div_one] at he
  have he : vD l = vD m := he
  unfold cmpN
  rw [if_neg (by omega), if_neg (by omega)]
theorem sub_numD (P A C x y d e D : Nat) (hA : A < P) (hC : C < P) (hD : d < D) (hP : 0 < D)
  (hc : (y + bor A C ≤ x ∧ d + y + bor A C = x ∧ e = 0) ∨ (x < y + bor A C ∧ d + y + bor A C = x + D ∧ e = 1)) :
  (A + P * x + P * D - (C + P * y)) % (P * D) = (A + P - C) % P + P * d ∧ bor (A + P * x) (C + P * y) = e := by
 have hb : bor A C ≤ 1 := by unfold bor; split <;> omega
 have hAC : (A < C ∧ bor A C = 1 ∧ (A + P - C) % P = A + P - C) ∨ (C ≤ A ∧ bor A C = 0 ∧ (A + P - C) % P = A - C) := by
  rcases Nat.lt_or_ge A C with h | h
  ·exact .inl ⟨h, if_pos h, Nat.mod_eq_of_lt (by omega)⟩
  ·exact .inr ⟨h, if_neg (by omega), mod_one _ _ _ (.inr (by omega)) (by omega)⟩
 generalize bor A C = b at hb hAC hc
 have m1 : P * (d + 1) ≤ P * D := Nat.mul_le_mul_left P hD
 rw [Nat.mul_add, Nat.mul_one] at m1
 have hr : (A + P - C) % P < P := Nat.mod_lt _ (by omega)
 have lin : ∀ u v : Nat, u = v → P * u = P * v := fun u v h => by rw [h]
 have fin : ∀ s t : Nat, (s < t ↔ e = 1) → (e = 0 ∨ e = 1) → bor s t = e := by
  intro s t h1 h2
  unfold bor
  split
  ·rename_i h; exact (h1.1 h).symm
  ·rename_i h; rcases h2 with h2 | h2
   ·exact h2.symm
   ·exact absurd (h1.2 h2) h
 rcases hAC with ⟨h1, h2, h3⟩ | ⟨h1, h2, h3⟩ <;> rcases hc with ⟨c1, c2, c3xx⟩ | ⟨c1, c2, c3xx⟩
 all_goals
  have q := lin _ _ c2
  subst h2
  simp only [Nat.mul_add, Nat.mul_one, Nat.mul_zero, Nat.add_zero] at q
  rw [h3] at hr ⊢
  have hB : P ≤ P * D := Nat.le_mul_of_pos_right P hP
  generalize P * D = PB at *
  generalize P * x = Px at *
  generalize P * y = Py at *
  generalize P * d = Pd at *
  refine ⟨mod_one _ _ _ (by omega) (by omega), fin _ _ (by omega) (by omega)⟩
theorem okd_get {l : List Int} (h : okd l) {i : Nat} (hi : i < l.length) : ∃ n : Nat, l.getD i 0 = (n : Int) ∧ n < 65536 := by
 have := h _ (getD_mem hi)
 exact ⟨(l.getD i 0).toNat, by omega, by omega⟩
theorem take_dig {m : List Int} (hm : okd m) (i : Nat) : vB 65536 (m.take (i + 1)) = vB 65536 (m.take i) + 65536 ^ i * (vB 65536 m / 65536 ^ i % 65536) := by
 rw [vB_take hm, vB_take hm, Nat.pow_succ, Nat.mod_mul]
theorem sbD_step {l m : List Int} (hl : okd l) (hm : okd m) {i x : Nat} (hi : i < l.length) (ex : l.getD i 0 = (x : Int)) (hx : x < 65536) :
  (((x : Int) - ((vB 65536 m / 65536 ^ i % 65536 : Nat) : Int) - ((bor (vB 65536 (l.take i)) (vB 65536 (m.take i)) : Nat) : Int) < 0 →
   nB 65536 i (sbD l m i) ++ [(x : Int) - ((vB 65536 m / 65536 ^ i % 65536 : Nat) : Int) - ((bor (vB 65536 (l.take i)) (vB 65536 (m.take i)) : Nat) : Int) + 65536] = nB 65536 (i + 1) (sbD l m (i + 1)) ∧ bor (vB 65536 (l.take (i + 1))) (vB 65536 (m.take (i + 1))) = 1)) ∧
  ((0 ≤ (x : Int) - ((vB 65536 m / 65536 ^ i % 65536 : Nat) : Int) - ((bor (vB 65536 (l.take i)) (vB 65536 (m.take i)) : Nat) : Int) →
   nB 65536 i (sbD l m i) ++ [(x : Int) - ((vB 65536 m / 65536 ^ i % 65536 : Nat) : Int) - ((bor (vB 65536 (l.take i)) (vB 65536 (m.take i)) : Nat) : Int)] = nB 65536 (i + 1) (sbD l m (i + 1)) ∧ bor (vB 65536 (l.take (i + 1))) (vB 65536 (m.take (i + 1))) = 0)) := by
 have e1 := vB_take1 (b := 65536) (l := l) i hi
 rw [ex, Int.toNat_natCast] at e1
 have e2 := take_dig hm i
 have hA := vB_lt (b := 65536) (l := l.take i) fun z hz => hl z (List.mem_of_mem_take hz)
 rw [List.length_take, show min i l.length = i by omega] at hA
 have hC : vB 65536 (m.take i) < 65536 ^ i := by rw [vB_take hm]; exact Nat.mod_lt _ (Nat.pow_pos (by decide))
 have hy : vB 65536 m / 65536 ^ i % 65536 < 65536 := Nat.mod_lt _ (by decide)
 generalize vB 65536 m / 65536 ^ i % 65536 = y at e2 hy ⊢
 have hb : bor (vB 65536 (l.take i)) (vB 65536 (m.take i)) ≤ 1 := by unfold bor; split <;> omega
 have low : ∀ lo d : Nat, lo < 65536 ^ i → d < 65536 → nB 65536 (i + 1) (lo + 65536 ^ i * d) = nB 65536 i lo ++ [((d : Nat) : Int)] := by
  intro lo d h1 h2
  rw [nB_push, nB_low _ _ _ _ h1, Nat.add_mul_div_left _ _ (Nat.pow_pos (by decide)), Nat.div_eq_of_lt h1, Nat.zero_add, Nat.mod_eq_of_lt h2]
 have hlo : sbD l m i < 65536 ^ i := Nat.mod_lt _ (Nat.pow_pos (by decide))
 constructor
 ·intro hneg
  obtain ⟨d, hd⟩ : ∃ d : Nat, (x : Int) - (y : Int) - ((bor (vB 65536 (l.take i)) (vB 65536 (m.take i)) : Nat) : Int) + 65536 = (d : Int) := ⟨((x : Int) - (y : Int) - ((bor (vB 65536 (l.take i)) (vB 65536 (m.take i)) : Nat) : Int) + 65536).toNat, by omega⟩
  obtain ⟨n1, n2⟩ := sub_numD (65536 ^ i) _ _ x y d 1 65536 hA hC (by omega) (by decide) (.inr ⟨by omega, by omega, rfl⟩)
  rw [← e1, ← e2] at n1 n2
  refine ⟨?_, n2⟩
  have : sbD l m (i + 1) = sbD l m i + 65536 ^ i * d := by
   unfold sbD
   rw [Nat.pow_succ]
   exact n1
  rw [hd, this, low _ _ hlo (by omega)]
 ·intro hpos
  obtain ⟨d, hd⟩ : ∃ d : Nat, (x : Int) - (y : Int) - ((bor (vB 65536 (l.take i)) (vB 65536 (m.take i)) : Nat) : Int) = (d : Int) := ⟨((x : Int) - (y : Int) - ((bor (vB 65536 (l.take i)) (vB 65536 (m.take i)) : Nat) : Int)).toNat, by omega⟩
  obtain ⟨n1, n2⟩ := sub_numD (65536 ^ i) _ _ x y d 0 65536 hA hC (by omega) (by decide) (.inl ⟨by omega, by omega, rfl⟩)
  rw [← e1, ← e2] at n1 n2
  refine ⟨?_, n2⟩
  have : sbD l m (i + 1) = sbD l m i + 65536 ^ i * d := by
   unfold sbD
   rw [Nat.pow_succ]
   exact n1
  rw [hd, this, low _ _ hlo (by omega)]
theorem nB_okd (n v : Nat) : okd (nB 65536 n v) := by
 intro x hx
 induction n generalizing v with
 | zero => cases hx
 | succ n ih =>
  rw [nB, List.mem_cons] at hx
  rcases hx with rfl | hx
  ·have := Nat.mod_lt v (y := 65536) (by decide)
   omega
  ·exact ih _ hx
set_option maxRecDepth 100000 in
theorem m61 : Meets Tryd.prog 61 sp61 := by
 refine meets_of_owed (C := c61) ⟨tab_ok, lkS_ok ⟨m105, m106, trivial⟩⟩ (by kernel_rfl) (by kernel_rfl : Tryd.prog.funcs[61]? = some Tryd.f61) (by kernel_rfl) (by kernel_rfl) (by kernel_rfl) _ ?_
 rintro _ ⟨l, m, rfl, ⟨hl, hls⟩, ⟨hm, hms⟩, hle⟩
 refine ⟨fun h => (by cases h), inv61 l m, ?_⟩
 show owed c61 (inv61 l m) Tryd.f61 [dgs l, dgs m] (dgs (dg (vD l - vD m)))
 rw [vc61]
 have hls : l.length ≤ 65536 := hls
 have hms : m.length ≤ 65536 := hms
 have hmo : lenOk m := by unfold lenOk; omega
 simp (decide := true) only [eq_self, true_and, and_true, ne_eq, not_false_eq_true, Int.toNat_natCast, List.length_append, List.length_singleton, nB_length]
 refine ⟨by and_intros <;> first | rfl | omega | trivial, ?_⟩
 intro i hi
 split
 ·rename_i h
  have h := of_decide_eq_true h
  obtain ⟨x, ex, hx⟩ := okd_get hl (i := i) (by omega)
  obtain ⟨s1, s2⟩ := sbD_step hl hm (i := i) (by omega) ex hx
  have hy : vB 65536 m / 65536 ^ i % 65536 < 65536 := Nat.mod_lt _ (by decide)
  have hb : bor (vB 65536 (l.take i)) (vB 65536 (m.take i)) ≤ 1 := by unfold bor; split <;> omega
  simp only [Int.toNat_natCast, ex]
  rw [dig_nat hm, show ((i : Int) + 1) = ((i + 1 : Nat) : Int) by omega, wi (n := ((i + 1 : Nat) : Int)) (by omega) (by omega)]
  simp only [Int.toNat_natCast]
  generalize vB 65536 m / 65536 ^ i % 65536 = y at *
  generalize bor (vB 65536 (l.take i)) (vB 65536 (m.take i)) = b at *
  rw [wi (n := (x : Int) - (y : Int)) (by omega) (by omega), wi (n := (x : Int) - (y : Int) - (b : Int)) (by omega) (by omega), wi (n := (x : Int) - (y : Int) - (b : Int) + 65536) (by omega) (by omega)]
  refine ⟨by omega, ⟨m, _, rfl, hmo⟩, ?_⟩
  split
  ·rename_i h2
   have h2 := of_decide_eq_true h2
   obtain ⟨t1, t2⟩ := s1 h2
   rw [t1, t2]
   and_intros <;> first | omega | rfl | trivial
  ·rename_i h2
   have h2 := of_decide_eq_false h2
   obtain ⟨t1, t2⟩ := s2 (by omega)
   rw [t1, t2]
   and_intros <;> first | omega | rfl | trivial
 ·rename_i h
  have h := of_decide_eq_false h
  obtain rfl : i = l.length := by omega
  have hA := vB_lt (b := 65536) hl
  have hle' : vB 65536 m ≤ vB 65536 l := hle
  have e1 : l.take l.length = l := List.take_length
  have e2 : vB 65536 (m.take l.length) = vB 65536 m := by rw [vB_take hm, Nat.mod_eq_of_lt (Nat.lt_of_le_of_lt hle' hA)]
  have e : sbD l m l.length = vD l - vD m := by
   unfold sbD
   rw [e1]
   show (vB 65536 l + 65536 ^ l.length - vB 65536 (m.take l.length)) % 65536 ^ l.length = vB 65536 l - vB 65536 m
   rw [e2]
   generalize 65536 ^ l.length = P at *
   exact mod_one _ _ _ (.inr (by omega)) (by omega)
  rw [e, trim_eq (nB_okd _ _), vB_nB, Nat.mod_eq_of_lt (Nat.lt_of_le_of_lt (Nat.sub_le _ _) hA)]
  refine ⟨⟨_, rfl, by unfold lenOk; rw [nB_length]; omega⟩, rfl⟩
end Go.Proofs.YtkicjckhkefnpaaDoor
namespace Go.Proofs.YtkicjckhkefnpaaDoor
open Go Go.Vg
theorem cmp_le (x y : Nat) : decide (cmpN x y ≤ 0) = decide (x ≤ y) := by
 rw [Bool.eq_iff_iff, decide_eq_true_iff, decide_eq_true_iff]
 unfold cmpN
 split
 ·omega
 ·split <;> omega
theorem trim_dg {a R : Nat} (ha : a < 65536) : trimL (((a : Nat) : Int) :: dg R) = dg (a + 65536 * R) := by
 have hok : okd (((a : Nat) : Int) :: dg R) := by
  intro x hx
  rcases List.mem_cons.mp hx with rfl | hx
  ·omega
  ·exact dg_ok R x hx
 rw [trim_eq hok, vB, Int.toNat_natCast, vl_dg]
theorem q_step (n i lo Q : Nat) (hi : i < n) (hlo : lo < 65536) :
  (List.replicate (i + 1) (0 : Int) ++ nB 65536 (n - (i + 1)) Q).set (0 + i) ((lo : Nat) : Int) = List.replicate i 0 ++ nB 65536 (n - i) (65536 * Q + lo) := by
 have e : nB 65536 (n - i) (65536 * Q + lo) = ((lo : Nat) : Int) :: nB 65536 (n - (i + 1)) Q := by
  rw [show n - i = n - (i + 1) + 1 by omega, nB, Nat.mul_add_mod, Nat.mod_eq_of_lt hlo, Nat.mul_add_div (by decide), Nat.div_eq_of_lt hlo]
  rfl
 rw [e, Nat.zero_add, List.replicate_succ', List.append_assoc, List.set_append_right _ _ (by rw [List.length_replicate]; exact Nat.le_refl _), List.length_replicate, Nat.sub_self]
 rfl
theorem pow_up {M k n : Nat} (h : M < 65536 ^ k) (hk : k + 1 ≤ n) : M * 65536 < 65536 ^ n := by
 have h2 : 65536 ^ (k + 1) ≤ 65536 ^ n := Nat.pow_le_pow_right (by decide) hk
 have h3 : M * 65536 < 65536 ^ (k + 1) := by
  rw [Nat.pow_succ]
  exact Nat.mul_lt_mul_of_pos_right h (by decide)
 exact Nat.lt_of_lt_of_le h3 h2
theorem len_dg {n : Nat} (h : n < 65536 ^ 1001) : lenS (dg n) ∧ lenOk (dg n) := len_ok h (by decide)
set_option maxRecDepth 100000 in
theorem m104 : Meets Tryd.prog 104 sp104 := by
 refine meets_of_owed (C := c104) ⟨tab_ok, lkS_ok ⟨m54, m106, m99, m61, trivial⟩⟩ (by kernel_rfl) (by kernel_rfl : Tryd.prog.funcs[104]? = some Tryd.f104) (by kernel_rfl) (by kernel_rfl) (by kernel_rfl) _ ?_
 rintro _ ⟨l, m, rfl, ⟨hl, hll⟩, ⟨hm, hml⟩, hM0⟩
 refine ⟨fun h => (by cases h), inv104 l m, ?_⟩
 show owed c104 (inv104 l m) Tryd.f104 [dgs l, dgs m] (.tup [dgs (dg (vD l / vD m)), dgs (dg (vD l % vD m))])
 rw [vc104]
 have hll : l.length ≤ 1000 := hll
 have hml : m.length ≤ 1000 := hml
 have hms : lenS m := by unfold lenS; omega
 have hM0 : vB 65536 m ≠ 0 := hM0
 have hMb : vB 65536 m * 65536 < 65536 ^ 1001 := by
  have h1 := vB_lt (b := 65536) hm
  refine pow_up (n := 1001) h1 ?_
  omega
 simp (decide := true) only [eq_self, true_and, and_true, ne_eq, not_false_eq_true, Int.toNat_natCast, vl_dg]
 rw [wi (n := (l.length : Int) - 1) (by omega) (by omega), show (l.length : Int) - 1 + 1 = (l.length : Int) by omega]
 simp only [Int.toNat_natCast]
 refine ⟨by omega, ?_, ?_⟩
 ·rw [List.drop_of_length_le (Nat.le_refl _), Nat.sub_self]
  have e : vB 65536 [] = 0 := rfl
  rw [e, Nat.zero_mod, dg_zero]
  simp [nB]
 intro z hz
 split
 ·rename_i h
  have h := of_decide_eq_true h
  obtain ⟨i, rfl⟩ : ∃ i, z = i + 1 := ⟨z - 1, by omega⟩
  obtain ⟨a, ea, ha⟩ := okd_get hl (i := i) (by omega)
  have hA := vB_dropS 65536 (l := l) i (by omega)
  rw [ea, Int.toNat_natCast] at hA
  rw [show ((i + 1 : Nat) : Int) - 1 = (i : Int) by omega, wi (n := (i : Int) - 1) (by omega) (by omega), show (i : Int) - 1 + 1 = (i : Int) by omega]
  simp only [Int.toNat_natCast, ea, trim_dg ha, vl_dg]
  have hQ := Nat.div_add_mod (vB 65536 (l.drop (i + 1))) (vB 65536 m)
  have hR := Nat.mod_lt (vB 65536 (l.drop (i + 1))) (y := vB 65536 m) (by omega)
  have hqs := q_step l.length i
  have hRl : (dg (vB 65536 (l.drop (i + 1)) % vB 65536 m)).length ≤ 1001 := dg_len _ _ (by omega)
  generalize vB 65536 (l.drop (i + 1)) / vB 65536 m = Q at *
  generalize vB 65536 (l.drop (i + 1)) % vB 65536 m = R at *
  have hAX : vB 65536 (l.drop i) = vB 65536 m * (65536 * Q) + (a + 65536 * R) := by
   rw [hA, ← hQ, Nat.mul_add, Nat.mul_left_comm]
   omega
  have hdiv : ∀ lo, vB 65536 m * lo ≤ a + 65536 * R → a + 65536 * R < vB 65536 m * (lo + 1) → vB 65536 (l.drop i) / vB 65536 m = 65536 * Q + lo ∧ vB 65536 (l.drop i) % vB 65536 m = a + 65536 * R - vB 65536 m * lo := by
   intro lo h1 h2
   have e : vB 65536 (l.drop i) = vB 65536 m * (65536 * Q + lo) + (a + 65536 * R - vB 65536 m * lo) := by
    rw [hAX, Nat.mul_add (vB 65536 m)]
    omega
   rw [Nat.mul_add, Nat.mul_one] at h2
   have h3 : a + 65536 * R - vB 65536 m * lo < vB 65536 m := by omega
   rw [e]
   exact ⟨by rw [Nat.mul_add_div (by omega), Nat.div_eq_of_lt h3, Nat.add_zero], by rw [Nat.mul_add_mod, Nat.mod_eq_of_lt h3]⟩
  have hXM : a + 65536 * R < vB 65536 m * 65536 := by omega
  have hXb : a + 65536 * R < 65536 ^ 1001 := Nat.lt_trans hXM hMb
  generalize a + 65536 * R = X at *
  have hXl := len_dg hXb
  refine ⟨by omega, by rw [List.length_cons]; omega, ⟨_, rfl, by unfold lenOk; rw [List.length_cons]; omega⟩, ?_, ?_⟩
  ·and_intros <;> first | rfl | omega | trivial
  rintro ⟨lo, hi⟩ ⟨⟨hlh, hh⟩, hlo, hhi⟩
  simp only at hlh hh hlo hhi ⊢
  rw [wi (n := (hi : Int) - (lo : Int)) (by omega) (by omega), ← Int.natCast_add, wi (n := ((lo + hi : Nat) : Int)) (by omega) (by omega), show ((lo + hi : Nat) : Int).tdiv 2 = (((lo + hi) / 2 : Nat) : Int) from tdivN (lo + hi) 2, wi (n := (((lo + hi) / 2 : Nat) : Int)) (by omega) (by omega)]
  have one : ∀ d : Nat, vB 65536 [((d : Nat) : Int)] = d := fun d => by simp [vB]
  have okd1 : ∀ d : Nat, d < 65536 → okd [((d : Nat) : Int)] := fun d hd x hx => by rw [List.mem_singleton.mp hx]; omega
  have l1 : ∀ d : Nat, lenS [((d : Nat) : Int)] := fun d => by simp [lenS]
  simp only [Int.toNat_natCast, one, cmp_le]
  split
  ·rename_i h2
   have h2 := of_decide_eq_true h2
   have hmid1 : lo < (lo + hi) / 2 := by omega
   have hmid2 : (lo + hi) / 2 < hi := by omega
   generalize (lo + hi) / 2 = mid at *
   have hpre1 : ∃ (l_1 m_1 : List Int), [dgs m, dgs [((mid : Nat) : Int)]] = [dgs l_1, dgs m_1] ∧ (okd l_1 ∧ lenS l_1) ∧ okd m_1 ∧ lenS m_1 := ⟨_, _, rfl, ⟨hm, hms⟩, okd1 mid (by omega), l1 mid⟩
   have hmb : vB 65536 m * mid < 65536 ^ 1001 := by
    have : vB 65536 m * mid ≤ vB 65536 m * 65536 := Nat.mul_le_mul_left _ (by omega)
    exact Nat.lt_of_le_of_lt this hMb
   have hpre2 : ∃ (l_1 m_1 : List Int), [dgs (dg (vB 65536 m * mid)), dgs (dg X)] = [dgs l_1, dgs m_1] ∧ (okd l_1 ∧ lenS l_1) ∧ okd m_1 ∧ lenS m_1 := ⟨_, _, rfl, ⟨dg_ok _, (len_dg hmb).1⟩, dg_ok _, hXl.1⟩
   refine ⟨hpre1, hpre2, ?_⟩
   split
   ·rename_i h3
    have h3 := of_decide_eq_true h3
    and_intros <;> first | exact h3 | exact hhi | rfl | omega | trivial
   ·rename_i h3
    have h3 := of_decide_eq_false h3
    have h3 : X < vB 65536 m * mid := by omega
    and_intros <;> first | exact h3 | exact hlo | rfl | omega | trivial
  ·rename_i h2
   have h2 := of_decide_eq_false h2
   obtain rfl : hi = lo + 1 := by omega
   obtain ⟨d1, d2⟩ := hdiv lo hlo hhi
   have hq := hqs lo Q (by omega) (by omega)
   split
   ·rename_i h3
    have h3 := of_decide_eq_true h3
    have hpre1 : ∃ (l_1 m_1 : List Int), [dgs m, dgs [((lo : Nat) : Int)]] = [dgs l_1, dgs m_1] ∧ (okd l_1 ∧ lenS l_1) ∧ okd m_1 ∧ lenS m_1 := ⟨_, _, rfl, ⟨hm, hms⟩, okd1 lo (by omega), l1 lo⟩
    have hpre2 : ∃ (l_1 m_1 : List Int), [dgs (dg X), dgs (dg (vB 65536 m * lo))] = [dgs l_1, dgs m_1] ∧ (okd l_1 ∧ lenS l_1) ∧ (okd m_1 ∧ lenS m_1) ∧ vB 65536 m_1 ≤ vB 65536 l_1 := ⟨_, _, rfl, ⟨dg_ok _, hXl.1⟩, ⟨dg_ok _, (len_dg (Nat.lt_of_le_of_lt hlo hXb)).1⟩, by rw [vl_dg, vl_dg]; exact hlo⟩
    rw [hq, d1, d2]
    and_intros <;> first | exact hpre1 | exact hpre2 | rfl | omega | trivial
   ·rename_i h3
    have h3 := of_decide_eq_false h3
    obtain rfl : lo = 0 := by omega
    rw [hq, d1, d2, Nat.mul_zero, Nat.sub_zero]
    and_intros <;> first | rfl | omega | trivial
 ·rename_i h
  have h := of_decide_eq_false h
  obtain rfl : z = 0 := by omega
  have hA := vB_lt (b := 65536) hl
  have hlt : vB 65536 l / vB 65536 m < 65536 ^ l.length := Nat.lt_of_le_of_lt (Nat.div_le_self _ _) hA
  have e : List.take l.length (List.drop 0 (List.replicate 0 0 ++ nB 65536 (l.length - 0) (vB 65536 (List.drop 0 l) / vB 65536 m))) = nB 65536 l.length (vB 65536 l / vB 65536 m) := by
   rw [List.replicate_zero, List.nil_append, List.drop_zero, List.drop_zero, Nat.sub_zero, List.take_of_length_le (by rw [nB_length]; exact Nat.le_refl _)]
  rw [e, trim_eq (nB_okd _ _), vB_nB, Nat.mod_eq_of_lt hlt, List.drop_zero]
  exact ⟨⟨_, rfl, by unfold lenOk; rw [nB_length]; omega⟩, rfl⟩
set_option maxRecDepth 100000 in
theorem m51 : Meets Tryd.prog 51 sp51 := by
 refine meets_of_owed (C := c51) ⟨tab_ok, lkS_ok ⟨m104, trivial⟩⟩ (by kernel_rfl) (by kernel_rfl : Tryd.prog.funcs[51]? = some Tryd.f51) (by kernel_rfl) (by kernel_rfl) (by kernel_rfl) _ ?_
 rintro _ ⟨l, m, rfl, hl, hm, h0⟩
 refine ⟨fun h => (by cases h), fun _ => none, ?_⟩
 show owed c51 (fun _ => none) Tryd.f51 [dgs l, dgs m] (dgs (dg (vD l % vD m)))
 rw [vc51]
 simp (decide := true) only [eq_self, true_and, and_true, ne_eq, not_false_eq_true]
 exact ⟨l, m, rfl, hl, hm, h0⟩
end Go.Proofs.YtkicjckhkefnpaaDoor
namespace Go.Proofs.YtkicjckhkefnpaaDoor
open Go Go.Vg
def isN (l : List Int) : Prop := okw l ∧ l.length = 4
structure TimI (l m : List Int) (i : Nat) (out : List Int) : Prop where
 len : out.length = 8
 ok : okw out
 zero : ∀ j, i + 4 ≤ j → out.getD j 0 = 0
 val : wv out = wv (l.take i) * wv m
structure TimJ (l m : List Int) (i k : Nat) (c : Nat) (out : List Int) : Prop where
 len : out.length = 8
 ok : okw out
 zero : ∀ j, i + 4 ≤ j → out.getD j 0 = 0
 car : c < 18446744073709551616
 val : wv out + 18446744073709551616 ^ (i + k) * c = wv (l.take i) * wv m + 18446744073709551616 ^ i * ((l.getD i 0).toNat * wv (m.take k))
end Go.Proofs.YtkicjckhkefnpaaDoor
namespace Go.Proofs.YtkicjckhkefnpaaDoor
open Go Go.Vg
end Go.Proofs.YtkicjckhkefnpaaDoor
namespace Go.Proofs.YtkicjckhkefnpaaDoor
open Go Go.Vg
end Go.Proofs.YtkicjckhkefnpaaDoor
namespace Go.Proofs.YtkicjckhkefnpaaDoor
open Go Go.Vg
structure InvI (A M r0 r1 s0 s1 : Nat) : Prop where
 big : 1 < M
 top : M < 2 ^ 256
 r : r1 < r0 ∧ r0 ≤ M
 s : s0 < M ∧ s1 < M
 g : Nat.gcd r0 r1 = Nat.gcd A M
 e0 : ∃ k : Int, (A : Int) * (s0 : Int) = (r0 : Int) + k * (M : Int)
 e1 : ∃ k : Int, (A : Int) * (s1 : Int) = (r1 : Int) + k * (M : Int)
end Go.Proofs.YtkicjckhkefnpaaDoor
namespace Go.Proofs.YtkicjckhkefnpaaDoor
open Go Go.Vg
end Go.Proofs.YtkicjckhkefnpaaDoor
namespace Go.Proofs.YtkicjckhkefnpaaDoor
open Go Go.Vg
end Go.Proofs.YtkicjckhkefnpaaDoor
namespace Go.Proofs.YtkicjckhkefnpaaDoor
open Go Go.Vg
def bl2 (n : Nat) : Nat := if n = 0 then 0 else Nat.log2 n + 1
def sp94 : Go.Vg.Spec := ⟨fun ds => ∃ l, ds = [num4 l] ∧ isN l, fun ds => i64n (bl2 (wv (arrOf (ds.headD default)))), true, [75]⟩
def sp122 : Go.Vg.Spec := ⟨fun ds => ∃ x, ds = [u64n x] ∧ x < B64, fun ds => i64n (bl2 (nn (ds.headD default))), true, [73]⟩
def c94 : Ctx := ⟨tab, lkS [(122, sp122)], [], []⟩
def inv94 (l : List Int) : Nat → Option Inv
 | 2 => some ⟨Int, fun i => [(3, .d (i64 i))], fun _ => [], fun s => slotN s 3, fun _ i => (-1 ≤ i ∧ i ≤ 3) ∧ wv (l.drop (i + 1).toNat) = 0, fun i => (i + 1).toNat⟩
 | _ => none
set_option maxRecDepth 100000 in
theorem vc94  (l : List Int) (F : D)  :
    (owed c94 (inv94 l) Tryd.f94 [num4 l] F) = (
 (True ∧ false = false) ∧
 True ∧
 True ∧
 (((sm (AV.d (D.val (Value.int IntKind.i64 (3 : Int)))) ∧ True) ∧ (sm (some (Blk.fix (D.arr IntKind.u64 (4 : Nat) l))) ∧ True) ∧ true = true) ∧ ((-1 : Int) ≤ (3 : Int) ∧ (3 : Int) ≤ (3 : Int)) ∧ vB (18446744073709551616 : Nat) (List.drop ((3 : Int) + (1 : Int)).toNat l) = (0 : Nat)) ∧
 ∀ (x : Int),
 ((-1 : Int) ≤ x ∧ x ≤ (3 : Int)) ∧ vB (18446744073709551616 : Nat) (List.drop (x + (1 : Int)).toNat l) = (0 : Nat) →
 true = true ∧
 True ∧
 True ∧
 match decide (x ≥ (0 : Int)) with
 | true =>
  True ∧
  ((0 : Int) ≤ x ∧ x < (↑(4 : Nat) : Int) ∧ (4 : Nat) = (4 : Nat) ∧ (1 : Nat) = (1 : Nat)) ∧
  ((1 : Nat) ≠ (0 : Nat) ∧ (1 : Nat) = (1 : Nat) ∧ false = false) ∧
  True ∧
  match l.getD x.toNat (0 : Int) != (0 : Int) with
  | true =>
   True ∧
   True ∧
   True ∧
   ((0 : Int) ≤ x ∧ x < (↑(4 : Nat) : Int) ∧ (4 : Nat) = (4 : Nat) ∧ (1 : Nat) = (1 : Nat)) ∧
   ((1 : Nat) ≠ (0 : Nat) ∧ (1 : Nat) = (1 : Nat) ∧ false = false) ∧
   (∃ (x_1 : Nat), [D.val (Value.int IntKind.u64 (l.getD x.toNat (0 : Int)))] = [D.val (Value.int IntKind.u64 (↑x_1 : Int))] ∧ x_1 < (18446744073709551616 : Nat)) ∧ True ∧ True ∧ (false = false ∧ True) ∧ D.val (Value.int IntKind.i64 (IntKind.i64.wrap (IntKind.i64.wrap ((64 : Int) * x) + (↑(bl2 (l.getD x.toNat (0 : Int)).toNat) : Int)))) = F
  | false =>
   True ∧
   True ∧
   True ∧
   ((sm (AV.d (D.val (Value.int IntKind.i64 (IntKind.i64.wrap (x - (1 : Int)))))) ∧ True) ∧ (sm (some (Blk.fix (D.arr IntKind.u64 (4 : Nat) l))) ∧ True) ∧ true = true) ∧
   (((-1 : Int) ≤ IntKind.i64.wrap (x - (1 : Int)) ∧ IntKind.i64.wrap (x - (1 : Int)) ≤ (3 : Int)) ∧ vB (18446744073709551616 : Nat) (List.drop (IntKind.i64.wrap (x - (1 : Int)) + (1 : Int)).toNat l) = (0 : Nat)) ∧ (IntKind.i64.wrap (x - (1 : Int)) + (1 : Int)).toNat < (x + (1 : Int)).toNat
 | false => True ∧ (false = false ∧ True) ∧ D.val (Value.int IntKind.i64 (0 : Int)) = F) := by kernel_rfl
set_option maxRecDepth 100000 in
theorem vc122  (x : Nat) (F : D)  :
    (owed c105 (fun _ => none) Tryd.f122 [u64n x] F) = (
 True ∧
 True ∧
 True ∧
 match decide ((↑x : Int) ≥ (4294967296 : Int)) with
 | true =>
  True ∧
  (0 : Int) ≤ (32 : Int) ∧
  True ∧
  True ∧
  True ∧
  True ∧
  match decide (ishr IntKind.u64 (↑x : Int) (32 : Int) ≥ (65536 : Int)) with
  | true =>
   True ∧
   (0 : Int) ≤ (16 : Int) ∧
   True ∧
   True ∧
   True ∧
   True ∧
   True ∧
   True ∧
   match decide (ishr IntKind.u64 (ishr IntKind.u64 (↑x : Int) (32 : Int)) (16 : Int) ≥ (256 : Int)) with
   | true =>
    True ∧
    (0 : Int) ≤ (8 : Int) ∧
    True ∧
    True ∧
    True ∧
    True ∧
    True ∧
    True ∧
    True ∧
    ((0 : Int) ≤ IntKind.u8.wrap (ishr IntKind.u64 (ishr IntKind.u64 (ishr IntKind.u64 (↑x : Int) (32 : Int)) (16 : Int)) (8 : Int)) ∧
    IntKind.u8.wrap (ishr IntKind.u64 (ishr IntKind.u64 (ishr IntKind.u64 (↑x : Int) (32 : Int)) (16 : Int)) (8 : Int)) <
    (↑(ints
    {
    data :=
    {
    toList :=
    [(0 : UInt8), (1 : UInt8), (2 : UInt8), (2 : UInt8), (3 : UInt8), (3 : UInt8), (3 : UInt8), (3 : UInt8), (4 : UInt8), (4 : UInt8), (4 : UInt8), (4 : UInt8), (4 : UInt8), (4 : UInt8), (4 : UInt8), (4 : UInt8), (5 : UInt8), (5 : UInt8), (5 : UInt8), (5 : UInt8), (5 : UInt8), (5 : UInt8), (5 : UInt8), (5 : UInt8),
    (5 : UInt8), (5 : UInt8), (5 : UInt8), (5 : UInt8), (5 : UInt8), (5 : UInt8), (5 : UInt8), (5 : UInt8), (6 : UInt8), (6 : UInt8), (6 : UInt8), (6 : UInt8), (6 : UInt8), (6 : UInt8), (6 : UInt8), (6 : UInt8), (6 : UInt8), (6 : UInt8), (6 : UInt8), (6 : UInt8), (6 : UInt8), (6 : UInt8), (6 : UInt8), (6 : UInt8),
    (6 : UInt8), (6 : UInt8), (6 : UInt8), (6 : UInt8), (6 : UInt8), (6 : UInt8), (6 : UInt8), (6 : UInt8), (6 : UInt8), (6 : UInt8), (6 : UInt8), (6 : UInt8), (6 : UInt8), (6 : UInt8), (6 : UInt8), (6 : UInt8), (7 : UInt8), (7 : UInt8), (7 : UInt8), (7 : UInt8), (7 : UInt8), (7 : UInt8), (7 : UInt8), (7 : UInt8),
    (7 : UInt8), (7 : UInt8), (7 : UInt8), (7 : UInt8), (7 : UInt8), (7 : UInt8), (7 : UInt8), (7 : UInt8), (7 : UInt8), (7 : UInt8), (7 : UInt8), (7 : UInt8), (7 : UInt8), (7 : UInt8), (7 : UInt8), (7 : UInt8), (7 : UInt8), (7 : UInt8), (7 : UInt8), (7 : UInt8), (7 : UInt8), (7 : UInt8), (7 : UInt8), (7 : UInt8),
    (7 : UInt8), (7 : UInt8), (7 : UInt8), (7 : UInt8), (7 : UInt8), (7 : UInt8), (7 : UInt8), (7 : UInt8), (7 : UInt8), (7 : UInt8), (7 : UInt8), (7 : UInt8), (7 : UInt8), (7 : UInt8), (7 : UInt8), (7 : UInt8), (7 : UInt8), (7 : UInt8), (7 : UInt8), (7 : UInt8), (7 : UInt8), (7 : UInt8), (7 : UInt8), (7 : UInt8),
    (7 : UInt8), (7 : UInt8), (7 : UInt8), (7 : UInt8), (7 : UInt8), (7 : UInt8), (7 : UInt8), (7 : UInt8), (8 : UInt8), (8 : UInt8), (8 : UInt8), (8 : UInt8), (8 : UInt8), (8 : UInt8), (8 : UInt8), (8 : UInt8), (8 : UInt8), (8 : UInt8), (8 : UInt8), (8 : UInt8), (8 : UInt8), (8 : UInt8), (8 : UInt8), (8 : UInt8),
    (8 : UInt8), (8 : UInt8), (8 : UInt8), (8 : UInt8), (8 : UInt8), (8 : UInt8), (8 : UInt8), (8 : UInt8), (8 : UInt8), (8 : UInt8), (8 : UInt8), (8 : UInt8), (8 : UInt8), (8 : UInt8), (8 : UInt8), (8 : UInt8), (8 : UInt8), (8 : UInt8), (8 : UInt8), (8 : UInt8), (8 : UInt8), (8 : UInt8), (8 : UInt8), (8 : UInt8),
    (8 : UInt8), (8 : UInt8), (8 : UInt8), (8 : UInt8), (8 : UInt8), (8 : UInt8), (8 : UInt8), (8 : UInt8), (8 : UInt8), (8 : UInt8), (8 : UInt8), (8 : UInt8), (8 : UInt8), (8 : UInt8), (8 : UInt8), (8 : UInt8), (8 : UInt8), (8 : UInt8), (8 : UInt8), (8 : UInt8), (8 : UInt8), (8 : UInt8), (8 : UInt8), (8 : UInt8),
    (8 : UInt8), (8 : UInt8), (8 : UInt8), (8 : UInt8), (8 : UInt8), (8 : UInt8), (8 : UInt8), (8 : UInt8), (8 : UInt8), (8 : UInt8), (8 : UInt8), (8 : UInt8), (8 : UInt8), (8 : UInt8), (8 : UInt8), (8 : UInt8), (8 : UInt8), (8 : UInt8), (8 : UInt8), (8 : UInt8), (8 : UInt8), (8 : UInt8), (8 : UInt8), (8 : UInt8),
    (8 : UInt8), (8 : UInt8), (8 : UInt8), (8 : UInt8), (8 : UInt8), (8 : UInt8), (8 : UInt8), (8 : UInt8), (8 : UInt8), (8 : UInt8), (8 : UInt8), (8 : UInt8), (8 : UInt8), (8 : UInt8), (8 : UInt8), (8 : UInt8), (8 : UInt8), (8 : UInt8), (8 : UInt8), (8 : UInt8), (8 : UInt8), (8 : UInt8), (8 : UInt8), (8 : UInt8),
    (8 : UInt8), (8 : UInt8), (8 : UInt8), (8 : UInt8), (8 : UInt8), (8 : UInt8), (8 : UInt8), (8 : UInt8), (8 : UInt8), (8 : UInt8), (8 : UInt8), (8 : UInt8), (8 : UInt8), (8 : UInt8), (8 : UInt8), (8 : UInt8)] } }).length :
    Int)) ∧
    True ∧
    True ∧
    True ∧
    (false = false ∧ True) ∧
    D.val
    (Value.int IntKind.i64
    (IntKind.i64.wrap
    (IntKind.i64.wrap (IntKind.i64.wrap ((32 : Int) + (16 : Int)) + (8 : Int)) +
    IntKind.i64.wrap
    ((ints
    {
    data :=
    {
    toList :=
    [(0 : UInt8), (1 : UInt8), (2 : UInt8), (2 : UInt8), (3 : UInt8), (3 : UInt8), (3 : UInt8), (3 : UInt8), (4 : UInt8), (4 : UInt8), (4 : UInt8), (4 : UInt8), (4 : UInt8), (4 : UInt8), (4 : UInt8), (4 : UInt8), (5 : UInt8), (5 : UInt8), (5 : UInt8), (5 : UInt8), (5 : UInt8), (5 : UInt8), (5 : UInt8),
    (5 : UInt8), (5 : UInt8), (5 : UInt8), (5 : UInt8), (5 : UInt8), (5 : UInt8), (5 : UInt8), (5 : UInt8), (5 : UInt8), (6 : UInt8), (6 : UInt8), (6 : UInt8), (6 : UInt8), (6 : UInt8), (6 : UInt8), (6 : UInt8), (6 : UInt8), (6 : UInt8), (6 : UInt8), (6 : UInt8), (6 : UInt8), (6 : UInt8), (6 : UInt8),
    (6 : UInt8), (6 : UInt8), (6 : UInt8), (6 : UInt8), (6 : UInt8), (6 : UInt8), (6 : UInt8), (6 : UInt8), (6 : UInt8), (6 : UInt8), (6 : UInt8), (6 : UInt8), (6 : UInt8), (6 : UInt8), (6 : UInt8), (6 : UInt8), (6 : UInt8), (6 : UInt8), (7 : UInt8), (7 : UInt8), (7 : UInt8), (7 : UInt8), (7 : UInt8),
    (7 : UInt8), (7 : UInt8), (7 : UInt8), (7 : UInt8), (7 : UInt8), (7 : UInt8), (7 : UInt8), (7 : UInt8), (7 : UInt8), (7 : UInt8), (7 : UInt8), (7 : UInt8), (7 : UInt8), (7 : UInt8), (7 : UInt8), (7 : UInt8), (7 : UInt8), (7 : UInt8), (7 : UInt8), (7 : UInt8), (7 : UInt8), (7 : UInt8), (7 : UInt8),
    (7 : UInt8), (7 : UInt8), (7 : UInt8), (7 : UInt8), (7 : UInt8), (7 : UInt8), (7 : UInt8), (7 : UInt8), (7 : UInt8), (7 : UInt8), (7 : UInt8), (7 : UInt8), (7 : UInt8), (7 : UInt8), (7 : UInt8), (7 : UInt8), (7 : UInt8), (7 : UInt8), (7 : UInt8), (7 : UInt8), (7 : UInt8), (7 : UInt8), (7 : UInt8),
    (7 : UInt8), (7 : UInt8), (7 : UInt8), (7 : UInt8), (7 : UInt8), (7 : UInt8), (7 : UInt8), (7 : UInt8), (7 : UInt8), (7 : UInt8), (7 : UInt8), (7 : UInt8), (7 : UInt8), (8 : UInt8), (8 : UInt8), (8 : UInt8), (8 : UInt8), (8 : UInt8), (8 : UInt8), (8 : UInt8), (8 : UInt8), (8 : UInt8), (8 : UInt8),
    (8 : UInt8), (8 : UInt8), (8 : UInt8), (8 : UInt8), (8 : UInt8), (8 : UInt8), (8 : UInt8), (8 : UInt8), (8 : UInt8), (8 : UInt8), (8 : UInt8), (8 : UInt8), (8 : UInt8), (8 : UInt8), (8 : UInt8), (8 : UInt8), (8 : UInt8), (8 : UInt8), (8 : UInt8), (8 : UInt8), (8 : UInt8), (8 : UInt8), (8 : UInt8),
    (8 : UInt8), (8 : UInt8), (8 : UInt8), (8 : UInt8), (8 : UInt8), (8 : UInt8), (8 : UInt8), (8 : UInt8), (8 : UInt8), (8 : UInt8), (8 : UInt8), (8 : UInt8), (8 : UInt8), (8 : UInt8), (8 : UInt8), (8 : UInt8), (8 : UInt8), (8 : UInt8), (8 : UInt8), (8 : UInt8), (8 : UInt8), (8 : UInt8), (8 : UInt8),
    (8 : UInt8), (8 : UInt8), (8 : UInt8), (8 : UInt8), (8 : UInt8), (8 : UInt8), (8 : UInt8), (8 : UInt8), (8 : UInt8), (8 : UInt8), (8 : UInt8), (8 : UInt8), (8 : UInt8), (8 : UInt8), (8 : UInt8), (8 : UInt8), (8 : UInt8), (8 : UInt8), (8 : UInt8), (8 : UInt8), (8 : UInt8), (8 : UInt8), (8 : UInt8),
    (8 : UInt8), (8 : UInt8), (8 : UInt8), (8 : UInt8), (8 : UInt8), (8 : UInt8), (8 : UInt8), (8 : UInt8), (8 : UInt8), (8 : UInt8), (8 : UInt8), (8 : UInt8), (8 : UInt8), (8 : UInt8), (8 : UInt8), (8 : UInt8), (8 : UInt8), (8 : UInt8), (8 : UInt8), (8 : UInt8), (8 : UInt8), (8 : UInt8), (8 : UInt8),
    (8 : UInt8), (8 : UInt8), (8 : UInt8), (8 : UInt8), (8 : UInt8), (8 : UInt8), (8 : UInt8), (8 : UInt8), (8 : UInt8), (8 : UInt8), (8 : UInt8), (8 : UInt8), (8 : UInt8), (8 : UInt8), (8 : UInt8), (8 : UInt8), (8 : UInt8), (8 : UInt8), (8 : UInt8), (8 : UInt8), (8 : UInt8), (8 : UInt8), (8 : UInt8),
    (8 : UInt8), (8 : UInt8), (8 : UInt8)] } }).getD
    (IntKind.u8.wrap (ishr IntKind.u64 (ishr IntKind.u64 (ishr IntKind.u64 (↑x : Int) (32 : Int)) (16 : Int)) (8 : Int))).toNat (0 : Int))))) =
    F
   | false =>
    True ∧
    True ∧
    True ∧
    ((0 : Int) ≤ IntKind.u8.wrap (ishr IntKind.u64 (ishr IntKind.u64 (↑x : Int) (32 : Int)) (16 : Int)) ∧
    IntKind.u8.wrap (ishr IntKind.u64 (ishr IntKind.u64 (↑x : Int) (32 : Int)) (16 : Int)) <
    (↑(ints
    {
    data :=
    {
    toList :=
    [(0 : UInt8), (1 : UInt8), (2 : UInt8), (2 : UInt8), (3 : UInt8), (3 : UInt8), (3 : UInt8), (3 : UInt8), (4 : UInt8), (4 : UInt8), (4 : UInt8), (4 : UInt8), (4 : UInt8), (4 : UInt8), (4 : UInt8), (4 : UInt8), (5 : UInt8), (5 : UInt8), (5 : UInt8), (5 : UInt8), (5 : UInt8), (5 : UInt8), (5 : UInt8), (5 : UInt8), (5 : UInt8),
    (5 : UInt8), (5 : UInt8), (5 : UInt8), (5 : UInt8), (5 : UInt8), (5 : UInt8), (5 : UInt8), (6 : UInt8), (6 : UInt8), (6 : UInt8), (6 : UInt8), (6 : UInt8), (6 : UInt8), (6 : UInt8), (6 : UInt8), (6 : UInt8), (6 : UInt8), (6 : UInt8), (6 : UInt8), (6 : UInt8), (6 : UInt8), (6 : UInt8), (6 : UInt8), (6 : UInt8), (6 : UInt8),
    (6 : UInt8), (6 : UInt8), (6 : UInt8), (6 : UInt8), (6 : UInt8), (6 : UInt8), (6 : UInt8), (6 : UInt8), (6 : UInt8), (6 : UInt8), (6 : UInt8), (6 : UInt8), (6 : UInt8), (6 : UInt8), (7 : UInt8), (7 : UInt8), (7 : UInt8), (7 : UInt8), (7 : UInt8), (7 : UInt8), (7 : UInt8), (7 : UInt8), (7 : UInt8), (7 : UInt8), (7 : UInt8),
    (7 : UInt8), (7 : UInt8), (7 : UInt8), (7 : UInt8), (7 : UInt8), (7 : UInt8), (7 : UInt8), (7 : UInt8), (7 : UInt8), (7 : UInt8), (7 : UInt8), (7 : UInt8), (7 : UInt8), (7 : UInt8), (7 : UInt8), (7 : UInt8), (7 : UInt8), (7 : UInt8), (7 : UInt8), (7 : UInt8), (7 : UInt8), (7 : UInt8), (7 : UInt8), (7 : UInt8), (7 : UInt8),
    (7 : UInt8), (7 : UInt8), (7 : UInt8), (7 : UInt8), (7 : UInt8), (7 : UInt8), (7 : UInt8), (7 : UInt8), (7 : UInt8), (7 : UInt8), (7 : UInt8), (7 : UInt8), (7 : UInt8), (7 : UInt8), (7 : UInt8), (7 : UInt8), (7 : UInt8), (7 : UInt8), (7 : UInt8), (7 : UInt8), (7 : UInt8), (7 : UInt8), (7 : UInt8), (7 : UInt8), (7 : UInt8),
    (7 : UInt8), (7 : UInt8), (7 : UInt8), (8 : UInt8), (8 : UInt8), (8 : UInt8), (8 : UInt8), (8 : UInt8), (8 : UInt8), (8 : UInt8), (8 : UInt8), (8 : UInt8), (8 : UInt8), (8 : UInt8), (8 : UInt8), (8 : UInt8), (8 : UInt8), (8 : UInt8), (8 : UInt8), (8 : UInt8), (8 : UInt8), (8 : UInt8), (8 : UInt8), (8 : UInt8), (8 : UInt8),
    (8 : UInt8), (8 : UInt8), (8 : UInt8), (8 : UInt8), (8 : UInt8), (8 : UInt8), (8 : UInt8), (8 : UInt8), (8 : UInt8), (8 : UInt8), (8 : UInt8), (8 : UInt8), (8 : UInt8), (8 : UInt8), (8 : UInt8), (8 : UInt8), (8 : UInt8), (8 : UInt8), (8 : UInt8), (8 : UInt8), (8 : UInt8), (8 : UInt8), (8 : UInt8), (8 : UInt8), (8 : UInt8),
    (8 : UInt8), (8 : UInt8), (8 : UInt8), (8 : UInt8), (8 : UInt8), (8 : UInt8), (8 : UInt8), (8 : UInt8), (8 : UInt8), (8 : UInt8), (8 : UInt8), (8 : UInt8), (8 : UInt8), (8 : UInt8), (8 : UInt8), (8 : UInt8), (8 : UInt8), (8 : UInt8), (8 : UInt8), (8 : UInt8), (8 : UInt8), (8 : UInt8), (8 : UInt8), (8 : UInt8), (8 : UInt8),
    (8 : UInt8), (8 : UInt8), (8 : UInt8), (8 : UInt8), (8 : UInt8), (8 : UInt8), (8 : UInt8), (8 : UInt8), (8 : UInt8), (8 : UInt8), (8 : UInt8), (8 : UInt8), (8 : UInt8), (8 : UInt8), (8 : UInt8), (8 : UInt8), (8 : UInt8), (8 : UInt8), (8 : UInt8), (8 : UInt8), (8 : UInt8), (8 : UInt8), (8 : UInt8), (8 : UInt8), (8 : UInt8),
    (8 : UInt8), (8 : UInt8), (8 : UInt8), (8 : UInt8), (8 : UInt8), (8 : UInt8), (8 : UInt8), (8 : UInt8), (8 : UInt8), (8 : UInt8), (8 : UInt8), (8 : UInt8), (8 : UInt8), (8 : UInt8), (8 : UInt8), (8 : UInt8), (8 : UInt8), (8 : UInt8), (8 : UInt8), (8 : UInt8), (8 : UInt8), (8 : UInt8), (8 : UInt8), (8 : UInt8), (8 : UInt8),
    (8 : UInt8), (8 : UInt8), (8 : UInt8), (8 : UInt8), (8 : UInt8), (8 : UInt8)] } }).length :
    Int)) ∧
    True ∧
    True ∧
    True ∧
    (false = false ∧ True) ∧
    D.val
    (Value.int IntKind.i64
    (IntKind.i64.wrap
    (IntKind.i64.wrap ((32 : Int) + (16 : Int)) +
    IntKind.i64.wrap
    ((ints
    {
    data :=
    {
    toList :=
    [(0 : UInt8), (1 : UInt8), (2 : UInt8), (2 : UInt8), (3 : UInt8), (3 : UInt8), (3 : UInt8), (3 : UInt8), (4 : UInt8), (4 : UInt8), (4 : UInt8), (4 : UInt8), (4 : UInt8), (4 : UInt8), (4 : UInt8), (4 : UInt8), (5 : UInt8), (5 : UInt8), (5 : UInt8), (5 : UInt8), (5 : UInt8), (5 : UInt8), (5 : UInt8), (5 : UInt8),
    (5 : UInt8), (5 : UInt8), (5 : UInt8), (5 : UInt8), (5 : UInt8), (5 : UInt8), (5 : UInt8), (5 : UInt8), (6 : UInt8), (6 : UInt8), (6 : UInt8), (6 : UInt8), (6 : UInt8), (6 : UInt8), (6 : UInt8), (6 : UInt8), (6 : UInt8), (6 : UInt8), (6 : UInt8), (6 : UInt8), (6 : UInt8), (6 : UInt8), (6 : UInt8), (6 : UInt8),
    (6 : UInt8), (6 : UInt8), (6 : UInt8), (6 : UInt8), (6 : UInt8), (6 : UInt8), (6 : UInt8), (6 : UInt8), (6 : UInt8), (6 : UInt8), (6 : UInt8), (6 : UInt8), (6 : UInt8), (6 : UInt8), (6 : UInt8), (6 : UInt8), (7 : UInt8), (7 : UInt8), (7 : UInt8), (7 : UInt8), (7 : UInt8), (7 : UInt8), (7 : UInt8), (7 : UInt8),
    (7 : UInt8), (7 : UInt8), (7 : UInt8), (7 : UInt8), (7 : UInt8), (7 : UInt8), (7 : UInt8), (7 : UInt8), (7 : UInt8), (7 : UInt8), (7 : UInt8), (7 : UInt8), (7 : UInt8), (7 : UInt8), (7 : UInt8), (7 : UInt8), (7 : UInt8), (7 : UInt8), (7 : UInt8), (7 : UInt8), (7 : UInt8), (7 : UInt8), (7 : UInt8), (7 : UInt8),
    (7 : UInt8), (7 : UInt8), (7 : UInt8), (7 : UInt8), (7 : UInt8), (7 : UInt8), (7 : UInt8), (7 : UInt8), (7 : UInt8), (7 : UInt8), (7 : UInt8), (7 : UInt8), (7 : UInt8), (7 : UInt8), (7 : UInt8), (7 : UInt8), (7 : UInt8), (7 : UInt8), (7 : UInt8), (7 : UInt8), (7 : UInt8), (7 : UInt8), (7 : UInt8), (7 : UInt8),
    (7 : UInt8), (7 : UInt8), (7 : UInt8), (7 : UInt8), (7 : UInt8), (7 : UInt8), (7 : UInt8), (7 : UInt8), (8 : UInt8), (8 : UInt8), (8 : UInt8), (8 : UInt8), (8 : UInt8), (8 : UInt8), (8 : UInt8), (8 : UInt8), (8 : UInt8), (8 : UInt8), (8 : UInt8), (8 : UInt8), (8 : UInt8), (8 : UInt8), (8 : UInt8), (8 : UInt8),
    (8 : UInt8), (8 : UInt8), (8 : UInt8), (8 : UInt8), (8 : UInt8), (8 : UInt8), (8 : UInt8), (8 : UInt8), (8 : UInt8), (8 : UInt8), (8 : UInt8), (8 : UInt8), (8 : UInt8), (8 : UInt8), (8 : UInt8), (8 : UInt8), (8 : UInt8), (8 : UInt8), (8 : UInt8), (8 : UInt8), (8 : UInt8), (8 : UInt8), (8 : UInt8), (8 : UInt8),
    (8 : UInt8), (8 : UInt8), (8 : UInt8), (8 : UInt8), (8 : UInt8), (8 : UInt8), (8 : UInt8), (8 : UInt8), (8 : UInt8), (8 : UInt8), (8 : UInt8), (8 : UInt8), (8 : UInt8), (8 : UInt8), (8 : UInt8), (8 : UInt8), (8 : UInt8), (8 : UInt8), (8 : UInt8), (8 : UInt8), (8 : UInt8), (8 : UInt8), (8 : UInt8), (8 : UInt8),
    (8 : UInt8), (8 : UInt8), (8 : UInt8), (8 : UInt8), (8 : UInt8), (8 : UInt8), (8 : UInt8), (8 : UInt8), (8 : UInt8), (8 : UInt8), (8 : UInt8), (8 : UInt8), (8 : UInt8), (8 : UInt8), (8 : UInt8), (8 : UInt8), (8 : UInt8), (8 : UInt8), (8 : UInt8), (8 : UInt8), (8 : UInt8), (8 : UInt8), (8 : UInt8), (8 : UInt8),
    (8 : UInt8), (8 : UInt8), (8 : UInt8), (8 : UInt8), (8 : UInt8), (8 : UInt8), (8 : UInt8), (8 : UInt8), (8 : UInt8), (8 : UInt8), (8 : UInt8), (8 : UInt8), (8 : UInt8), (8 : UInt8), (8 : UInt8), (8 : UInt8), (8 : UInt8), (8 : UInt8), (8 : UInt8), (8 : UInt8), (8 : UInt8), (8 : UInt8), (8 : UInt8), (8 : UInt8),
    (8 : UInt8), (8 : UInt8), (8 : UInt8), (8 : UInt8), (8 : UInt8), (8 : UInt8), (8 : UInt8), (8 : UInt8), (8 : UInt8), (8 : UInt8), (8 : UInt8), (8 : UInt8), (8 : UInt8), (8 : UInt8), (8 : UInt8), (8 : UInt8)] } }).getD
    (IntKind.u8.wrap (ishr IntKind.u64 (ishr IntKind.u64 (↑x : Int) (32 : Int)) (16 : Int))).toNat (0 : Int))))) =
    F
  | false =>
   True ∧
   True ∧
   match decide (ishr IntKind.u64 (↑x : Int) (32 : Int) ≥ (256 : Int)) with
   | true =>
    True ∧
    (0 : Int) ≤ (8 : Int) ∧
    True ∧
    True ∧
    True ∧
    True ∧
    True ∧
    True ∧
    True ∧
    ((0 : Int) ≤ IntKind.u8.wrap (ishr IntKind.u64 (ishr IntKind.u64 (↑x : Int) (32 : Int)) (8 : Int)) ∧
    IntKind.u8.wrap (ishr IntKind.u64 (ishr IntKind.u64 (↑x : Int) (32 : Int)) (8 : Int)) <
    (↑(ints
    {
    data :=
    {
    toList :=
    [(0 : UInt8), (1 : UInt8), (2 : UInt8), (2 : UInt8), (3 : UInt8), (3 : UInt8), (3 : UInt8), (3 : UInt8), (4 : UInt8), (4 : UInt8), (4 : UInt8), (4 : UInt8), (4 : UInt8), (4 : UInt8), (4 : UInt8), (4 : UInt8), (5 : UInt8), (5 : UInt8), (5 : UInt8), (5 : UInt8), (5 : UInt8), (5 : UInt8), (5 : UInt8), (5 : UInt8), (5 : UInt8),
    (5 : UInt8), (5 : UInt8), (5 : UInt8), (5 : UInt8), (5 : UInt8), (5 : UInt8), (5 : UInt8), (6 : UInt8), (6 : UInt8), (6 : UInt8), (6 : UInt8), (6 : UInt8), (6 : UInt8), (6 : UInt8), (6 : UInt8), (6 : UInt8), (6 : UInt8), (6 : UInt8), (6 : UInt8), (6 : UInt8), (6 : UInt8), (6 : UInt8), (6 : UInt8), (6 : UInt8), (6 : UInt8),
    (6 : UInt8), (6 : UInt8), (6 : UInt8), (6 : UInt8), (6 : UInt8), (6 : UInt8), (6 : UInt8), (6 : UInt8), (6 : UInt8), (6 : UInt8), (6 : UInt8), (6 : UInt8), (6 : UInt8), (6 : UInt8), (7 : UInt8), (7 : UInt8), (7 : UInt8), (7 : UInt8), (7 : UInt8), (7 : UInt8), (7 : UInt8), (7 : UInt8), (7 : UInt8), (7 : UInt8), (7 : UInt8),
    (7 : UInt8), (7 : UInt8), (7 : UInt8), (7 : UInt8), (7 : UInt8), (7 : UInt8), (7 : UInt8), (7 : UInt8), (7 : UInt8), (7 : UInt8), (7 : UInt8), (7 : UInt8), (7 : UInt8), (7 : UInt8), (7 : UInt8), (7 : UInt8), (7 : UInt8), (7 : UInt8), (7 : UInt8), (7 : UInt8), (7 : UInt8), (7 : UInt8), (7 : UInt8), (7 : UInt8), (7 : UInt8),
    (7 : UInt8), (7 : UInt8), (7 : UInt8), (7 : UInt8), (7 : UInt8), (7 : UInt8), (7 : UInt8), (7 : UInt8), (7 : UInt8), (7 : UInt8), (7 : UInt8), (7 : UInt8), (7 : UInt8), (7 : UInt8), (7 : UInt8), (7 : UInt8), (7 : UInt8), (7 : UInt8), (7 : UInt8), (7 : UInt8), (7 : UInt8), (7 : UInt8), (7 : UInt8), (7 : UInt8), (7 : UInt8),
    (7 : UInt8), (7 : UInt8), (7 : UInt8), (8 : UInt8), (8 : UInt8), (8 : UInt8), (8 : UInt8), (8 : UInt8), (8 : UInt8), (8 : UInt8), (8 : UInt8), (8 : UInt8), (8 : UInt8), (8 : UInt8), (8 : UInt8), (8 : UInt8), (8 : UInt8), (8 : UInt8), (8 : UInt8), (8 : UInt8), (8 : UInt8), (8 : UInt8), (8 : UInt8), (8 : UInt8), (8 : UInt8),
    (8 : UInt8), (8 : UInt8), (8 : UInt8), (8 : UInt8), (8 : UInt8), (8 : UInt8), (8 : UInt8), (8 : UInt8), (8 : UInt8), (8 : UInt8), (8 : UInt8), (8 : UInt8), (8 : UInt8), (8 : UInt8), (8 : UInt8), (8 : UInt8), (8 : UInt8), (8 : UInt8), (8 : UInt8), (8 : UInt8), (8 : UInt8), (8 : UInt8), (8 : UInt8), (8 : UInt8), (8 : UInt8),
    (8 : UInt8), (8 : UInt8), (8 : UInt8), (8 : UInt8), (8 : UInt8), (8 : UInt8), (8 : UInt8), (8 : UInt8), (8 : UInt8), (8 : UInt8), (8 : UInt8), (8 : UInt8), (8 : UInt8), (8 : UInt8), (8 : UInt8), (8 : UInt8), (8 : UInt8), (8 : UInt8), (8 : UInt8), (8 : UInt8), (8 : UInt8), (8 : UInt8), (8 : UInt8), (8 : UInt8), (8 : UInt8),
    (8 : UInt8), (8 : UInt8), (8 : UInt8), (8 : UInt8), (8 : UInt8), (8 : UInt8), (8 : UInt8), (8 : UInt8), (8 : UInt8), (8 : UInt8), (8 : UInt8), (8 : UInt8), (8 : UInt8), (8 : UInt8), (8 : UInt8), (8 : UInt8), (8 : UInt8), (8 : UInt8), (8 : UInt8), (8 : UInt8), (8 : UInt8), (8 : UInt8), (8 : UInt8), (8 : UInt8), (8 : UInt8),
    (8 : UInt8), (8 : UInt8), (8 : UInt8), (8 : UInt8), (8 : UInt8), (8 : UInt8), (8 : UInt8), (8 : UInt8), (8 : UInt8), (8 : UInt8), (8 : UInt8), (8 : UInt8), (8 : UInt8), (8 : UInt8), (8 : UInt8), (8 : UInt8), (8 : UInt8), (8 : UInt8), (8 : UInt8), (8 : UInt8), (8 : UInt8), (8 : UInt8), (8 : UInt8), (8 : UInt8), (8 : UInt8),
    (8 : UInt8), (8 : UInt8), (8 : UInt8), (8 : UInt8), (8 : UInt8), (8 : UInt8)] } }).length :
    Int)) ∧
    True ∧
    True ∧
    True ∧
    (false = false ∧ True) ∧
    D.val
    (Value.int IntKind.i64
    (IntKind.i64.wrap
    (IntKind.i64.wrap ((32 : Int) + (8 : Int)) +
    IntKind.i64.wrap
    ((ints
    {
    data :=
    {
    toList :=
    [(0 : UInt8), (1 : UInt8), (2 : UInt8), (2 : UInt8), (3 : UInt8), (3 : UInt8), (3 : UInt8), (3 : UInt8), (4 : UInt8), (4 : UInt8), (4 : UInt8), (4 : UInt8), (4 : UInt8), (4 : UInt8), (4 : UInt8), (4 : UInt8), (5 : UInt8), (5 : UInt8), (5 : UInt8), (5 : UInt8), (5 : UInt8), (5 : UInt8), (5 : UInt8), (5 : UInt8),
    (5 : UInt8), (5 : UInt8), (5 : UInt8), (5 : UInt8), (5 : UInt8), (5 : UInt8), (5 : UInt8), (5 : UInt8), (6 : UInt8), (6 : UInt8), (6 : UInt8), (6 : UInt8), (6 : UInt8), (6 : UInt8), (6 : UInt8), (6 : UInt8), (6 : UInt8), (6 : UInt8), (6 : UInt8), (6 : UInt8), (6 : UInt8), (6 : UInt8), (6 : UInt8), (6 : UInt8),
    (6 : UInt8), (6 : UInt8), (6 : UInt8), (6 : UInt8), (6 : UInt8), (6 : UInt8), (6 : UInt8), (6 : UInt8), (6 : UInt8), (6 : UInt8), (6 : UInt8), (6 : UInt8), (6 : UInt8), (6 : UInt8), (6 : UInt8), (6 : UInt8), (7 : UInt8), (7 : UInt8), (7 : UInt8), (7 : UInt8), (7 : UInt8), (7 : UInt8), (7 : UInt8), (7 : UInt8),
    (7 : UInt8), (7 : UInt8), (7 : UInt8), (7 : UInt8), (7 : UInt8), (7 : UInt8), (7 : UInt8), (7 : UInt8), (7 : UInt8), (7 : UInt8), (7 : UInt8), (7 : UInt8), (7 : UInt8), (7 : UInt8), (7 : UInt8), (7 : UInt8), (7 : UInt8), (7 : UInt8), (7 : UInt8), (7 : UInt8), (7 : UInt8), (7 : UInt8), (7 : UInt8), (7 : UInt8),
    (7 : UInt8), (7 : UInt8), (7 : UInt8), (7 : UInt8), (7 : UInt8), (7 : UInt8), (7 : UInt8), (7 : UInt8), (7 : UInt8), (7 : UInt8), (7 : UInt8), (7 : UInt8), (7 : UInt8), (7 : UInt8), (7 : UInt8), (7 : UInt8), (7 : UInt8), (7 : UInt8), (7 : UInt8), (7 : UInt8), (7 : UInt8), (7 : UInt8), (7 : UInt8), (7 : UInt8),
    (7 : UInt8), (7 : UInt8), (7 : UInt8), (7 : UInt8), (7 : UInt8), (7 : UInt8), (7 : UInt8), (7 : UInt8), (8 : UInt8), (8 : UInt8), (8 : UInt8), (8 : UInt8), (8 : UInt8), (8 : UInt8), (8 : UInt8), (8 : UInt8), (8 : UInt8), (8 : UInt8), (8 : UInt8), (8 : UInt8), (8 : UInt8), (8 : UInt8), (8 : UInt8), (8 : UInt8),
    (8 : UInt8), (8 : UInt8), (8 : UInt8), (8 : UInt8), (8 : UInt8), (8 : UInt8), (8 : UInt8), (8 : UInt8), (8 : UInt8), (8 : UInt8), (8 : UInt8), (8 : UInt8), (8 : UInt8), (8 : UInt8), (8 : UInt8), (8 : UInt8), (8 : UInt8), (8 : UInt8), (8 : UInt8), (8 : UInt8), (8 : UInt8), (8 : UInt8), (8 : UInt8), (8 : UInt8),
    (8 : UInt8), (8 : UInt8), (8 : UInt8), (8 : UInt8), (8 : UInt8), (8 : UInt8), (8 : UInt8), (8 : UInt8), (8 : UInt8), (8 : UInt8), (8 : UInt8), (8 : UInt8), (8 : UInt8), (8 : UInt8), (8 : UInt8), (8 : UInt8), (8 : UInt8), (8 : UInt8), (8 : UInt8), (8 : UInt8), (8 : UInt8), (8 : UInt8), (8 : UInt8), (8 : UInt8),
    (8 : UInt8), (8 : UInt8), (8 : UInt8), (8 : UInt8), (8 : UInt8), (8 : UInt8), (8 : UInt8), (8 : UInt8), (8 : UInt8), (8 : UInt8), (8 : UInt8), (8 : UInt8), (8 : UInt8), (8 : UInt8), (8 : UInt8), (8 : UInt8), (8 : UInt8), (8 : UInt8), (8 : UInt8), (8 : UInt8), (8 : UInt8), (8 : UInt8), (8 : UInt8), (8 : UInt8),
    (8 : UInt8), (8 : UInt8), (8 : UInt8), (8 : UInt8), (8 : UInt8), (8 : UInt8), (8 : UInt8), (8 : UInt8), (8 : UInt8), (8 : UInt8), (8 : UInt8), (8 : UInt8), (8 : UInt8), (8 : UInt8), (8 : UInt8), (8 : UInt8), (8 : UInt8), (8 : UInt8), (8 : UInt8), (8 : UInt8), (8 : UInt8), (8 : UInt8), (8 : UInt8), (8 : UInt8),
    (8 : UInt8), (8 : UInt8), (8 : UInt8), (8 : UInt8), (8 : UInt8), (8 : UInt8), (8 : UInt8), (8 : UInt8), (8 : UInt8), (8 : UInt8), (8 : UInt8), (8 : UInt8), (8 : UInt8), (8 : UInt8), (8 : UInt8), (8 : UInt8)] } }).getD
    (IntKind.u8.wrap (ishr IntKind.u64 (ishr IntKind.u64 (↑x : Int) (32 : Int)) (8 : Int))).toNat (0 : Int))))) =
    F
   | false =>
    True ∧
    True ∧
    True ∧
    ((0 : Int) ≤ IntKind.u8.wrap (ishr IntKind.u64 (↑x : Int) (32 : Int)) ∧
    IntKind.u8.wrap (ishr IntKind.u64 (↑x : Int) (32 : Int)) <
    (↑(ints
    {
    data :=
    {
    toList :=
    [(0 : UInt8), (1 : UInt8), (2 : UInt8), (2 : UInt8), (3 : UInt8), (3 : UInt8), (3 : UInt8), (3 : UInt8), (4 : UInt8), (4 : UInt8), (4 : UInt8), (4 : UInt8), (4 : UInt8), (4 : UInt8), (4 : UInt8), (4 : UInt8), (5 : UInt8), (5 : UInt8), (5 : UInt8), (5 : UInt8), (5 : UInt8), (5 : UInt8), (5 : UInt8), (5 : UInt8), (5 : UInt8), (5 : UInt8),
    (5 : UInt8), (5 : UInt8), (5 : UInt8), (5 : UInt8), (5 : UInt8), (5 : UInt8), (6 : UInt8), (6 : UInt8), (6 : UInt8), (6 : UInt8), (6 : UInt8), (6 : UInt8), (6 : UInt8), (6 : UInt8), (6 : UInt8), (6 : UInt8), (6 : UInt8), (6 : UInt8), (6 : UInt8), (6 : UInt8), (6 : UInt8), (6 : UInt8), (6 : UInt8), (6 : UInt8), (6 : UInt8), (6 : UInt8),
    (6 : UInt8), (6 : UInt8), (6 : UInt8), (6 : UInt8), (6 : UInt8), (6 : UInt8), (6 : UInt8), (6 : UInt8), (6 : UInt8), (6 : UInt8), (6 : UInt8), (6 : UInt8), (7 : UInt8), (7 : UInt8), (7 : UInt8), (7 : UInt8), (7 : UInt8), (7 : UInt8), (7 : UInt8), (7 : UInt8), (7 : UInt8), (7 : UInt8), (7 : UInt8), (7 : UInt8), (7 : UInt8), (7 : UInt8),
    (7 : UInt8), (7 : UInt8), (7 : UInt8), (7 : UInt8), (7 : UInt8), (7 : UInt8), (7 : UInt8), (7 : UInt8), (7 : UInt8), (7 : UInt8), (7 : UInt8), (7 : UInt8), (7 : UInt8), (7 : UInt8), (7 : UInt8), (7 : UInt8), (7 : UInt8), (7 : UInt8), (7 : UInt8), (7 : UInt8), (7 : UInt8), (7 : UInt8), (7 : UInt8), (7 : UInt8), (7 : UInt8), (7 : UInt8),
    (7 : UInt8), (7 : UInt8), (7 : UInt8), (7 : UInt8), (7 : UInt8), (7 : UInt8), (7 : UInt8), (7 : UInt8), (7 : UInt8), (7 : UInt8), (7 : UInt8), (7 : UInt8), (7 : UInt8), (7 : UInt8), (7 : UInt8), (7 : UInt8), (7 : UInt8), (7 : UInt8), (7 : UInt8), (7 : UInt8), (7 : UInt8), (7 : UInt8), (7 : UInt8), (7 : UInt8), (8 : UInt8), (8 : UInt8),
    (8 : UInt8), (8 : UInt8), (8 : UInt8), (8 : UInt8), (8 : UInt8), (8 : UInt8), (8 : UInt8), (8 : UInt8), (8 : UInt8), (8 : UInt8), (8 : UInt8), (8 : UInt8), (8 : UInt8), (8 : UInt8), (8 : UInt8), (8 : UInt8), (8 : UInt8), (8 : UInt8), (8 : UInt8), (8 : UInt8), (8 : UInt8), (8 : UInt8), (8 : UInt8), (8 : UInt8), (8 : UInt8), (8 : UInt8),
    (8 : UInt8), (8 : UInt8), (8 : UInt8), (8 : UInt8), (8 : UInt8), (8 : UInt8), (8 : UInt8), (8 : UInt8), (8 : UInt8), (8 : UInt8), (8 : UInt8), (8 : UInt8), (8 : UInt8), (8 : UInt8), (8 : UInt8), (8 : UInt8), (8 : UInt8), (8 : UInt8), (8 : UInt8), (8 : UInt8), (8 : UInt8), (8 : UInt8), (8 : UInt8), (8 : UInt8), (8 : UInt8), (8 : UInt8),
    (8 : UInt8), (8 : UInt8), (8 : UInt8), (8 : UInt8), (8 : UInt8), (8 : UInt8), (8 : UInt8), (8 : UInt8), (8 : UInt8), (8 : UInt8), (8 : UInt8), (8 : UInt8), (8 : UInt8), (8 : UInt8), (8 : UInt8), (8 : UInt8), (8 : UInt8), (8 : UInt8), (8 : UInt8), (8 : UInt8), (8 : UInt8), (8 : UInt8), (8 : UInt8), (8 : UInt8), (8 : UInt8), (8 : UInt8),
    (8 : UInt8), (8 : UInt8), (8 : UInt8), (8 : UInt8), (8 : UInt8), (8 : UInt8), (8 : UInt8), (8 : UInt8), (8 : UInt8), (8 : UInt8), (8 : UInt8), (8 : UInt8), (8 : UInt8), (8 : UInt8), (8 : UInt8), (8 : UInt8), (8 : UInt8), (8 : UInt8), (8 : UInt8), (8 : UInt8), (8 : UInt8), (8 : UInt8), (8 : UInt8), (8 : UInt8), (8 : UInt8), (8 : UInt8),
    (8 : UInt8), (8 : UInt8), (8 : UInt8), (8 : UInt8), (8 : UInt8), (8 : UInt8), (8 : UInt8), (8 : UInt8), (8 : UInt8), (8 : UInt8), (8 : UInt8), (8 : UInt8), (8 : UInt8), (8 : UInt8), (8 : UInt8), (8 : UInt8), (8 : UInt8), (8 : UInt8), (8 : UInt8), (8 : UInt8), (8 : UInt8), (8 : UInt8)] } }).length :
    Int)) ∧
    True ∧
    True ∧
    True ∧
    (false = false ∧ True) ∧
    D.val
    (Value.int IntKind.i64
    (IntKind.i64.wrap
    ((32 : Int) +
    IntKind.i64.wrap
    ((ints
    {
    data :=
    {
    toList :=
    [(0 : UInt8), (1 : UInt8), (2 : UInt8), (2 : UInt8), (3 : UInt8), (3 : UInt8), (3 : UInt8), (3 : UInt8), (4 : UInt8), (4 : UInt8), (4 : UInt8), (4 : UInt8), (4 : UInt8), (4 : UInt8), (4 : UInt8), (4 : UInt8), (5 : UInt8), (5 : UInt8), (5 : UInt8), (5 : UInt8), (5 : UInt8), (5 : UInt8), (5 : UInt8), (5 : UInt8), (5 : UInt8),
    (5 : UInt8), (5 : UInt8), (5 : UInt8), (5 : UInt8), (5 : UInt8), (5 : UInt8), (5 : UInt8), (6 : UInt8), (6 : UInt8), (6 : UInt8), (6 : UInt8), (6 : UInt8), (6 : UInt8), (6 : UInt8), (6 : UInt8), (6 : UInt8), (6 : UInt8), (6 : UInt8), (6 : UInt8), (6 : UInt8), (6 : UInt8), (6 : UInt8), (6 : UInt8), (6 : UInt8), (6 : UInt8),
    (6 : UInt8), (6 : UInt8), (6 : UInt8), (6 : UInt8), (6 : UInt8), (6 : UInt8), (6 : UInt8), (6 : UInt8), (6 : UInt8), (6 : UInt8), (6 : UInt8), (6 : UInt8), (6 : UInt8), (6 : UInt8), (7 : UInt8), (7 : UInt8), (7 : UInt8), (7 : UInt8), (7 : UInt8), (7 : UInt8), (7 : UInt8), (7 : UInt8), (7 : UInt8), (7 : UInt8), (7 : UInt8),
    (7 : UInt8), (7 : UInt8), (7 : UInt8), (7 : UInt8), (7 : UInt8), (7 : UInt8), (7 : UInt8), (7 : UInt8), (7 : UInt8), (7 : UInt8), (7 : UInt8), (7 : UInt8), (7 : UInt8), (7 : UInt8), (7 : UInt8), (7 : UInt8), (7 : UInt8), (7 : UInt8), (7 : UInt8), (7 : UInt8), (7 : UInt8), (7 : UInt8), (7 : UInt8), (7 : UInt8), (7 : UInt8),
    (7 : UInt8), (7 : UInt8), (7 : UInt8), (7 : UInt8), (7 : UInt8), (7 : UInt8), (7 : UInt8), (7 : UInt8), (7 : UInt8), (7 : UInt8), (7 : UInt8), (7 : UInt8), (7 : UInt8), (7 : UInt8), (7 : UInt8), (7 : UInt8), (7 : UInt8), (7 : UInt8), (7 : UInt8), (7 : UInt8), (7 : UInt8), (7 : UInt8), (7 : UInt8), (7 : UInt8), (7 : UInt8),
    (7 : UInt8), (7 : UInt8), (7 : UInt8), (8 : UInt8), (8 : UInt8), (8 : UInt8), (8 : UInt8), (8 : UInt8), (8 : UInt8), (8 : UInt8), (8 : UInt8), (8 : UInt8), (8 : UInt8), (8 : UInt8), (8 : UInt8), (8 : UInt8), (8 : UInt8), (8 : UInt8), (8 : UInt8), (8 : UInt8), (8 : UInt8), (8 : UInt8), (8 : UInt8), (8 : UInt8), (8 : UInt8),
    (8 : UInt8), (8 : UInt8), (8 : UInt8), (8 : UInt8), (8 : UInt8), (8 : UInt8), (8 : UInt8), (8 : UInt8), (8 : UInt8), (8 : UInt8), (8 : UInt8), (8 : UInt8), (8 : UInt8), (8 : UInt8), (8 : UInt8), (8 : UInt8), (8 : UInt8), (8 : UInt8), (8 : UInt8), (8 : UInt8), (8 : UInt8), (8 : UInt8), (8 : UInt8), (8 : UInt8), (8 : UInt8),
    (8 : UInt8), (8 : UInt8), (8 : UInt8), (8 : UInt8), (8 : UInt8), (8 : UInt8), (8 : UInt8), (8 : UInt8), (8 : UInt8), (8 : UInt8), (8 : UInt8), (8 : UInt8), (8 : UInt8), (8 : UInt8), (8 : UInt8), (8 : UInt8), (8 : UInt8), (8 : UInt8), (8 : UInt8), (8 : UInt8), (8 : UInt8), (8 : UInt8), (8 : UInt8), (8 : UInt8), (8 : UInt8),
    (8 : UInt8), (8 : UInt8), (8 : UInt8), (8 : UInt8), (8 : UInt8), (8 : UInt8), (8 : UInt8), (8 : UInt8), (8 : UInt8), (8 : UInt8), (8 : UInt8), (8 : UInt8), (8 : UInt8), (8 : UInt8), (8 : UInt8), (8 : UInt8), (8 : UInt8), (8 : UInt8), (8 : UInt8), (8 : UInt8), (8 : UInt8), (8 : UInt8), (8 : UInt8), (8 : UInt8), (8 : UInt8),
    (8 : UInt8), (8 : UInt8), (8 : UInt8), (8 : UInt8), (8 : UInt8), (8 : UInt8), (8 : UInt8), (8 : UInt8), (8 : UInt8), (8 : UInt8), (8 : UInt8), (8 : UInt8), (8 : UInt8), (8 : UInt8), (8 : UInt8), (8 : UInt8), (8 : UInt8), (8 : UInt8), (8 : UInt8), (8 : UInt8), (8 : UInt8), (8 : UInt8), (8 : UInt8), (8 : UInt8), (8 : UInt8),
    (8 : UInt8), (8 : UInt8), (8 : UInt8), (8 : UInt8), (8 : UInt8), (8 : UInt8)] } }).getD
    (IntKind.u8.wrap (ishr IntKind.u64 (↑x : Int) (32 : Int))).toNat (0 : Int))))) =
    F
 | false =>
  True ∧
  True ∧
  match decide ((↑x : Int) ≥ (65536 : Int)) with
  | true =>
   True ∧
   (0 : Int) ≤ (16 : Int) ∧
   True ∧
   True ∧
   True ∧
   True ∧
   True ∧
   True ∧
   match decide (ishr IntKind.u64 (↑x : Int) (16 : Int) ≥ (256 : Int)) with
   | true =>
    True ∧
    (0 : Int) ≤ (8 : Int) ∧
    True ∧
    True ∧
    True ∧
    True ∧
    True ∧
    True ∧
    True ∧
    ((0 : Int) ≤ IntKind.u8.wrap (ishr IntKind.u64 (ishr IntKind.u64 (↑x : Int) (16 : Int)) (8 : Int)) ∧
    IntKind.u8.wrap (ishr IntKind.u64 (ishr IntKind.u64 (↑x : Int) (16 : Int)) (8 : Int)) <
    (↑(ints
    {
    data :=
    {
    toList :=
    [(0 : UInt8), (1 : UInt8), (2 : UInt8), (2 : UInt8), (3 : UInt8), (3 : UInt8), (3 : UInt8), (3 : UInt8), (4 : UInt8), (4 : UInt8), (4 : UInt8), (4 : UInt8), (4 : UInt8), (4 : UInt8), (4 : UInt8), (4 : UInt8), (5 : UInt8), (5 : UInt8), (5 : UInt8), (5 : UInt8), (5 : UInt8), (5 : UInt8), (5 : UInt8), (5 : UInt8), (5 : UInt8),
    (5 : UInt8), (5 : UInt8), (5 : UInt8), (5 : UInt8), (5 : UInt8), (5 : UInt8), (5 : UInt8), (6 : UInt8), (6 : UInt8), (6 : UInt8), (6 : UInt8), (6 : UInt8), (6 : UInt8), (6 : UInt8), (6 : UInt8), (6 : UInt8), (6 : UInt8), (6 : UInt8), (6 : UInt8), (6 : UInt8), (6 : UInt8), (6 : UInt8), (6 : UInt8), (6 : UInt8), (6 : UInt8),
    (6 : UInt8), (6 : UInt8), (6 : UInt8), (6 : UInt8), (6 : UInt8), (6 : UInt8), (6 : UInt8), (6 : UInt8), (6 : UInt8), (6 : UInt8), (6 : UInt8), (6 : UInt8), (6 : UInt8), (6 : UInt8), (7 : UInt8), (7 : UInt8), (7 : UInt8), (7 : UInt8), (7 : UInt8), (7 : UInt8), (7 : UInt8), (7 : UInt8), (7 : UInt8), (7 : UInt8), (7 : UInt8),
    (7 : UInt8), (7 : UInt8), (7 : UInt8), (7 : UInt8), (7 : UInt8), (7 : UInt8), (7 : UInt8), (7 : UInt8), (7 : UInt8), (7 : UInt8), (7 : UInt8), (7 : UInt8), (7 : UInt8), (7 : UInt8), (7 : UInt8), (7 : UInt8), (7 : UInt8), (7 : UInt8), (7 : UInt8), (7 : UInt8), (7 : UInt8), (7 : UInt8), (7 : UInt8), (7 : UInt8), (7 : UInt8),
    (7 : UInt8), (7 : UInt8), (7 : UInt8), (7 : UInt8), (7 : UInt8), (7 : UInt8), (7 : UInt8), (7 : UInt8), (7 : UInt8), (7 : UInt8), (7 : UInt8), (7 : UInt8), (7 : UInt8), (7 : UInt8), (7 : UInt8), (7 : UInt8), (7 : UInt8), (7 : UInt8), (7 : UInt8), (7 : UInt8), (7 : UInt8), (7 : UInt8), (7 : UInt8), (7 : UInt8), (7 : UInt8),
    (7 : UInt8), (7 : UInt8), (7 : UInt8), (8 : UInt8), (8 : UInt8), (8 : UInt8), (8 : UInt8), (8 : UInt8), (8 : UInt8), (8 : UInt8), (8 : UInt8), (8 : UInt8), (8 : UInt8), (8 : UInt8), (8 : UInt8), (8 : UInt8), (8 : UInt8), (8 : UInt8), (8 : UInt8), (8 : UInt8), (8 : UInt8), (8 : UInt8), (8 : UInt8), (8 : UInt8), (8 : UInt8),
    (8 : UInt8), (8 : UInt8), (8 : UInt8), (8 : UInt8), (8 : UInt8), (8 : UInt8), (8 : UInt8), (8 : UInt8), (8 : UInt8), (8 : UInt8), (8 : UInt8), (8 : UInt8), (8 : UInt8), (8 : UInt8), (8 : UInt8), (8 : UInt8), (8 : UInt8), (8 : UInt8), (8 : UInt8), (8 : UInt8), (8 : UInt8), (8 : UInt8), (8 : UInt8), (8 : UInt8), (8 : UInt8),
    (8 : UInt8), (8 : UInt8), (8 : UInt8), (8 : UInt8), (8 : UInt8), (8 : UInt8), (8 : UInt8), (8 : UInt8), (8 : UInt8), (8 : UInt8), (8 : UInt8), (8 : UInt8), (8 : UInt8), (8 : UInt8), (8 : UInt8), (8 : UInt8), (8 : UInt8), (8 : UInt8), (8 : UInt8), (8 : UInt8), (8 : UInt8), (8 : UInt8), (8 : UInt8), (8 : UInt8), (8 : UInt8),
    (8 : UInt8), (8 : UInt8), (8 : UInt8), (8 : UInt8), (8 : UInt8), (8 : UInt8), (8 : UInt8), (8 : UInt8), (8 : UInt8), (8 : UInt8), (8 : UInt8), (8 : UInt8), (8 : UInt8), (8 : UInt8), (8 : UInt8), (8 : UInt8), (8 : UInt8), (8 : UInt8), (8 : UInt8), (8 : UInt8), (8 : UInt8), (8 : UInt8), (8 : UInt8), (8 : UInt8), (8 : UInt8),
    (8 : UInt8), (8 : UInt8), (8 : UInt8), (8 : UInt8), (8 : UInt8), (8 : UInt8), (8 : UInt8), (8 : UInt8), (8 : UInt8), (8 : UInt8), (8 : UInt8), (8 : UInt8), (8 : UInt8), (8 : UInt8), (8 : UInt8), (8 : UInt8), (8 : UInt8), (8 : UInt8), (8 : UInt8), (8 : UInt8), (8 : UInt8), (8 : UInt8), (8 : UInt8), (8 : UInt8), (8 : UInt8),
    (8 : UInt8), (8 : UInt8), (8 : UInt8), (8 : UInt8), (8 : UInt8), (8 : UInt8)] } }).length :
    Int)) ∧
    True ∧
    True ∧
    True ∧
    (false = false ∧ True) ∧
    D.val
    (Value.int IntKind.i64
    (IntKind.i64.wrap
    (IntKind.i64.wrap (IntKind.i64.wrap ((0 : Int) + (16 : Int)) + (8 : Int)) +
    IntKind.i64.wrap
    ((ints
    {
    data :=
    {
    toList :=
    [(0 : UInt8), (1 : UInt8), (2 : UInt8), (2 : UInt8), (3 : UInt8), (3 : UInt8), (3 : UInt8), (3 : UInt8), (4 : UInt8), (4 : UInt8), (4 : UInt8), (4 : UInt8), (4 : UInt8), (4 : UInt8), (4 : UInt8), (4 : UInt8), (5 : UInt8), (5 : UInt8), (5 : UInt8), (5 : UInt8), (5 : UInt8), (5 : UInt8), (5 : UInt8), (5 : UInt8),
    (5 : UInt8), (5 : UInt8), (5 : UInt8), (5 : UInt8), (5 : UInt8), (5 : UInt8), (5 : UInt8), (5 : UInt8), (6 : UInt8), (6 : UInt8), (6 : UInt8), (6 : UInt8), (6 : UInt8), (6 : UInt8), (6 : UInt8), (6 : UInt8), (6 : UInt8), (6 : UInt8), (6 : UInt8), (6 : UInt8), (6 : UInt8), (6 : UInt8), (6 : UInt8),
    (6 : UInt8), (6 : UInt8), (6 : UInt8), (6 : UInt8), (6 : UInt8), (6 : UInt8), (6 : UInt8), (6 : UInt8), (6 : UInt8), (6 : UInt8), (6 : UInt8), (6 : UInt8), (6 : UInt8), (6 : UInt8), (6 : UInt8), (6 : UInt8), (6 : UInt8), (7 : UInt8), (7 : UInt8), (7 : UInt8), (7 : UInt8), (7 : UInt8), (7 : UInt8),
    (7 : UInt8), (7 : UInt8), (7 : UInt8), (7 : UInt8), (7 : UInt8), (7 : UInt8), (7 : UInt8), (7 : UInt8), (7 : UInt8), (7 : UInt8), (7 : UInt8), (7 : UInt8), (7 : UInt8), (7 : UInt8), (7 : UInt8), (7 : UInt8), (7 : UInt8), (7 : UInt8), (7 : UInt8), (7 : UInt8), (7 : UInt8), (7 : UInt8), (7 : UInt8),
    (7 : UInt8), (7 : UInt8), (7 : UInt8), (7 : UInt8), (7 : UInt8), (7 : UInt8), (7 : UInt8), (7 : UInt8), (7 : UInt8), (7 : UInt8), (7 : UInt8), (7 : UInt8), (7 : UInt8), (7 : UInt8), (7 : UInt8), (7 : UInt8), (7 : UInt8), (7 : UInt8), (7 : UInt8), (7 : UInt8), (7 : UInt8), (7 : UInt8), (7 : UInt8),
    (7 : UInt8), (7 : UInt8), (7 : UInt8), (7 : UInt8), (7 : UInt8), (7 : UInt8), (7 : UInt8), (7 : UInt8), (7 : UInt8), (7 : UInt8), (7 : UInt8), (7 : UInt8), (8 : UInt8), (8 : UInt8), (8 : UInt8), (8 : UInt8), (8 : UInt8), (8 : UInt8), (8 : UInt8), (8 : UInt8), (8 : UInt8), (8 : UInt8), (8 : UInt8),
    (8 : UInt8), (8 : UInt8), (8 : UInt8), (8 : UInt8), (8 : UInt8), (8 : UInt8), (8 : UInt8), (8 : UInt8), (8 : UInt8), (8 : UInt8), (8 : UInt8), (8 : UInt8), (8 : UInt8), (8 : UInt8), (8 : UInt8), (8 : UInt8), (8 : UInt8), (8 : UInt8), (8 : UInt8), (8 : UInt8), (8 : UInt8), (8 : UInt8), (8 : UInt8),
    (8 : UInt8), (8 : UInt8), (8 : UInt8), (8 : UInt8), (8 : UInt8), (8 : UInt8), (8 : UInt8), (8 : UInt8), (8 : UInt8), (8 : UInt8), (8 : UInt8), (8 : UInt8), (8 : UInt8), (8 : UInt8), (8 : UInt8), (8 : UInt8), (8 : UInt8), (8 : UInt8), (8 : UInt8), (8 : UInt8), (8 : UInt8), (8 : UInt8), (8 : UInt8),
    (8 : UInt8), (8 : UInt8), (8 : UInt8), (8 : UInt8), (8 : UInt8), (8 : UInt8), (8 : UInt8), (8 : UInt8), (8 : UInt8), (8 : UInt8), (8 : UInt8), (8 : UInt8), (8 : UInt8), (8 : UInt8), (8 : UInt8), (8 : UInt8), (8 : UInt8), (8 : UInt8), (8 : UInt8), (8 : UInt8), (8 : UInt8), (8 : UInt8), (8 : UInt8),
    (8 : UInt8), (8 : UInt8), (8 : UInt8), (8 : UInt8), (8 : UInt8), (8 : UInt8), (8 : UInt8), (8 : UInt8), (8 : UInt8), (8 : UInt8), (8 : UInt8), (8 : UInt8), (8 : UInt8), (8 : UInt8), (8 : UInt8), (8 : UInt8), (8 : UInt8), (8 : UInt8), (8 : UInt8), (8 : UInt8), (8 : UInt8), (8 : UInt8), (8 : UInt8),
    (8 : UInt8), (8 : UInt8), (8 : UInt8), (8 : UInt8), (8 : UInt8), (8 : UInt8), (8 : UInt8), (8 : UInt8), (8 : UInt8), (8 : UInt8), (8 : UInt8), (8 : UInt8), (8 : UInt8), (8 : UInt8), (8 : UInt8), (8 : UInt8), (8 : UInt8), (8 : UInt8), (8 : UInt8), (8 : UInt8), (8 : UInt8), (8 : UInt8), (8 : UInt8),
    (8 : UInt8), (8 : UInt8)] } }).getD
    (IntKind.u8.wrap (ishr IntKind.u64 (ishr IntKind.u64 (↑x : Int) (16 : Int)) (8 : Int))).toNat (0 : Int))))) =
    F
   | false =>
    True ∧
    True ∧
    True ∧
    ((0 : Int) ≤ IntKind.u8.wrap (ishr IntKind.u64 (↑x : Int) (16 : Int)) ∧
    IntKind.u8.wrap (ishr IntKind.u64 (↑x : Int) (16 : Int)) <
    (↑(ints
    {
    data :=
    {
    toList :=
    [(0 : UInt8), (1 : UInt8), (2 : UInt8), (2 : UInt8), (3 : UInt8), (3 : UInt8), (3 : UInt8), (3 : UInt8), (4 : UInt8), (4 : UInt8), (4 : UInt8), (4 : UInt8), (4 : UInt8), (4 : UInt8), (4 : UInt8), (4 : UInt8), (5 : UInt8), (5 : UInt8), (5 : UInt8), (5 : UInt8), (5 : UInt8), (5 : UInt8), (5 : UInt8), (5 : UInt8), (5 : UInt8), (5 : UInt8),
    (5 : UInt8), (5 : UInt8), (5 : UInt8), (5 : UInt8), (5 : UInt8), (5 : UInt8), (6 : UInt8), (6 : UInt8), (6 : UInt8), (6 : UInt8), (6 : UInt8), (6 : UInt8), (6 : UInt8), (6 : UInt8), (6 : UInt8), (6 : UInt8), (6 : UInt8), (6 : UInt8), (6 : UInt8), (6 : UInt8), (6 : UInt8), (6 : UInt8), (6 : UInt8), (6 : UInt8), (6 : UInt8),
    (6 : UInt8), (6 : UInt8), (6 : UInt8), (6 : UInt8), (6 : UInt8), (6 : UInt8), (6 : UInt8), (6 : UInt8), (6 : UInt8), (6 : UInt8), (6 : UInt8), (6 : UInt8), (6 : UInt8), (7 : UInt8), (7 : UInt8), (7 : UInt8), (7 : UInt8), (7 : UInt8), (7 : UInt8), (7 : UInt8), (7 : UInt8), (7 : UInt8), (7 : UInt8), (7 : UInt8), (7 : UInt8),
    (7 : UInt8), (7 : UInt8), (7 : UInt8), (7 : UInt8), (7 : UInt8), (7 : UInt8), (7 : UInt8), (7 : UInt8), (7 : UInt8), (7 : UInt8), (7 : UInt8), (7 : UInt8), (7 : UInt8), (7 : UInt8), (7 : UInt8), (7 : UInt8), (7 : UInt8), (7 : UInt8), (7 : UInt8), (7 : UInt8), (7 : UInt8), (7 : UInt8), (7 : UInt8), (7 : UInt8), (7 : UInt8),
    (7 : UInt8), (7 : UInt8), (7 : UInt8), (7 : UInt8), (7 : UInt8), (7 : UInt8), (7 : UInt8), (7 : UInt8), (7 : UInt8), (7 : UInt8), (7 : UInt8), (7 : UInt8), (7 : UInt8), (7 : UInt8), (7 : UInt8), (7 : UInt8), (7 : UInt8), (7 : UInt8), (7 : UInt8), (7 : UInt8), (7 : UInt8), (7 : UInt8), (7 : UInt8), (7 : UInt8), (7 : UInt8),
    (7 : UInt8), (7 : UInt8), (8 : UInt8), (8 : UInt8), (8 : UInt8), (8 : UInt8), (8 : UInt8), (8 : UInt8), (8 : UInt8), (8 : UInt8), (8 : UInt8), (8 : UInt8), (8 : UInt8), (8 : UInt8), (8 : UInt8), (8 : UInt8), (8 : UInt8), (8 : UInt8), (8 : UInt8), (8 : UInt8), (8 : UInt8), (8 : UInt8), (8 : UInt8), (8 : UInt8), (8 : UInt8),
    (8 : UInt8), (8 : UInt8), (8 : UInt8), (8 : UInt8), (8 : UInt8), (8 : UInt8), (8 : UInt8), (8 : UInt8), (8 : UInt8), (8 : UInt8), (8 : UInt8), (8 : UInt8), (8 : UInt8), (8 : UInt8), (8 : UInt8), (8 : UInt8), (8 : UInt8), (8 : UInt8), (8 : UInt8), (8 : UInt8), (8 : UInt8), (8 : UInt8), (8 : UInt8), (8 : UInt8), (8 : UInt8),
    (8 : UInt8), (8 : UInt8), (8 : UInt8), (8 : UInt8), (8 : UInt8), (8 : UInt8), (8 : UInt8), (8 : UInt8), (8 : UInt8), (8 : UInt8), (8 : UInt8), (8 : UInt8), (8 : UInt8), (8 : UInt8), (8 : UInt8), (8 : UInt8), (8 : UInt8), (8 : UInt8), (8 : UInt8), (8 : UInt8), (8 : UInt8), (8 : UInt8), (8 : UInt8), (8 : UInt8), (8 : UInt8),
    (8 : UInt8), (8 : UInt8), (8 : UInt8), (8 : UInt8), (8 : UInt8), (8 : UInt8), (8 : UInt8), (8 : UInt8), (8 : UInt8), (8 : UInt8), (8 : UInt8), (8 : UInt8), (8 : UInt8), (8 : UInt8), (8 : UInt8), (8 : UInt8), (8 : UInt8), (8 : UInt8), (8 : UInt8), (8 : UInt8), (8 : UInt8), (8 : UInt8), (8 : UInt8), (8 : UInt8), (8 : UInt8),
    (8 : UInt8), (8 : UInt8), (8 : UInt8), (8 : UInt8), (8 : UInt8), (8 : UInt8), (8 : UInt8), (8 : UInt8), (8 : UInt8), (8 : UInt8), (8 : UInt8), (8 : UInt8), (8 : UInt8), (8 : UInt8), (8 : UInt8), (8 : UInt8), (8 : UInt8), (8 : UInt8), (8 : UInt8), (8 : UInt8), (8 : UInt8), (8 : UInt8), (8 : UInt8), (8 : UInt8), (8 : UInt8),
    (8 : UInt8), (8 : UInt8), (8 : UInt8), (8 : UInt8), (8 : UInt8)] } }).length :
    Int)) ∧
    True ∧
    True ∧
    True ∧
    (false = false ∧ True) ∧
    D.val
    (Value.int IntKind.i64
    (IntKind.i64.wrap
    (IntKind.i64.wrap ((0 : Int) + (16 : Int)) +
    IntKind.i64.wrap
    ((ints
    {
    data :=
    {
    toList :=
    [(0 : UInt8), (1 : UInt8), (2 : UInt8), (2 : UInt8), (3 : UInt8), (3 : UInt8), (3 : UInt8), (3 : UInt8), (4 : UInt8), (4 : UInt8), (4 : UInt8), (4 : UInt8), (4 : UInt8), (4 : UInt8), (4 : UInt8), (4 : UInt8), (5 : UInt8), (5 : UInt8), (5 : UInt8), (5 : UInt8), (5 : UInt8), (5 : UInt8), (5 : UInt8), (5 : UInt8),
    (5 : UInt8), (5 : UInt8), (5 : UInt8), (5 : UInt8), (5 : UInt8), (5 : UInt8), (5 : UInt8), (5 : UInt8), (6 : UInt8), (6 : UInt8), (6 : UInt8), (6 : UInt8), (6 : UInt8), (6 : UInt8), (6 : UInt8), (6 : UInt8), (6 : UInt8), (6 : UInt8), (6 : UInt8), (6 : UInt8), (6 : UInt8), (6 : UInt8), (6 : UInt8), (6 : UInt8),
    (6 : UInt8), (6 : UInt8), (6 : UInt8), (6 : UInt8), (6 : UInt8), (6 : UInt8), (6 : UInt8), (6 : UInt8), (6 : UInt8), (6 : UInt8), (6 : UInt8), (6 : UInt8), (6 : UInt8), (6 : UInt8), (6 : UInt8), (6 : UInt8), (7 : UInt8), (7 : UInt8), (7 : UInt8), (7 : UInt8), (7 : UInt8), (7 : UInt8), (7 : UInt8), (7 : UInt8),
    (7 : UInt8), (7 : UInt8), (7 : UInt8), (7 : UInt8), (7 : UInt8), (7 : UInt8), (7 : UInt8), (7 : UInt8), (7 : UInt8), (7 : UInt8), (7 : UInt8), (7 : UInt8), (7 : UInt8), (7 : UInt8), (7 : UInt8), (7 : UInt8), (7 : UInt8), (7 : UInt8), (7 : UInt8), (7 : UInt8), (7 : UInt8), (7 : UInt8), (7 : UInt8), (7 : UInt8),
    (7 : UInt8), (7 : UInt8), (7 : UInt8), (7 : UInt8), (7 : UInt8), (7 : UInt8), (7 : UInt8), (7 : UInt8), (7 : UInt8), (7 : UInt8), (7 : UInt8), (7 : UInt8), (7 : UInt8), (7 : UInt8), (7 : UInt8), (7 : UInt8), (7 : UInt8), (7 : UInt8), (7 : UInt8), (7 : UInt8), (7 : UInt8), (7 : UInt8), (7 : UInt8), (7 : UInt8),
    (7 : UInt8), (7 : UInt8), (7 : UInt8), (7 : UInt8), (7 : UInt8), (7 : UInt8), (7 : UInt8), (7 : UInt8), (8 : UInt8), (8 : UInt8), (8 : UInt8), (8 : UInt8), (8 : UInt8), (8 : UInt8), (8 : UInt8), (8 : UInt8), (8 : UInt8), (8 : UInt8), (8 : UInt8), (8 : UInt8), (8 : UInt8), (8 : UInt8), (8 : UInt8), (8 : UInt8),
    (8 : UInt8), (8 : UInt8), (8 : UInt8), (8 : UInt8), (8 : UInt8), (8 : UInt8), (8 : UInt8), (8 : UInt8), (8 : UInt8), (8 : UInt8), (8 : UInt8), (8 : UInt8), (8 : UInt8), (8 : UInt8), (8 : UInt8), (8 : UInt8), (8 : UInt8), (8 : UInt8), (8 : UInt8), (8 : UInt8), (8 : UInt8), (8 : UInt8), (8 : UInt8), (8 : UInt8),
    (8 : UInt8), (8 : UInt8), (8 : UInt8), (8 : UInt8), (8 : UInt8), (8 : UInt8), (8 : UInt8), (8 : UInt8), (8 : UInt8), (8 : UInt8), (8 : UInt8), (8 : UInt8), (8 : UInt8), (8 : UInt8), (8 : UInt8), (8 : UInt8), (8 : UInt8), (8 : UInt8), (8 : UInt8), (8 : UInt8), (8 : UInt8), (8 : UInt8), (8 : UInt8), (8 : UInt8),
    (8 : UInt8), (8 : UInt8), (8 : UInt8), (8 : UInt8), (8 : UInt8), (8 : UInt8), (8 : UInt8), (8 : UInt8), (8 : UInt8), (8 : UInt8), (8 : UInt8), (8 : UInt8), (8 : UInt8), (8 : UInt8), (8 : UInt8), (8 : UInt8), (8 : UInt8), (8 : UInt8), (8 : UInt8), (8 : UInt8), (8 : UInt8), (8 : UInt8), (8 : UInt8), (8 : UInt8),
    (8 : UInt8), (8 : UInt8), (8 : UInt8), (8 : UInt8), (8 : UInt8), (8 : UInt8), (8 : UInt8), (8 : UInt8), (8 : UInt8), (8 : UInt8), (8 : UInt8), (8 : UInt8), (8 : UInt8), (8 : UInt8), (8 : UInt8), (8 : UInt8), (8 : UInt8), (8 : UInt8), (8 : UInt8), (8 : UInt8), (8 : UInt8), (8 : UInt8), (8 : UInt8), (8 : UInt8),
    (8 : UInt8), (8 : UInt8), (8 : UInt8), (8 : UInt8), (8 : UInt8), (8 : UInt8), (8 : UInt8), (8 : UInt8), (8 : UInt8), (8 : UInt8), (8 : UInt8), (8 : UInt8), (8 : UInt8), (8 : UInt8), (8 : UInt8), (8 : UInt8)] } }).getD
    (IntKind.u8.wrap (ishr IntKind.u64 (↑x : Int) (16 : Int))).toNat (0 : Int))))) =
    F
  | false =>
   True ∧
   True ∧
   match decide ((↑x : Int) ≥ (256 : Int)) with
   | true =>
    True ∧
    (0 : Int) ≤ (8 : Int) ∧
    True ∧
    True ∧
    True ∧
    True ∧
    True ∧
    True ∧
    True ∧
    ((0 : Int) ≤ IntKind.u8.wrap (ishr IntKind.u64 (↑x : Int) (8 : Int)) ∧
    IntKind.u8.wrap (ishr IntKind.u64 (↑x : Int) (8 : Int)) <
    (↑(ints
    {
    data :=
    {
    toList :=
    [(0 : UInt8), (1 : UInt8), (2 : UInt8), (2 : UInt8), (3 : UInt8), (3 : UInt8), (3 : UInt8), (3 : UInt8), (4 : UInt8), (4 : UInt8), (4 : UInt8), (4 : UInt8), (4 : UInt8), (4 : UInt8), (4 : UInt8), (4 : UInt8), (5 : UInt8), (5 : UInt8), (5 : UInt8), (5 : UInt8), (5 : UInt8), (5 : UInt8), (5 : UInt8), (5 : UInt8), (5 : UInt8), (5 : UInt8),
    (5 : UInt8), (5 : UInt8), (5 : UInt8), (5 : UInt8), (5 : UInt8), (5 : UInt8), (6 : UInt8), (6 : UInt8), (6 : UInt8), (6 : UInt8), (6 : UInt8), (6 : UInt8), (6 : UInt8), (6 : UInt8), (6 : UInt8), (6 : UInt8), (6 : UInt8), (6 : UInt8), (6 : UInt8), (6 : UInt8), (6 : UInt8), (6 : UInt8), (6 : UInt8), (6 : UInt8), (6 : UInt8),
    (6 : UInt8), (6 : UInt8), (6 : UInt8), (6 : UInt8), (6 : UInt8), (6 : UInt8), (6 : UInt8), (6 : UInt8), (6 : UInt8), (6 : UInt8), (6 : UInt8), (6 : UInt8), (6 : UInt8), (7 : UInt8), (7 : UInt8), (7 : UInt8), (7 : UInt8), (7 : UInt8), (7 : UInt8), (7 : UInt8), (7 : UInt8), (7 : UInt8), (7 : UInt8), (7 : UInt8), (7 : UInt8),
    (7 : UInt8), (7 : UInt8), (7 : UInt8), (7 : UInt8), (7 : UInt8), (7 : UInt8), (7 : UInt8), (7 : UInt8), (7 : UInt8), (7 : UInt8), (7 : UInt8), (7 : UInt8), (7 : UInt8), (7 : UInt8), (7 : UInt8), (7 : UInt8), (7 : UInt8), (7 : UInt8), (7 : UInt8), (7 : UInt8), (7 : UInt8), (7 : UInt8), (7 : UInt8), (7 : UInt8), (7 : UInt8),
    (7 : UInt8), (7 : UInt8), (7 : UInt8), (7 : UInt8), (7 : UInt8), (7 : UInt8), (7 : UInt8), (7 : UInt8), (7 : UInt8), (7 : UInt8), (7 : UInt8), (7 : UInt8), (7 : UInt8), (7 : UInt8), (7 : UInt8), (7 : UInt8), (7 : UInt8), (7 : UInt8), (7 : UInt8), (7 : UInt8), (7 : UInt8), (7 : UInt8), (7 : UInt8), (7 : UInt8), (7 : UInt8),
    (7 : UInt8), (7 : UInt8), (8 : UInt8), (8 : UInt8), (8 : UInt8), (8 : UInt8), (8 : UInt8), (8 : UInt8), (8 : UInt8), (8 : UInt8), (8 : UInt8), (8 : UInt8), (8 : UInt8), (8 : UInt8), (8 : UInt8), (8 : UInt8), (8 : UInt8), (8 : UInt8), (8 : UInt8), (8 : UInt8), (8 : UInt8), (8 : UInt8), (8 : UInt8), (8 : UInt8), (8 : UInt8),
    (8 : UInt8), (8 : UInt8), (8 : UInt8), (8 : UInt8), (8 : UInt8), (8 : UInt8), (8 : UInt8), (8 : UInt8), (8 : UInt8), (8 : UInt8), (8 : UInt8), (8 : UInt8), (8 : UInt8), (8 : UInt8), (8 : UInt8), (8 : UInt8), (8 : UInt8), (8 : UInt8), (8 : UInt8), (8 : UInt8), (8 : UInt8), (8 : UInt8), (8 : UInt8), (8 : UInt8), (8 : UInt8),
    (8 : UInt8), (8 : UInt8), (8 : UInt8), (8 : UInt8), (8 : UInt8), (8 : UInt8), (8 : UInt8), (8 : UInt8), (8 : UInt8), (8 : UInt8), (8 : UInt8), (8 : UInt8), (8 : UInt8), (8 : UInt8), (8 : UInt8), (8 : UInt8), (8 : UInt8), (8 : UInt8), (8 : UInt8), (8 : UInt8), (8 : UInt8), (8 : UInt8), (8 : UInt8), (8 : UInt8), (8 : UInt8),
    (8 : UInt8), (8 : UInt8), (8 : UInt8), (8 : UInt8), (8 : UInt8), (8 : UInt8), (8 : UInt8), (8 : UInt8), (8 : UInt8), (8 : UInt8), (8 : UInt8), (8 : UInt8), (8 : UInt8), (8 : UInt8), (8 : UInt8), (8 : UInt8), (8 : UInt8), (8 : UInt8), (8 : UInt8), (8 : UInt8), (8 : UInt8), (8 : UInt8), (8 : UInt8), (8 : UInt8), (8 : UInt8),
    (8 : UInt8), (8 : UInt8), (8 : UInt8), (8 : UInt8), (8 : UInt8), (8 : UInt8), (8 : UInt8), (8 : UInt8), (8 : UInt8), (8 : UInt8), (8 : UInt8), (8 : UInt8), (8 : UInt8), (8 : UInt8), (8 : UInt8), (8 : UInt8), (8 : UInt8), (8 : UInt8), (8 : UInt8), (8 : UInt8), (8 : UInt8), (8 : UInt8), (8 : UInt8), (8 : UInt8), (8 : UInt8),
    (8 : UInt8), (8 : UInt8), (8 : UInt8), (8 : UInt8), (8 : UInt8)] } }).length :
    Int)) ∧
    True ∧
    True ∧
    True ∧
    (false = false ∧ True) ∧
    D.val
    (Value.int IntKind.i64
    (IntKind.i64.wrap
    (IntKind.i64.wrap ((0 : Int) + (8 : Int)) +
    IntKind.i64.wrap
    ((ints
    {
    data :=
    {
    toList :=
    [(0 : UInt8), (1 : UInt8), (2 : UInt8), (2 : UInt8), (3 : UInt8), (3 : UInt8), (3 : UInt8), (3 : UInt8), (4 : UInt8), (4 : UInt8), (4 : UInt8), (4 : UInt8), (4 : UInt8), (4 : UInt8), (4 : UInt8), (4 : UInt8), (5 : UInt8), (5 : UInt8), (5 : UInt8), (5 : UInt8), (5 : UInt8), (5 : UInt8), (5 : UInt8), (5 : UInt8),
    (5 : UInt8), (5 : UInt8), (5 : UInt8), (5 : UInt8), (5 : UInt8), (5 : UInt8), (5 : UInt8), (5 : UInt8), (6 : UInt8), (6 : UInt8), (6 : UInt8), (6 : UInt8), (6 : UInt8), (6 : UInt8), (6 : UInt8), (6 : UInt8), (6 : UInt8), (6 : UInt8), (6 : UInt8), (6 : UInt8), (6 : UInt8), (6 : UInt8), (6 : UInt8), (6 : UInt8),
    (6 : UInt8), (6 : UInt8), (6 : UInt8), (6 : UInt8), (6 : UInt8), (6 : UInt8), (6 : UInt8), (6 : UInt8), (6 : UInt8), (6 : UInt8), (6 : UInt8), (6 : UInt8), (6 : UInt8), (6 : UInt8), (6 : UInt8), (6 : UInt8), (7 : UInt8), (7 : UInt8), (7 : UInt8), (7 : UInt8), (7 : UInt8), (7 : UInt8), (7 : UInt8), (7 : UInt8),
    (7 : UInt8), (7 : UInt8), (7 : UInt8), (7 : UInt8), (7 : UInt8), (7 : UInt8), (7 : UInt8), (7 : UInt8), (7 : UInt8), (7 : UInt8), (7 : UInt8), (7 : UInt8), (7 : UInt8), (7 : UInt8), (7 : UInt8), (7 : UInt8), (7 : UInt8), (7 : UInt8), (7 : UInt8), (7 : UInt8), (7 : UInt8), (7 : UInt8), (7 : UInt8), (7 : UInt8),
    (7 : UInt8), (7 : UInt8), (7 : UInt8), (7 : UInt8), (7 : UInt8), (7 : UInt8), (7 : UInt8), (7 : UInt8), (7 : UInt8), (7 : UInt8), (7 : UInt8), (7 : UInt8), (7 : UInt8), (7 : UInt8), (7 : UInt8), (7 : UInt8), (7 : UInt8), (7 : UInt8), (7 : UInt8), (7 : UInt8), (7 : UInt8), (7 : UInt8), (7 : UInt8), (7 : UInt8),
    (7 : UInt8), (7 : UInt8), (7 : UInt8), (7 : UInt8), (7 : UInt8), (7 : UInt8), (7 : UInt8), (7 : UInt8), (8 : UInt8), (8 : UInt8), (8 : UInt8), (8 : UInt8), (8 : UInt8), (8 : UInt8), (8 : UInt8), (8 : UInt8), (8 : UInt8), (8 : UInt8), (8 : UInt8), (8 : UInt8), (8 : UInt8), (8 : UInt8), (8 : UInt8), (8 : UInt8),
    (8 : UInt8), (8 : UInt8), (8 : UInt8), (8 : UInt8), (8 : UInt8), (8 : UInt8), (8 : UInt8), (8 : UInt8), (8 : UInt8), (8 : UInt8), (8 : UInt8), (8 : UInt8), (8 : UInt8), (8 : UInt8), (8 : UInt8), (8 : UInt8), (8 : UInt8), (8 : UInt8), (8 : UInt8), (8 : UInt8), (8 : UInt8), (8 : UInt8), (8 : UInt8), (8 : UInt8),
    (8 : UInt8), (8 : UInt8), (8 : UInt8), (8 : UInt8), (8 : UInt8), (8 : UInt8), (8 : UInt8), (8 : UInt8), (8 : UInt8), (8 : UInt8), (8 : UInt8), (8 : UInt8), (8 : UInt8), (8 : UInt8), (8 : UInt8), (8 : UInt8), (8 : UInt8), (8 : UInt8), (8 : UInt8), (8 : UInt8), (8 : UInt8), (8 : UInt8), (8 : UInt8), (8 : UInt8),
    (8 : UInt8), (8 : UInt8), (8 : UInt8), (8 : UInt8), (8 : UInt8), (8 : UInt8), (8 : UInt8), (8 : UInt8), (8 : UInt8), (8 : UInt8), (8 : UInt8), (8 : UInt8), (8 : UInt8), (8 : UInt8), (8 : UInt8), (8 : UInt8), (8 : UInt8), (8 : UInt8), (8 : UInt8), (8 : UInt8), (8 : UInt8), (8 : UInt8), (8 : UInt8), (8 : UInt8),
    (8 : UInt8), (8 : UInt8), (8 : UInt8), (8 : UInt8), (8 : UInt8), (8 : UInt8), (8 : UInt8), (8 : UInt8), (8 : UInt8), (8 : UInt8), (8 : UInt8), (8 : UInt8), (8 : UInt8), (8 : UInt8), (8 : UInt8), (8 : UInt8), (8 : UInt8), (8 : UInt8), (8 : UInt8), (8 : UInt8), (8 : UInt8), (8 : UInt8), (8 : UInt8), (8 : UInt8),
    (8 : UInt8), (8 : UInt8), (8 : UInt8), (8 : UInt8), (8 : UInt8), (8 : UInt8), (8 : UInt8), (8 : UInt8), (8 : UInt8), (8 : UInt8), (8 : UInt8), (8 : UInt8), (8 : UInt8), (8 : UInt8), (8 : UInt8), (8 : UInt8)] } }).getD
    (IntKind.u8.wrap (ishr IntKind.u64 (↑x : Int) (8 : Int))).toNat (0 : Int))))) =
    F
   | false =>
    True ∧
    True ∧
    True ∧
    ((0 : Int) ≤ IntKind.u8.wrap (↑x : Int) ∧
    IntKind.u8.wrap (↑x : Int) <
    (↑(ints
    {
    data :=
    {
    toList :=
    [(0 : UInt8), (1 : UInt8), (2 : UInt8), (2 : UInt8), (3 : UInt8), (3 : UInt8), (3 : UInt8), (3 : UInt8), (4 : UInt8), (4 : UInt8), (4 : UInt8), (4 : UInt8), (4 : UInt8), (4 : UInt8), (4 : UInt8), (4 : UInt8), (5 : UInt8), (5 : UInt8), (5 : UInt8), (5 : UInt8), (5 : UInt8), (5 : UInt8), (5 : UInt8), (5 : UInt8), (5 : UInt8), (5 : UInt8),
    (5 : UInt8), (5 : UInt8), (5 : UInt8), (5 : UInt8), (5 : UInt8), (5 : UInt8), (6 : UInt8), (6 : UInt8), (6 : UInt8), (6 : UInt8), (6 : UInt8), (6 : UInt8), (6 : UInt8), (6 : UInt8), (6 : UInt8), (6 : UInt8), (6 : UInt8), (6 : UInt8), (6 : UInt8), (6 : UInt8), (6 : UInt8), (6 : UInt8), (6 : UInt8), (6 : UInt8), (6 : UInt8), (6 : UInt8),
    (6 : UInt8), (6 : UInt8), (6 : UInt8), (6 : UInt8), (6 : UInt8), (6 : UInt8), (6 : UInt8), (6 : UInt8), (6 : UInt8), (6 : UInt8), (6 : UInt8), (6 : UInt8), (7 : UInt8), (7 : UInt8), (7 : UInt8), (7 : UInt8), (7 : UInt8), (7 : UInt8), (7 : UInt8), (7 : UInt8), (7 : UInt8), (7 : UInt8), (7 : UInt8), (7 : UInt8), (7 : UInt8), (7 : UInt8),
    (7 : UInt8), (7 : UInt8), (7 : UInt8), (7 : UInt8), (7 : UInt8), (7 : UInt8), (7 : UInt8), (7 : UInt8), (7 : UInt8), (7 : UInt8), (7 : UInt8), (7 : UInt8), (7 : UInt8), (7 : UInt8), (7 : UInt8), (7 : UInt8), (7 : UInt8), (7 : UInt8), (7 : UInt8), (7 : UInt8), (7 : UInt8), (7 : UInt8), (7 : UInt8), (7 : UInt8), (7 : UInt8), (7 : UInt8),
    (7 : UInt8), (7 : UInt8), (7 : UInt8), (7 : UInt8), (7 : UInt8), (7 : UInt8), (7 : UInt8), (7 : UInt8), (7 : UInt8), (7 : UInt8), (7 : UInt8), (7 : UInt8), (7 : UInt8), (7 : UInt8), (7 : UInt8), (7 : UInt8), (7 : UInt8), (7 : UInt8), (7 : UInt8), (7 : UInt8), (7 : UInt8), (7 : UInt8), (7 : UInt8), (7 : UInt8), (8 : UInt8), (8 : UInt8),
    (8 : UInt8), (8 : UInt8), (8 : UInt8), (8 : UInt8), (8 : UInt8), (8 : UInt8), (8 : UInt8), (8 : UInt8), (8 : UInt8), (8 : UInt8), (8 : UInt8), (8 : UInt8), (8 : UInt8), (8 : UInt8), (8 : UInt8), (8 : UInt8), (8 : UInt8), (8 : UInt8), (8 : UInt8), (8 : UInt8), (8 : UInt8), (8 : UInt8), (8 : UInt8), (8 : UInt8), (8 : UInt8), (8 : UInt8),
    (8 : UInt8), (8 : UInt8), (8 : UInt8), (8 : UInt8), (8 : UInt8), (8 : UInt8), (8 : UInt8), (8 : UInt8), (8 : UInt8), (8 : UInt8), (8 : UInt8), (8 : UInt8), (8 : UInt8), (8 : UInt8), (8 : UInt8), (8 : UInt8), (8 : UInt8), (8 : UInt8), (8 : UInt8), (8 : UInt8), (8 : UInt8), (8 : UInt8), (8 : UInt8), (8 : UInt8), (8 : UInt8), (8 : UInt8),
    (8 : UInt8), (8 : UInt8), (8 : UInt8), (8 : UInt8), (8 : UInt8), (8 : UInt8), (8 : UInt8), (8 : UInt8), (8 : UInt8), (8 : UInt8), (8 : UInt8), (8 : UInt8), (8 : UInt8), (8 : UInt8), (8 : UInt8), (8 : UInt8), (8 : UInt8), (8 : UInt8), (8 : UInt8), (8 : UInt8), (8 : UInt8), (8 : UInt8), (8 : UInt8), (8 : UInt8), (8 : UInt8), (8 : UInt8),
    (8 : UInt8), (8 : UInt8), (8 : UInt8), (8 : UInt8), (8 : UInt8), (8 : UInt8), (8 : UInt8), (8 : UInt8), (8 : UInt8), (8 : UInt8), (8 : UInt8), (8 : UInt8), (8 : UInt8), (8 : UInt8), (8 : UInt8), (8 : UInt8), (8 : UInt8), (8 : UInt8), (8 : UInt8), (8 : UInt8), (8 : UInt8), (8 : UInt8), (8 : UInt8), (8 : UInt8), (8 : UInt8), (8 : UInt8),
    (8 : UInt8), (8 : UInt8), (8 : UInt8), (8 : UInt8), (8 : UInt8), (8 : UInt8), (8 : UInt8), (8 : UInt8), (8 : UInt8), (8 : UInt8), (8 : UInt8), (8 : UInt8), (8 : UInt8), (8 : UInt8), (8 : UInt8), (8 : UInt8), (8 : UInt8), (8 : UInt8), (8 : UInt8), (8 : UInt8), (8 : UInt8), (8 : UInt8)] } }).length :
    Int)) ∧
    True ∧
    True ∧
    True ∧
    (false = false ∧ True) ∧
    D.val
    (Value.int IntKind.i64
    (IntKind.i64.wrap
    ((0 : Int) +
    IntKind.i64.wrap
    ((ints
    {
    data :=
    {
    toList :=
    [(0 : UInt8), (1 : UInt8), (2 : UInt8), (2 : UInt8), (3 : UInt8), (3 : UInt8), (3 : UInt8), (3 : UInt8), (4 : UInt8), (4 : UInt8), (4 : UInt8), (4 : UInt8), (4 : UInt8), (4 : UInt8), (4 : UInt8), (4 : UInt8), (5 : UInt8), (5 : UInt8), (5 : UInt8), (5 : UInt8), (5 : UInt8), (5 : UInt8), (5 : UInt8), (5 : UInt8), (5 : UInt8),
    (5 : UInt8), (5 : UInt8), (5 : UInt8), (5 : UInt8), (5 : UInt8), (5 : UInt8), (5 : UInt8), (6 : UInt8), (6 : UInt8), (6 : UInt8), (6 : UInt8), (6 : UInt8), (6 : UInt8), (6 : UInt8), (6 : UInt8), (6 : UInt8), (6 : UInt8), (6 : UInt8), (6 : UInt8), (6 : UInt8), (6 : UInt8), (6 : UInt8), (6 : UInt8), (6 : UInt8), (6 : UInt8),
    (6 : UInt8), (6 : UInt8), (6 : UInt8), (6 : UInt8), (6 : UInt8), (6 : UInt8), (6 : UInt8), (6 : UInt8), (6 : UInt8), (6 : UInt8), (6 : UInt8), (6 : UInt8), (6 : UInt8), (6 : UInt8), (7 : UInt8), (7 : UInt8), (7 : UInt8), (7 : UInt8), (7 : UInt8), (7 : UInt8), (7 : UInt8), (7 : UInt8), (7 : UInt8), (7 : UInt8), (7 : UInt8),
    (7 : UInt8), (7 : UInt8), (7 : UInt8), (7 : UInt8), (7 : UInt8), (7 : UInt8), (7 : UInt8), (7 : UInt8), (7 : UInt8), (7 : UInt8), (7 : UInt8), (7 : UInt8), (7 : UInt8), (7 : UInt8), (7 : UInt8), (7 : UInt8), (7 : UInt8), (7 : UInt8), (7 : UInt8), (7 : UInt8), (7 : UInt8), (7 : UInt8), (7 : UInt8), (7 : UInt8), (7 : UInt8),
    (7 : UInt8), (7 : UInt8), (7 : UInt8), (7 : UInt8), (7 : UInt8), (7 : UInt8), (7 : UInt8), (7 : UInt8), (7 : UInt8), (7 : UInt8), (7 : UInt8), (7 : UInt8), (7 : UInt8), (7 : UInt8), (7 : UInt8), (7 : UInt8), (7 : UInt8), (7 : UInt8), (7 : UInt8), (7 : UInt8), (7 : UInt8), (7 : UInt8), (7 : UInt8), (7 : UInt8), (7 : UInt8),
    (7 : UInt8), (7 : UInt8), (7 : UInt8), (8 : UInt8), (8 : UInt8), (8 : UInt8), (8 : UInt8), (8 : UInt8), (8 : UInt8), (8 : UInt8), (8 : UInt8), (8 : UInt8), (8 : UInt8), (8 : UInt8), (8 : UInt8), (8 : UInt8), (8 : UInt8), (8 : UInt8), (8 : UInt8), (8 : UInt8), (8 : UInt8), (8 : UInt8), (8 : UInt8), (8 : UInt8), (8 : UInt8),
    (8 : UInt8), (8 : UInt8), (8 : UInt8), (8 : UInt8), (8 : UInt8), (8 : UInt8), (8 : UInt8), (8 : UInt8), (8 : UInt8), (8 : UInt8), (8 : UInt8), (8 : UInt8), (8 : UInt8), (8 : UInt8), (8 : UInt8), (8 : UInt8), (8 : UInt8), (8 : UInt8), (8 : UInt8), (8 : UInt8), (8 : UInt8), (8 : UInt8), (8 : UInt8), (8 : UInt8), (8 : UInt8),
    (8 : UInt8), (8 : UInt8), (8 : UInt8), (8 : UInt8), (8 : UInt8), (8 : UInt8), (8 : UInt8), (8 : UInt8), (8 : UInt8), (8 : UInt8), (8 : UInt8), (8 : UInt8), (8 : UInt8), (8 : UInt8), (8 : UInt8), (8 : UInt8), (8 : UInt8), (8 : UInt8), (8 : UInt8), (8 : UInt8), (8 : UInt8), (8 : UInt8), (8 : UInt8), (8 : UInt8), (8 : UInt8),
    (8 : UInt8), (8 : UInt8), (8 : UInt8), (8 : UInt8), (8 : UInt8), (8 : UInt8), (8 : UInt8), (8 : UInt8), (8 : UInt8), (8 : UInt8), (8 : UInt8), (8 : UInt8), (8 : UInt8), (8 : UInt8), (8 : UInt8), (8 : UInt8), (8 : UInt8), (8 : UInt8), (8 : UInt8), (8 : UInt8), (8 : UInt8), (8 : UInt8), (8 : UInt8), (8 : UInt8), (8 : UInt8),
    (8 : UInt8), (8 : UInt8), (8 : UInt8), (8 : UInt8), (8 : UInt8), (8 : UInt8), (8 : UInt8), (8 : UInt8), (8 : UInt8), (8 : UInt8), (8 : UInt8), (8 : UInt8), (8 : UInt8), (8 : UInt8), (8 : UInt8), (8 : UInt8), (8 : UInt8), (8 : UInt8), (8 : UInt8), (8 : UInt8), (8 : UInt8), (8 : UInt8), (8 : UInt8), (8 : UInt8), (8 : UInt8),
    (8 : UInt8), (8 : UInt8), (8 : UInt8), (8 : UInt8), (8 : UInt8), (8 : UInt8)] } }).getD
    (IntKind.u8.wrap (↑x : Int)).toNat (0 : Int))))) =
    F) := by kernel_rfl
end Go.Proofs.YtkicjckhkefnpaaDoor
namespace Go.Proofs.YtkicjckhkefnpaaDoor
open Go Go.Vg
theorem bl2_log {x n : Nat} (h1 : 2 ^ n ≤ x) (h2 : x < 2 ^ (n + 1)) : bl2 x = n + 1 := by
 have h0 : x ≠ 0 := by have := Nat.two_pow_pos n; omega
 unfold bl2
 rw [if_neg h0, (Nat.log2_eq_iff h0).2 ⟨h1, h2⟩]
theorem bl2_up {lo y k : Nat} (hlo : lo < 2 ^ k) (hy : y ≠ 0) : bl2 (lo + 2 ^ k * y) = k + bl2 y := by
 have h1 := Nat.log2_self_le hy
 have h2 := Nat.lt_log2_self (n := y)
 have e : bl2 y = Nat.log2 y + 1 := if_neg hy
 rw [e, ← Nat.add_assoc]
 apply bl2_log
 ·rw [Nat.pow_add]
  have := Nat.mul_le_mul_left (2 ^ k) h1
  omega
 ·rw [Nat.add_assoc, Nat.pow_add]
  have := Nat.mul_le_mul_left (2 ^ k) (show y + 1 ≤ 2 ^ (Nat.log2 y + 1) from h2)
  rw [Nat.mul_add, Nat.mul_one] at this
  omega
theorem bl2_div {x k : Nat} (h : 2 ^ k ≤ x) : bl2 x = k + bl2 (x / 2 ^ k) := by
 have hp : 0 < 2 ^ k := Nat.two_pow_pos k
 have h1 : x / 2 ^ k ≠ 0 := by
  have := Nat.div_pos h hp
  omega
 have h2 := bl2_up (Nat.mod_lt x hp) h1
 rw [Nat.mod_add_div] at h2
 exact h2
def lenTab : List Int := (List.range 256).map fun n => (bl2 n : Int)
theorem tab_eq : ints { data := { toList := [(0 : UInt8), (1 : UInt8), (2 : UInt8), (2 : UInt8), (3 : UInt8), (3 : UInt8), (3 : UInt8), (3 : UInt8), (4 : UInt8), (4 : UInt8), (4 : UInt8), (4 : UInt8), (4 : UInt8), (4 : UInt8), (4 : UInt8), (4 : UInt8), (5 : UInt8), (5 : UInt8), (5 : UInt8), (5 : UInt8), (5 : UInt8), (5 : UInt8), (5 : UInt8), (5 : UInt8), (5 : UInt8), (5 : UInt8), (5 : UInt8), (5 : UInt8), (5 : UInt8), (5 : UInt8), (5 : UInt8), (5 : UInt8), (6 : UInt8), (6 : UInt8), (6 : UInt8), (6 : UInt8), (6 : UInt8), (6 : UInt8), (6 : UInt8), (6 : UInt8), (6 : UInt8), (6 : UInt8), (6 : UInt8), (6 : UInt8), (6 : UInt8), (6 : UInt8), (6 : UInt8), (6 : UInt8), (6 : UInt8), (6 : UInt8), (6 : UInt8), (6 : UInt8), (6 : UInt8), (6 : UInt8), (6 : UInt8), (6 : UInt8), (6 : UInt8), (6 : UInt8), (6 : UInt8), (6 : UInt8), (6 : UInt8), (6 : UInt8), (6 : UInt8), (6 : UInt8), (7 : UInt8), (7 : UInt8), (7 : UInt8), (7 : UInt8), (7 : UInt8), (7 : UInt8), (7 : UInt8), (7 : UInt8), (7 : UInt8), (7 : UInt8), (7 : UInt8), (7 : UInt8), (7 : UInt8), (7 : UInt8), (7 : UInt8), (7 : UInt8), (7 : UInt8), (7 : UInt8), (7 : UInt8), (7 : UInt8), (7 : UInt8), (7 : UInt8), (7 : UInt8), (7 : UInt8), (7 : UInt8), (7 : UInt8), (7 : UInt8), (7 : UInt8), (7 : UInt8), (7 : UInt8), (7 : UInt8), (7 : UInt8), (7 : UInt8), (7 : UInt8), (7 : UInt8), (7 : UInt8), (7 : UInt8), (7 : UInt8), (7 : UInt8), (7 : UInt8), (7 : UInt8), (7 : UInt8), (7 : UInt8), (7 : UInt8), (7 : UInt8), (7 : UInt8), (7 : UInt8), (7 : UInt8), (7 : UInt8), (7 : UInt8), (7 : UInt8), (7 : UInt8), (7 : UInt8), (7 : UInt8), (7 : UInt8), (7 : UInt8), (7 : UInt8), (7 : UInt8), (7 : UInt8), (7 : UInt8), (7 : UInt8), (7 : UInt8), (7 : UInt8), (7 : UInt8), (8 : UInt8), (8 : UInt8), (8 : UInt8), (8 : UInt8), (8 : UInt8), (8 : UInt8), (8 : UInt8), (8 : UInt8), (8 : UInt8), (8 : UInt8), (8 : UInt8), (8 : UInt8), (8 : UInt8), (8 : UInt8), (8 : UInt8), (8 : UInt8), (8 : UInt8), (8 : UInt8), (8 : UInt8), (8 : UInt8), (8 : UInt8), (8 : UInt8), (8 : UInt8), (8 : UInt8), (8 : UInt8), (8 : UInt8), (8 : UInt8), (8 : UInt8), (8 : UInt8), (8 : UInt8), (8 : UInt8), (8 : UInt8), (8 : UInt8), (8 : UInt8), (8 : UInt8), (8 : UInt8), (8 : UInt8), (8 : UInt8), (8 : UInt8), (8 : UInt8), (8 : UInt8), (8 : UInt8), (8 : UInt8), (8 : UInt8), (8 : UInt8), (8 : UInt8), (8 : UInt8), (8 : UInt8), (8 : UInt8), (8 : UInt8), (8 : UInt8), (8 : UInt8), (8 : UInt8), (8 : UInt8), (8 : UInt8), (8 : UInt8), (8 : UInt8), (8 : UInt8), (8 : UInt8), (8 : UInt8), (8 : UInt8), (8 : UInt8), (8 : UInt8), (8 : UInt8), (8 : UInt8), (8 : UInt8), (8 : UInt8), (8 : UInt8), (8 : UInt8), (8 : UInt8), (8 : UInt8), (8 : UInt8), (8 : UInt8), (8 : UInt8), (8 : UInt8), (8 : UInt8), (8 : UInt8), (8 : UInt8), (8 : UInt8), (8 : UInt8), (8 : UInt8), (8 : UInt8), (8 : UInt8), (8 : UInt8), (8 : UInt8), (8 : UInt8), (8 : UInt8), (8 : UInt8), (8 : UInt8), (8 : UInt8), (8 : UInt8), (8 : UInt8), (8 : UInt8), (8 : UInt8), (8 : UInt8), (8 : UInt8), (8 : UInt8), (8 : UInt8), (8 : UInt8), (8 : UInt8), (8 : UInt8), (8 : UInt8), (8 : UInt8), (8 : UInt8), (8 : UInt8), (8 : UInt8), (8 : UInt8), (8 : UInt8), (8 : UInt8), (8 : UInt8), (8 : UInt8), (8 : UInt8), (8 : UInt8), (8 : UInt8), (8 : UInt8), (8 : UInt8), (8 : UInt8), (8 : UInt8), (8 : UInt8), (8 : UInt8), (8 : UInt8), (8 : UInt8), (8 : UInt8), (8 : UInt8), (8 : UInt8), (8 : UInt8), (8 : UInt8), (8 : UInt8)] } } = lenTab := by decide +kernel
theorem tab_get {y : Nat} (h : y < 256) : lenTab.getD y 0 = ((bl2 y : Nat) : Int) := by
 unfold lenTab
 rw [List.getD_eq_getElem?_getD, List.getElem?_map, List.getElem?_range h]
 rfl
theorem bl2_small {y : Nat} (h : y < 256) : bl2 y ≤ 8 := by
 unfold bl2
 split
 ·omega
 ·have := (Nat.log2_lt (k := 8) (by omega)).2 h
  omega
theorem leaf {y : Nat} (h : y < 256) (n : Int) (h0 : 0 ≤ n) (h1 : n ≤ 56) : (0 ≤ IntKind.u8.wrap (y : Int) ∧ IntKind.u8.wrap (y : Int) < (lenTab.length : Int)) ∧
  IntKind.i64.wrap (n + IntKind.i64.wrap (lenTab.getD (IntKind.u8.wrap (y : Int)).toNat 0)) = n + ((bl2 y : Nat) : Int) := by
 have hl : lenTab.length = 256 := by unfold lenTab; rw [List.length_map, List.length_range]
 have hs := bl2_small h
 rw [wN8, Nat.mod_eq_of_lt h, Int.toNat_natCast, tab_get h, hl, wi (n := ((bl2 y : Nat) : Int)) (by omega) (by omega), wi (by omega) (by omega)]
 omega
theorem i64e {a b : Int} (h : a = b) : D.val (Value.int .i64 a) = D.val (Value.int .i64 b) := by rw [h]
set_option maxRecDepth 100000 in
theorem m122 : Meets Tryd.prog 122 sp122 := by
 refine meets_of_owed (C := c105) ⟨tab_ok, fun f s h => by cases h⟩ (by kernel_rfl) (by kernel_rfl : Tryd.prog.funcs[122]? = some Tryd.f122) (by kernel_rfl) (by kernel_rfl) (by kernel_rfl) _ ?_
 rintro _ ⟨x, rfl, hx⟩
 refine ⟨fun _ => rfl, fun _ => none, ?_⟩
 show owed c105 (fun _ => none) Tryd.f122 [u64n x] (i64n (bl2 x))
 rw [vc122]
 have hx : x < 18446744073709551616 := hx
 have s32 : ∀ y : Nat, ishr .u64 (y : Int) 32 = ((y / 4294967296 : Nat) : Int) := fun y => ishrN .u64 (a := y) (m := 32) (by decide)
 have s16 : ∀ y : Nat, ishr .u64 (y : Int) 16 = ((y / 65536 : Nat) : Int) := fun y => ishrN .u64 (a := y) (m := 16) (by decide)
 have s8 : ∀ y : Nat, ishr .u64 (y : Int) 8 = ((y / 256 : Nat) : Int) := fun y => ishrN .u64 (a := y) (m := 8) (by decide)
 have c1x : IntKind.i64.wrap (32 + 16) = 48 := by decide
 have c2x : IntKind.i64.wrap (48 + 8) = 56 := by decide
 have c3xx : IntKind.i64.wrap (32 + 8) = 40 := by decide
 have c4xx : IntKind.i64.wrap (0 + 16) = 16 := by decide
 have c5xx : IntKind.i64.wrap (16 + 8) = 24 := by decide
 have c6xx : IntKind.i64.wrap (0 + 8) = 8 := by decide
 have d32 : ∀ {y : Nat}, 4294967296 ≤ y → bl2 y = 32 + bl2 (y / 4294967296) := fun {y} h => bl2_div (k := 32) h
 have d16 : ∀ {y : Nat}, 65536 ≤ y → bl2 y = 16 + bl2 (y / 65536) := fun {y} h => bl2_div (k := 16) h
 have d8 : ∀ {y : Nat}, 256 ≤ y → bl2 y = 8 + bl2 (y / 256) := fun {y} h => bl2_div (k := 8) h
 simp (decide := true) only [tab_eq, s32, s16, s8, c1x, c2x, c3xx, c4xx, c5xx, c6xx, eq_self, true_and, and_true, ne_eq, not_false_eq_true]
 split
 ·rename_i h1
  have h1 : 4294967296 ≤ x := by have := of_decide_eq_true h1; omega
  rw [d32 h1]
  split
  ·rename_i h2
   have h2 : 65536 ≤ x / 4294967296 := by have := of_decide_eq_true h2; omega
   rw [d16 h2]
   split
   ·rename_i h3
    have h3 : 256 ≤ x / 4294967296 / 65536 := by have := of_decide_eq_true h3; omega
    rw [d8 h3]
    obtain ⟨l1, l2⟩ := leaf (y := x / 4294967296 / 65536 / 256) (by omega) 56 (by omega) (by omega)
    exact ⟨l1, i64e (by rw [l2]; omega)⟩
   ·rename_i h3
    have h3 := of_decide_eq_false h3
    obtain ⟨l1, l2⟩ := leaf (y := x / 4294967296 / 65536) (by omega) 48 (by omega) (by omega)
    exact ⟨l1, i64e (by rw [l2]; omega)⟩
  ·rename_i h2
   have h2 := of_decide_eq_false h2
   split
   ·rename_i h3
    have h3 : 256 ≤ x / 4294967296 := by have := of_decide_eq_true h3; omega
    rw [d8 h3]
    obtain ⟨l1, l2⟩ := leaf (y := x / 4294967296 / 256) (by omega) 40 (by omega) (by omega)
    exact ⟨l1, i64e (by rw [l2]; omega)⟩
   ·rename_i h3
    have h3 := of_decide_eq_false h3
    obtain ⟨l1, l2⟩ := leaf (y := x / 4294967296) (by omega) 32 (by omega) (by omega)
    exact ⟨l1, i64e (by rw [l2]; omega)⟩
 ·rename_i h1
  have h1 := of_decide_eq_false h1
  split
  ·rename_i h2
   have h2 : 65536 ≤ x := by have := of_decide_eq_true h2; omega
   rw [d16 h2]
   split
   ·rename_i h3
    have h3 : 256 ≤ x / 65536 := by have := of_decide_eq_true h3; omega
    rw [d8 h3]
    obtain ⟨l1, l2⟩ := leaf (y := x / 65536 / 256) (by omega) 24 (by omega) (by omega)
    exact ⟨l1, i64e (by rw [l2]; omega)⟩
   ·rename_i h3
    have h3 := of_decide_eq_false h3
    obtain ⟨l1, l2⟩ := leaf (y := x / 65536) (by omega) 16 (by omega) (by omega)
    exact ⟨l1, i64e (by rw [l2]; omega)⟩
  ·rename_i h2
   have h2 := of_decide_eq_false h2
   split
   ·rename_i h3
    have h3 : 256 ≤ x := by have := of_decide_eq_true h3; omega
    rw [d8 h3]
    obtain ⟨l1, l2⟩ := leaf (y := x / 256) (by omega) 8 (by omega) (by omega)
    exact ⟨l1, i64e (by rw [l2]; omega)⟩
   ·rename_i h3
    have h3 := of_decide_eq_false h3
    obtain ⟨l1, l2⟩ := leaf (y := x) (by omega) 0 (by omega) (by omega)
    exact ⟨l1, i64e (by rw [l2]; omega)⟩
set_option maxRecDepth 100000 in
theorem m94 : Meets Tryd.prog 94 sp94 := by
 refine meets_of_owed (C := c94) ⟨tab_ok, lkS_ok ⟨m122, trivial⟩⟩ (by kernel_rfl) (by kernel_rfl : Tryd.prog.funcs[94]? = some Tryd.f94) (by kernel_rfl) (by kernel_rfl) (by kernel_rfl) _ ?_
 rintro _ ⟨l, rfl, hl⟩
 refine ⟨fun _ => rfl, inv94 l, ?_⟩
 show owed c94 (inv94 l) Tryd.f94 [num4 l] (i64n (bl2 (wv l)))
 rw [vc94]
 have hl4 := hl.2
 have h4 : List.drop (Int.toNat (3 + 1)) l = [] := List.drop_of_length_le (by rw [hl4]; decide)
 rw [h4]
 simp (decide := true) only [eq_self, true_and, and_true, ne_eq, not_false_eq_true]
 rintro i ⟨⟨hi1, hi2⟩, hz⟩
 split
 ·rename_i h
  have h := of_decide_eq_true h
  obtain ⟨n, rfl⟩ := Int.eq_ofNat_of_zero_le (a := i) (by omega)
  have e1 : (((n : Nat) : Int) + 1).toNat = n + 1 := by omega
  rw [e1] at hz
  obtain ⟨x, ex, hx⟩ := okw_get hl.1 (i := n) (by omega)
  obtain ⟨A, hA, hV⟩ := vB_cut hl.1 (i := n) (by omega) ex
  rw [hz, Nat.mul_zero, Nat.add_zero] at hV
  rw [Int.toNat_natCast, ex]
  split
  ·rename_i h2
   have h2 : x ≠ 0 := by
    rintro rfl
    cases h2
   have hb := bl2_up (lo := A) (y := x) (k := 64 * n) (by rw [← B_pow]; exact hA) h2
   rw [← B_pow, ← hV] at hb
   have hx2 : bl2 x ≤ 64 := by
    have := (Nat.log2_lt (n := x) (k := 64) h2).2 hx
    unfold bl2
    rw [if_neg h2]
    omega
   rw [Int.toNat_natCast, hb, wi (n := 64 * ((n : Nat) : Int)) (by omega) (by omega), wi (by omega) (by omega)]
   refine ⟨by omega, by omega, ⟨x, rfl, hx⟩, i64e (by omega)⟩
  ·rename_i h2
   have h2 : x = 0 := by
    have := bne_eq_false_iff_eq.1 h2
    omega
   subst h2
   have e2 : IntKind.i64.wrap (((n : Nat) : Int) - 1) = ((n : Nat) : Int) - 1 := wi (by omega) (by omega)
   have e3 : (((n : Nat) : Int) - 1 + 1).toNat = n := by omega
   rw [e2, e3, e1]
   have hz2 : vB 18446744073709551616 (l.drop n) = 0 := by
    rw [vB_dropS 18446744073709551616 n (by omega), hz, ex]
    rfl
   refine ⟨by omega, ⟨⟨by omega, by omega⟩, hz2⟩, by omega⟩
 ·rename_i h
  have h := of_decide_eq_false h
  obtain rfl : i = -1 := by omega
  have hz : wv l = 0 := hz
  rw [hz]
  rfl
end Go.Proofs.YtkicjckhkefnpaaDoor
namespace Go.Vg
def pm (m : Nat) : Nat → Nat → Nat → Nat
 | 0, _, _ => 1 % m
 | k + 1, b, e => if e % 2 = 1 then pm m k (b * b % m) (e / 2) * b % m else pm m k (b * b % m) (e / 2)
end Go.Vg
namespace Go.Vg
end Go.Vg
namespace Go.Vg
end Go.Vg
namespace Go.Proofs.YtkicjckhkefnpaaDoor
open Go Go.Vg
end Go.Proofs.YtkicjckhkefnpaaDoor
namespace Go.Proofs.YtkicjckhkefnpaaDoor
open Go Go.Vg
end Go.Proofs.YtkicjckhkefnpaaDoor
namespace Go.Proofs.YtkicjckhkefnpaaDoor
open Go Go.Vg
theorem lens {x : Nat} (h : x < 65536 ^ 64) : okd (dg x) ∧ len1 (dg x) ∧ lenS (dg x) ∧ lenOk (dg x) := by
 have := dg_len 64 x h
 exact ⟨dg_ok x, by unfold len1; omega, by unfold lenS; omega, by unfold lenOk; omega⟩
end Go.Proofs.YtkicjckhkefnpaaDoor
namespace Go.Proofs.YtkicjckhkefnpaaDoor
open Go Go.Vg
end Go.Proofs.YtkicjckhkefnpaaDoor
namespace Go.Vg
open Go Go.RowKit
abbrev W := BitVec 32
abbrev wd (x : W) : D := .val (.int .u32 (x.toNat : Int))
def toW (d : D) : W := BitVec.ofInt 32 (numOf d)
theorem ltW (x : W) : x.toNat < kb .u32 := x.isLt
theorem toW_wd (x : W) : toW (wd x) = x := by
 show BitVec.ofInt 32 (x.toNat : Int) = x
 rw [BitVec.ofInt_natCast, BitVec.ofNat_toNat, BitVec.setWidth_eq]
theorem addW (x y : W) : IntKind.u32.wrap ((x.toNat : Int) + (y.toNat : Int)) = ((x + y).toNat : Int) := by
 rw [w32, BitVec.toNat_add]
 omega
theorem andW (x y : W) : iand .u32 (x.toNat : Int) (y.toNat : Int) = ((x &&& y).toNat : Int) := by
 rw [iandN _ (ltW x) (ltW y), BitVec.toNat_and]
theorem orW (x y : W) : ior .u32 (x.toNat : Int) (y.toNat : Int) = ((x ||| y).toNat : Int) := by
 rw [iorN _ (ltW x) (ltW y), BitVec.toNat_or]
theorem xorW (x y : W) : ixor .u32 (x.toNat : Int) (y.toNat : Int) = ((x ^^^ y).toNat : Int) := by
 rw [ixorN _ (ltW x) (ltW y), BitVec.toNat_xor]
theorem notW (x : W) : ixor .u32 4294967295 (x.toNat : Int) = ((~~~x).toNat : Int) := by
 have := xorW (BitVec.allOnes 32) x
 rw [BitVec.allOnes_xor] at this
 exact this
theorem shrW (x : W) {n : Nat} (h : n ≤ 32) : ishr .u32 (x.toNat : Int) (n : Int) = ((x >>> n).toNat : Int) := by
 rw [ishrN .u32 (by exact h), BitVec.toNat_ushiftRight, Nat.shiftRight_eq_div_pow]
theorem shlW (x : W) {n : Nat} (h : n ≤ 32) : ishl .u32 (x.toNat : Int) (n : Int) = ((x <<< n).toNat : Int) := by
 rw [ishlN .u32 (by exact h), wN32, BitVec.toNat_shiftLeft, Nat.shiftLeft_eq]
theorem ofW (n : Nat) (h : n < 4294967296) : ((BitVec.ofNat 32 n).toNat : Int) = (n : Int) := by
 rw [BitVec.toNat_ofNat, Nat.mod_eq_of_lt (by simpa using h)]
end Go.Vg
namespace Go.Proofs.YtkicjckhkefnpaaDoor
open Go Go.Vg
def rr (x : W) (n : Nat) : W := (x >>> n) ||| (x <<< (32 - n))
def sp136 : Go.Vg.Spec := ⟨fun ds => ∃ (x : W) (n : Nat), ds = [wd x, i64 (-(n : Int))] ∧ 1 ≤ n ∧ n ≤ 31, fun ds => wd (rr (toW (ds.headD default)) (-(numOf (ds.getD 1 default))).toNat), true, [113, 3]⟩
def sp130 : Go.Vg.Spec := ⟨fun ds => ∃ (x : W) (n : Nat), ds = [wd x, i64 (n : Int)] ∧ 1 ≤ n ∧ n ≤ 31, fun ds => wd (rr (toW (ds.headD default)) (numOf (ds.getD 1 default)).toNat), true, [113, 3]⟩
def sp133 : Go.Vg.Spec := ⟨fun ds => ∃ (x : W) (n : Nat), ds = [wd x, u64 (n : Int)] ∧ 1 ≤ n ∧ n ≤ 31, fun ds => wd (rr (toW (ds.headD default)) (numOf (ds.getD 1 default)).toNat), true, [113, 156]⟩
def chW (x y z : W) : W := (x &&& y) ^^^ (~~~x &&& z)
def mjW (x y z : W) : W := ((x &&& y) ^^^ (x &&& z)) ^^^ (y &&& z)
def sp134 : Go.Vg.Spec := ⟨fun ds => ∃ (x y z : W), ds = [wd x, wd y, wd z], fun ds => wd (chW (toW (ds.headD default)) (toW (ds.getD 1 default)) (toW (ds.getD 2 default))), true, [113, 113, 113]⟩
def sp135 : Go.Vg.Spec := ⟨fun ds => ∃ (x y z : W), ds = [wd x, wd y, wd z], fun ds => wd (mjW (toW (ds.headD default)) (toW (ds.getD 1 default)) (toW (ds.getD 2 default))), true, [113, 113, 113]⟩
def w4 (a b c d : Int) : W := BitVec.ofNat 32 (a.toNat * 16777216 + b.toNat * 65536 + c.toNat * 256 + d.toNat)
def wat (l : List Int) (i : Nat) : W := w4 (l.getD i 0) (l.getD (i + 1) 0) (l.getD (i + 2) 0) (l.getD (i + 3) 0)
def sp129 : Go.Vg.Spec := ⟨fun ds => ∃ l i, ds = [.ints .u8 l, i64 ((i : Nat) : Int)] ∧ isBytes l ∧ i + 3 < l.length ∧ i < 1000, fun ds => wd (wat (intsOf (ds.headD default)) (numOf (ds.getD 1 default)).toNat), true, [26, 3]⟩
def c0 : Ctx := ⟨tab, fun _ => none, [], []⟩
def c130 : Ctx := ⟨tab, lkS [(136, sp136)], [], []⟩
set_option maxRecDepth 100000 in
theorem vc136  (x : W) (n : Nat) (F : D)  :
    (owed c0 (fun _ => none) Tryd.f136 [wd x, i64 (-(n : Int))] F) = (
 True ∧
 True ∧
 True ∧
 True ∧
 True ∧
 True ∧
 True ∧
 (0 : Int) ≤ iand IntKind.u64 (IntKind.u64.wrap (-(↑n : Int))) (31 : Int) ∧
 True ∧
 True ∧
 True ∧
 (0 : Int) ≤ IntKind.u64.wrap ((32 : Int) - iand IntKind.u64 (IntKind.u64.wrap (-(↑n : Int))) (31 : Int)) ∧
 True ∧ True ∧ (false = false ∧ True) ∧ D.val (Value.int IntKind.u32 (ior IntKind.u32 (ishl IntKind.u32 (↑(BitVec.toNat x) : Int) (iand IntKind.u64 (IntKind.u64.wrap (-(↑n : Int))) (31 : Int))) (ishr IntKind.u32 (↑(BitVec.toNat x) : Int) (IntKind.u64.wrap ((32 : Int) - iand IntKind.u64 (IntKind.u64.wrap (-(↑n : Int))) (31 : Int)))))) = F) := by kernel_rfl
set_option maxRecDepth 100000 in
theorem vc130  (x : W) (n : Nat) (F : D)  :
    (owed c130 (fun _ => none) Tryd.f130 [wd x, i64 (n : Int)] F) = (
 True ∧
 True ∧
 True ∧
 True ∧
 (∃ (x_1 : W), ∃ (n_1 : Nat), [D.val (Value.int IntKind.u32 (↑(BitVec.toNat x) : Int)), D.val (Value.int IntKind.i64 (IntKind.i64.wrap ((0 : Int) - (↑n : Int))))] = [D.val (Value.int IntKind.u32 (↑(BitVec.toNat x_1) : Int)), D.val (Value.int IntKind.i64 (-(↑n_1 : Int)))] ∧ (1 : Nat) ≤ n_1 ∧ n_1 ≤ (31 : Nat)) ∧
 True ∧ (false = false ∧ True) ∧ D.val (Value.int IntKind.u32 (↑(BitVec.toNat (rr (toW (D.val (Value.int IntKind.u32 (↑(BitVec.toNat x) : Int)))) (-IntKind.i64.wrap ((0 : Int) - (↑n : Int))).toNat)) : Int)) = F) := by kernel_rfl
set_option maxRecDepth 100000 in
theorem vc133  (x : W) (n : Nat) (F : D)  :
    (owed c0 (fun _ => none) Tryd.f133 [wd x, u64 (n : Int)] F) = (
 True ∧ True ∧ True ∧ (0 : Int) ≤ (↑n : Int) ∧ True ∧ True ∧ True ∧ (0 : Int) ≤ IntKind.u64.wrap ((32 : Int) - (↑n : Int)) ∧ True ∧ True ∧ (false = false ∧ True) ∧ D.val (Value.int IntKind.u32 (ior IntKind.u32 (ishr IntKind.u32 (↑(BitVec.toNat x) : Int) (↑n : Int)) (ishl IntKind.u32 (↑(BitVec.toNat x) : Int) (IntKind.u64.wrap ((32 : Int) - (↑n : Int)))))) = F) := by kernel_rfl
set_option maxRecDepth 100000 in
theorem vc134  (x y z : W) (F : D)  :
    (owed c0 (fun _ => none) Tryd.f134 [wd x, wd y, wd z] F) = (
 True ∧ True ∧ True ∧ True ∧ True ∧ True ∧ True ∧ True ∧ True ∧ (false = false ∧ True) ∧ D.val (Value.int IntKind.u32 (ixor IntKind.u32 (↑(BitVec.toNat z) : Int) (iand IntKind.u32 (↑(BitVec.toNat x) : Int) (ixor IntKind.u32 (↑(BitVec.toNat y) : Int) (↑(BitVec.toNat z) : Int))))) = F) := by kernel_rfl
set_option maxRecDepth 100000 in
theorem vc135  (x y z : W) (F : D)  :
    (owed c0 (fun _ => none) Tryd.f135 [wd x, wd y, wd z] F) = (
 True ∧ True ∧ True ∧ True ∧ True ∧ True ∧ True ∧ True ∧ True ∧ True ∧ True ∧ (false = false ∧ True) ∧ D.val (Value.int IntKind.u32 (ior IntKind.u32 (iand IntKind.u32 (↑(BitVec.toNat x) : Int) (↑(BitVec.toNat y) : Int)) (iand IntKind.u32 (↑(BitVec.toNat z) : Int) (ior IntKind.u32 (↑(BitVec.toNat x) : Int) (↑(BitVec.toNat y) : Int))))) = F) := by kernel_rfl
set_option maxRecDepth 100000 in
theorem vc129  (l : List Int) (i : Nat) (F : D)  :
    (owed c0 (fun _ => none) Tryd.f129 [.ints .u8 l, i64 (i : Int)] F) = (
 True ∧
 True ∧
 True ∧
 ((0 : Int) ≤ (↑i : Int) ∧ (↑i : Int) < (↑l.length : Int) ∧ (1 : Nat) = (1 : Nat)) ∧
 ((1 : Nat) ≠ (0 : Nat) ∧ (1 : Nat) = (1 : Nat) ∧ false = false) ∧
 True ∧
 (0 : Int) ≤ (24 : Int) ∧
 True ∧
 True ∧
 True ∧
 ((0 : Int) ≤ IntKind.i64.wrap ((↑i : Int) + (1 : Int)) ∧ IntKind.i64.wrap ((↑i : Int) + (1 : Int)) < (↑l.length : Int) ∧ (1 : Nat) = (1 : Nat)) ∧
 ((1 : Nat) ≠ (0 : Nat) ∧ (1 : Nat) = (1 : Nat) ∧ false = false) ∧
 True ∧
 (0 : Int) ≤ (16 : Int) ∧
 True ∧
 True ∧
 True ∧
 True ∧
 ((0 : Int) ≤ IntKind.i64.wrap ((↑i : Int) + (2 : Int)) ∧ IntKind.i64.wrap ((↑i : Int) + (2 : Int)) < (↑l.length : Int) ∧ (1 : Nat) = (1 : Nat)) ∧
 ((1 : Nat) ≠ (0 : Nat) ∧ (1 : Nat) = (1 : Nat) ∧ false = false) ∧
 True ∧
 (0 : Int) ≤ (8 : Int) ∧
 True ∧
 True ∧
 True ∧
 True ∧
 ((0 : Int) ≤ IntKind.i64.wrap ((↑i : Int) + (3 : Int)) ∧ IntKind.i64.wrap ((↑i : Int) + (3 : Int)) < (↑l.length : Int) ∧ (1 : Nat) = (1 : Nat)) ∧
 ((1 : Nat) ≠ (0 : Nat) ∧ (1 : Nat) = (1 : Nat) ∧ false = false) ∧
 True ∧
 True ∧
 True ∧
 (false = false ∧ True) ∧
 D.val
 (Value.int IntKind.u32
 (ior IntKind.u32
 (ior IntKind.u32 (ior IntKind.u32 (ishl IntKind.u32 (IntKind.u32.wrap (l.getD (↑i : Int).toNat (0 : Int))) (24 : Int)) (ishl IntKind.u32 (IntKind.u32.wrap (l.getD (IntKind.i64.wrap ((↑i : Int) + (1 : Int))).toNat (0 : Int))) (16 : Int)))
 (ishl IntKind.u32 (IntKind.u32.wrap (l.getD (IntKind.i64.wrap ((↑i : Int) + (2 : Int))).toNat (0 : Int))) (8 : Int)))
 (IntKind.u32.wrap (l.getD (IntKind.i64.wrap ((↑i : Int) + (3 : Int))).toNat (0 : Int))))) =
 F) := by kernel_rfl
theorem rr_eq (x : W) (n : Nat) : x <<< (32 - n) ||| x >>> n = rr x n := by unfold rr; exact BitVec.or_comm _ _
set_option maxRecDepth 100000 in
theorem m136 : Meets Tryd.prog 136 sp136 := by
 refine meets_of_owed (C := c0) ⟨tab_ok, fun f s h => by cases h⟩ (by kernel_rfl) (by kernel_rfl : Tryd.prog.funcs[136]? = some Tryd.f136) (by kernel_rfl) (by kernel_rfl) (by kernel_rfl) _ ?_
 rintro _ ⟨x, n, rfl, h1, h2⟩
 refine ⟨fun _ => rfl, fun _ => none, ?_⟩
 show owed c0 (fun _ => none) Tryd.f136 [wd x, i64 (-(n : Int))] (wd (rr (toW (wd x)) (-(-(n : Int))).toNat))
 rw [vc136, toW_wd, Int.neg_neg, Int.toNat_natCast]
 have e1 : iand .u64 (IntKind.u64.wrap (-(n : Int))) 31 = ((32 - n : Nat) : Int) := by
  rw [show IntKind.u64.wrap (-(n : Int)) = ((18446744073709551616 - n : Nat) : Int) by rw [w64]; omega, show (31 : Int) = ((31 : Nat) : Int) from rfl, iandN .u64 (show _ < 18446744073709551616 by omega) (show 31 < 18446744073709551616 by decide)]
  congr 1
  rw [show (31 : Nat) = 2 ^ 5 - 1 from rfl, Nat.and_two_pow_sub_one_eq_mod]
  omega
 have e2 : IntKind.u64.wrap (32 - ((32 - n : Nat) : Int)) = (n : Int) := by rw [w64]; omega
 rw [e1, e2, shlW x (by omega), shrW x (by omega), orW, rr_eq]
 and_intros <;> first | rfl | omega | trivial
set_option maxRecDepth 100000 in
theorem m130 : Meets Tryd.prog 130 sp130 := by
 refine meets_of_owed (C := c130) ⟨tab_ok, lkS_ok ⟨m136, trivial⟩⟩ (by kernel_rfl) (by kernel_rfl : Tryd.prog.funcs[130]? = some Tryd.f130) (by kernel_rfl) (by kernel_rfl) (by kernel_rfl) _ ?_
 rintro _ ⟨x, n, rfl, h1, h2⟩
 refine ⟨fun _ => rfl, fun _ => none, ?_⟩
 show owed c130 (fun _ => none) Tryd.f130 [wd x, i64 (n : Int)] (wd (rr (toW (wd x)) ((n : Int)).toNat))
 rw [vc130]
 have e : IntKind.i64.wrap (0 - (n : Int)) = -(n : Int) := by rw [wi (by omega) (by omega)]; omega
 rw [e, Int.neg_neg]
 simp only [true_and, and_true]
 exact ⟨x, n, rfl, h1, h2⟩
set_option maxRecDepth 100000 in
theorem m133 : Meets Tryd.prog 133 sp133 := by
 refine meets_of_owed (C := c0) ⟨tab_ok, fun f s h => by cases h⟩ (by kernel_rfl) (by kernel_rfl : Tryd.prog.funcs[133]? = some Tryd.f133) (by kernel_rfl) (by kernel_rfl) (by kernel_rfl) _ ?_
 rintro _ ⟨x, n, rfl, h1, h2⟩
 refine ⟨fun _ => rfl, fun _ => none, ?_⟩
 show owed c0 (fun _ => none) Tryd.f133 [wd x, u64 (n : Int)] (wd (rr (toW (wd x)) ((n : Int)).toNat))
 rw [vc133, toW_wd, Int.toNat_natCast]
 rw [show IntKind.u64.wrap (32 - (n : Int)) = ((32 - n : Nat) : Int) by rw [w64]; omega, shlW x (by omega), shrW x (by omega), orW, ← rr_eq, BitVec.or_comm]
 and_intros <;> first | rfl | omega | trivial
theorem ch_eq (x y z : W) : z ^^^ (x &&& (y ^^^ z)) = chW x y z := by
 unfold chW
 ext i hi
 simp only [BitVec.getElem_xor, BitVec.getElem_and, BitVec.getElem_not]
 cases x[i] <;> cases y[i] <;> cases z[i] <;> rfl
theorem mj_eq (x y z : W) : (x &&& y) ||| (z &&& (x ||| y)) = mjW x y z := by
 unfold mjW
 ext i hi
 simp only [BitVec.getElem_xor, BitVec.getElem_and, BitVec.getElem_or]
 cases x[i] <;> cases y[i] <;> cases z[i] <;> rfl
set_option maxRecDepth 100000 in
theorem m134 : Meets Tryd.prog 134 sp134 := by
 refine meets_of_owed (C := c0) ⟨tab_ok, fun f s h => by cases h⟩ (by kernel_rfl) (by kernel_rfl : Tryd.prog.funcs[134]? = some Tryd.f134) (by kernel_rfl) (by kernel_rfl) (by kernel_rfl) _ ?_
 rintro _ ⟨x, y, z, rfl⟩
 refine ⟨fun _ => rfl, fun _ => none, ?_⟩
 show owed c0 (fun _ => none) Tryd.f134 [wd x, wd y, wd z] (wd (chW (toW (wd x)) (toW (wd y)) (toW (wd z))))
 rw [vc134, toW_wd, toW_wd, toW_wd, xorW, andW, xorW, ch_eq]
 and_intros <;> first | rfl | omega | trivial
set_option maxRecDepth 100000 in
theorem m135 : Meets Tryd.prog 135 sp135 := by
 refine meets_of_owed (C := c0) ⟨tab_ok, fun f s h => by cases h⟩ (by kernel_rfl) (by kernel_rfl : Tryd.prog.funcs[135]? = some Tryd.f135) (by kernel_rfl) (by kernel_rfl) (by kernel_rfl) _ ?_
 rintro _ ⟨x, y, z, rfl⟩
 refine ⟨fun _ => rfl, fun _ => none, ?_⟩
 show owed c0 (fun _ => none) Tryd.f135 [wd x, wd y, wd z] (wd (mjW (toW (wd x)) (toW (wd y)) (toW (wd z))))
 rw [vc135, toW_wd, toW_wd, toW_wd, orW, andW, andW, orW, mj_eq]
 and_intros <;> first | rfl | omega | trivial
theorem byte_at {l : List Int} (h : isBytes l) {i : Nat} (hi : i < l.length) : ∃ b : Nat, l.getD i 0 = (b : Int) ∧ b < 256 := by
 have := h (l.getD i 0) (by rw [List.getD_eq_getElem?_getD, List.getElem?_eq_getElem hi]; exact List.getElem_mem hi)
 exact ⟨(l.getD i 0).toNat, by omega, by omega⟩
theorem or_add {a b k : Nat} (hb : b < 2 ^ k) (ha : a % 2 ^ k = 0) : a ||| b = a + b := by
 have e : a = 2 ^ k * (a / 2 ^ k) := by have := Nat.div_add_mod a (2 ^ k); omega
 rw [e, Nat.two_pow_add_eq_or_of_lt hb]
theorem w4_eq {a b c d : Nat} (ha : a < 256) (hb : b < 256) (hc : c < 256) (hd : d < 256) :
  ior .u32 (ior .u32 (ior .u32 (ishl .u32 (IntKind.u32.wrap (a : Int)) 24) (ishl .u32 (IntKind.u32.wrap (b : Int)) 16)) (ishl .u32 (IntKind.u32.wrap (c : Int)) 8)) (IntKind.u32.wrap (d : Int)) = ((w4 a b c d).toNat : Int) := by
 have k : kb .u32 = 4294967296 := rfl
 have sh : ∀ (x m : Nat), x < 256 → m ≤ 24 → ishl .u32 (IntKind.u32.wrap (x : Int)) (m : Int) = ((x * 2 ^ m : Nat) : Int) := by
  intro x m hx hm
  have : x * 2 ^ m < 4294967296 := by
   have : 2 ^ m ≤ 2 ^ 24 := Nat.pow_le_pow_right (by decide) hm
   have h2 : x * 2 ^ m ≤ 255 * 2 ^ 24 := Nat.mul_le_mul (by omega) this
   omega
  rw [wrapN .u32 (by rw [k]; omega), ishlN .u32 (by show m ≤ 32; omega), wrapN .u32 (by rw [k]; exact this)]
 rw [show (24 : Int) = ((24 : Nat) : Int) from rfl, show (16 : Int) = ((16 : Nat) : Int) from rfl, show (8 : Int) = ((8 : Nat) : Int) from rfl,
  sh a 24 ha (by decide), sh b 16 hb (by decide), sh c 8 hc (by decide), wrapN .u32 (n := d) (by rw [k]; omega)]
 have o1 : a * 2 ^ 24 ||| b * 2 ^ 16 = a * 2 ^ 24 + b * 2 ^ 16 := or_add (k := 24) (by omega) (by omega)
 have o2 : (a * 2 ^ 24 + b * 2 ^ 16) ||| c * 2 ^ 8 = a * 2 ^ 24 + b * 2 ^ 16 + c * 2 ^ 8 := or_add (k := 16) (by omega) (by omega)
 have o3 : (a * 2 ^ 24 + b * 2 ^ 16 + c * 2 ^ 8) ||| d = a * 2 ^ 24 + b * 2 ^ 16 + c * 2 ^ 8 + d := or_add (k := 8) (by omega) (by omega)
 rw [iorN .u32 (by rw [k]; omega) (by rw [k]; omega), o1, iorN .u32 (by rw [k]; omega) (by rw [k]; omega), o2, iorN .u32 (by rw [k]; omega) (by rw [k]; omega), o3]
 unfold w4
 rw [Int.toNat_natCast, Int.toNat_natCast, Int.toNat_natCast, Int.toNat_natCast, ofW _ (by omega)]
set_option maxRecDepth 100000 in
theorem m129 : Meets Tryd.prog 129 sp129 := by
 refine meets_of_owed (C := c0) ⟨tab_ok, fun f s h => by cases h⟩ (by kernel_rfl) (by kernel_rfl : Tryd.prog.funcs[129]? = some Tryd.f129) (by kernel_rfl) (by kernel_rfl) (by kernel_rfl) _ ?_
 rintro _ ⟨l, i, rfl, hb, hi, hi2⟩
 refine ⟨fun _ => rfl, fun _ => none, ?_⟩
 show owed c0 (fun _ => none) Tryd.f129 [.ints .u8 l, i64 (i : Int)] (wd (wat l ((i : Int)).toNat))
 rw [vc129]
 have e1 : IntKind.i64.wrap ((i : Int) + 1) = ((i + 1 : Nat) : Int) := by rw [wi (by omega) (by omega)]; omega
 have e2 : IntKind.i64.wrap ((i : Int) + 2) = ((i + 2 : Nat) : Int) := by rw [wi (by omega) (by omega)]; omega
 have e3 : IntKind.i64.wrap ((i : Int) + 3) = ((i + 3 : Nat) : Int) := by rw [wi (by omega) (by omega)]; omega
 rw [e1, e2, e3, Int.toNat_natCast, Int.toNat_natCast, Int.toNat_natCast, Int.toNat_natCast]
 unfold wat
 obtain ⟨a, ea, ha⟩ := byte_at hb (i := i) (by omega)
 obtain ⟨b, eb, hbb⟩ := byte_at hb (i := i + 1) (by omega)
 obtain ⟨c, ec, hc⟩ := byte_at hb (i := i + 2) (by omega)
 obtain ⟨d, ed, hd⟩ := byte_at hb (i := i + 3) (by omega)
 rw [ea, eb, ec, ed, w4_eq ha hbb hc hd]
 and_intros <;> first | rfl | omega | trivial
end Go.Proofs.YtkicjckhkefnpaaDoor
namespace Go.Proofs.YtkicjckhkefnpaaDoor
open Go Go.Vg
structure R8 where
 a : W
 b : W
 c : W
 d : W
 e : W
 f : W
 g : W
 h : W
def R8.l (x : R8) : List Int := [(x.a.toNat : Int), (x.b.toNat : Int), (x.c.toNat : Int), (x.d.toNat : Int), (x.e.toNat : Int), (x.f.toNat : Int), (x.g.toNat : Int), (x.h.toNat : Int)]
def sA (x : W) : W := (rr x 7 ^^^ rr x 18) ^^^ (x >>> 3)
def sB (x : W) : W := (rr x 17 ^^^ rr x 19) ^^^ (x >>> 10)
def sC (x : W) : W := (rr x 6 ^^^ rr x 11) ^^^ rr x 25
def sD (x : W) : W := (rr x 2 ^^^ rr x 13) ^^^ rr x 22
def wsR (l : List Int) : Nat → List W
 | 0 => []
 | t + 1 => (if t < 16 then wat l (4 * t) else (((wsR l t).getD 15 0 + sA ((wsR l t).getD 14 0)) + (wsR l t).getD 6 0) + sB ((wsR l t).getD 1 0)) :: wsR l t
def wn (l : List Int) (t : Nat) : W := (wsR l (t + 1)).getD 0 0
def wl (l : List Int) (n : Nat) : List Int := (List.range n).map fun t => ((wn l t).toNat : Int)
def kW (t : Nat) : W := BitVec.ofInt 32 (gl0.getD t 0)
def rdS (x : R8) (k w : W) : R8 :=
 let one := (((x.h + sC x.e) + chW x.e x.f x.g) + k) + w
 let two := sD x.a + mjW x.a x.b x.c
 ⟨one + two, x.a, x.b, x.c, x.d + one, x.e, x.f, x.g⟩
def rd (x : R8) (l : List Int) : Nat → R8
 | 0 => x
 | t + 1 => rdS (rd x l t) (kW t) (wn l t)
def add8 (x v : R8) : R8 := ⟨x.a + v.a, x.b + v.b, x.c + v.c, x.d + v.d, x.e + v.e, x.f + v.f, x.g + v.g, x.h + v.h⟩
def pr (x : R8) (l : List Int) : R8 := add8 x (rd x l 64)
def mixL (x : R8) (l : List Int) (i : Nat) : List Int := (pr x l).l.take i ++ x.l.drop i
def ofR (d : List Int) : R8 := ⟨BitVec.ofInt 32 (d.getD 0 0), BitVec.ofInt 32 (d.getD 1 0), BitVec.ofInt 32 (d.getD 2 0), BitVec.ofInt 32 (d.getD 3 0), BitVec.ofInt 32 (d.getD 4 0), BitVec.ofInt 32 (d.getD 5 0), BitVec.ofInt 32 (d.getD 6 0), BitVec.ofInt 32 (d.getD 7 0)⟩
def prL (h l : List Int) : List Int := (pr (ofR h) l).l
abbrev a8 (l : List Int) : D := .arr .u32 8 l
def sp117 : Go.Vg.Spec := ⟨fun ds => ∃ (x : R8) (l : List Int), ds = [a8 x.l, .arr .u8 64 l] ∧ isBytes l ∧ l.length = 64, fun ds => a8 (prL (arrOf (ds.headD default)) (arrOf (ds.getD 1 default))), true, [114, 115]⟩
def sp128 : Go.Vg.Spec := ⟨fun ds => ∃ (x : R8) (l : List Int), ds = [.ints .u32 x.l, .str l] ∧ isBytes l ∧ l.length = 64, fun ds => .ints .u32 (prL (intsOf (ds.headD default)) (strOf (ds.getD 1 default))), false, [170, 9]⟩
def c117 : Ctx := ⟨tab, lkS [(129, sp129), (130, sp130)], [], []⟩
def c128 : Ctx := ⟨tab, lkS [(133, sp133), (134, sp134), (135, sp135)], [24], []⟩
def inv117 (x : R8) (l : List Int) : Nat → Option Inv
 | 3 => some ⟨Nat, fun i => [(20, .d (i64 i))], fun i => [(5, .fix (.arr .u32 64 (wl l i ++ List.replicate (64 - i) 0)))], fun s => (slotN s 20).toNat, fun _ i => i ≤ 64, fun i => 64 - i⟩
 | 12 => some ⟨Nat, fun i => [(70, .d (i64 i))], fun i => [(9, .fix (a8 (rd x l i).l))], fun s => (slotN s 70).toNat, fun _ i => i ≤ 64, fun i => 64 - i⟩
 | 20 => some ⟨Nat, fun i => [(148, .d (i64 i))], fun i => [(2, .fix (a8 (mixL x l i)))], fun s => (slotN s 148).toNat, fun _ i => i ≤ 8, fun i => 8 - i⟩
 | _ => none
set_option maxRecDepth 100000 in
theorem vc117  (x : R8) (l : List Int) (F : D)  :
    (owed c117 (inv117 x l) Tryd.f117 [a8 x.l, .arr .u8 64 l] F) = (
 (True ∧ false = false) ∧
 (True ∧ false = false) ∧
 (True ∧ (8 : Nat) ≠ (0 : Nat)) ∧
 (True ∧ (64 : Nat) ≠ (0 : Nat)) ∧
 True ∧
 (((AV.d (D.val (Value.int IntKind.i64 (0 : Int))) = AV.d (D.val (Value.int IntKind.i64 (↑(Int.toNat (0 : Int)) : Int))) ∧ True) ∧
 (sm (some (Blk.fix (D.arr IntKind.u32 (8 : Nat) [(↑(BitVec.toNat x.a) : Int), (↑(BitVec.toNat x.b) : Int), (↑(BitVec.toNat x.c) : Int), (↑(BitVec.toNat x.d) : Int), (↑(BitVec.toNat x.e) : Int), (↑(BitVec.toNat x.f) : Int), (↑(BitVec.toNat x.g) : Int), (↑(BitVec.toNat x.h) : Int)]))) ∧
 sm (some (Blk.fix (D.arr IntKind.u8 (64 : Nat) l))) ∧
 sm (some (Blk.fix (D.arr IntKind.u32 (8 : Nat) [(0 : Int), (0 : Int), (0 : Int), (0 : Int), (0 : Int), (0 : Int), (0 : Int), (0 : Int)]))) ∧
 some
 (Blk.fix
 (D.arr IntKind.u32 (64 : Nat)
 (List.replicate (64 : Nat) (0 : Int)))) =
 some
 (Blk.fix
 (D.arr IntKind.u32 (64 : Nat)
 (wl l (Int.toNat (0 : Int)) ++
 (List.replicate (64 : Nat) (0 : Int))))) ∧
 True) ∧
 true = true) ∧
 Int.toNat (0 : Int) ≤ (64 : Nat)) ∧
 ∀ (x_1 : Nat),
 x_1 ≤ (64 : Nat) →
 true = true ∧
 True ∧
 match decide ((↑x_1 : Int) < (64 : Int)) with
 | true =>
  True ∧
  True ∧
  True ∧
  True ∧
  match decide ((↑x_1 : Int) < (16 : Int)) with
  | true =>
   True ∧
   ((0 : Int) ≤ (0 : Int) ∧ (0 : Int) ≤ (↑(64 : Nat) : Int) ∧ (↑(64 : Nat) : Int) ≤ (↑(64 : Nat) : Int) ∧ (64 : Nat) = (64 : Nat) ∧ (1 : Nat) = (1 : Nat)) ∧
   True ∧
   True ∧
   (∃ (l_1 : List Int), ∃ (i : Nat), [D.ints IntKind.u8 (List.take ((↑(64 : Nat) : Int).toNat - Int.toNat (0 : Int)) (List.drop (0 : Nat) l)), D.val (Value.int IntKind.i64 (IntKind.i64.wrap ((4 : Int) * (↑x_1 : Int))))] = [D.ints IntKind.u8 l_1, D.val (Value.int IntKind.i64 (↑i : Int))] ∧ isBytes l_1 ∧ i + (3 : Nat) < l_1.length ∧ i < (1000 : Nat)) ∧
   ((0 : Int) ≤ (↑x_1 : Int) ∧ (↑x_1 : Int) < (↑(64 : Nat) : Int) ∧ (64 : Nat) = (64 : Nat) ∧ (1 : Nat) = (1 : Nat)) ∧
   (((↑x_1 : Int).toNat < (64 : Nat) ∧ ([] : List Nat) = [] ∧ true = true) ∧ (1 : Nat) ≠ (0 : Nat) ∧ (1 : Nat) = (1 : Nat) ∧ false = false) ∧
   True ∧
   True ∧
   ((AV.d (D.val (Value.int IntKind.i64 (IntKind.i64.wrap ((↑x_1 : Int) + (1 : Int))))) = AV.d (D.val (Value.int IntKind.i64 (↑(IntKind.i64.wrap ((↑x_1 : Int) + (1 : Int))).toNat : Int))) ∧ True) ∧
   (sm (some (Blk.fix (D.arr IntKind.u32 (8 : Nat) [(↑(BitVec.toNat x.a) : Int), (↑(BitVec.toNat x.b) : Int), (↑(BitVec.toNat x.c) : Int), (↑(BitVec.toNat x.d) : Int), (↑(BitVec.toNat x.e) : Int), (↑(BitVec.toNat x.f) : Int), (↑(BitVec.toNat x.g) : Int), (↑(BitVec.toNat x.h) : Int)]))) ∧
   sm (some (Blk.fix (D.arr IntKind.u8 (64 : Nat) l))) ∧
   sm (some (Blk.fix (D.arr IntKind.u32 (8 : Nat) [(0 : Int), (0 : Int), (0 : Int), (0 : Int), (0 : Int), (0 : Int), (0 : Int), (0 : Int)]))) ∧
   some (Blk.fix (D.arr IntKind.u32 (64 : Nat) ((wl l x_1 ++ List.replicate ((64 : Nat) - x_1) (0 : Int)).set (↑x_1 : Int).toNat (↑(BitVec.toNat (wat (List.take ((↑(64 : Nat) : Int).toNat - Int.toNat (0 : Int)) (List.drop (0 : Nat) l)) (IntKind.i64.wrap ((4 : Int) * (↑x_1 : Int))).toNat)) : Int)))) =
   some (Blk.fix (D.arr IntKind.u32 (64 : Nat) (wl l (IntKind.i64.wrap ((↑x_1 : Int) + (1 : Int))).toNat ++ List.replicate ((64 : Nat) - (IntKind.i64.wrap ((↑x_1 : Int) + (1 : Int))).toNat) (0 : Int)))) ∧
   True) ∧
   true = true) ∧
   (IntKind.i64.wrap ((↑x_1 : Int) + (1 : Int))).toNat ≤ (64 : Nat) ∧ (64 : Nat) - (IntKind.i64.wrap ((↑x_1 : Int) + (1 : Int))).toNat < (64 : Nat) - x_1
  | false =>
   True ∧
   True ∧
   ((0 : Int) ≤ IntKind.i64.wrap ((↑x_1 : Int) - (15 : Int)) ∧ IntKind.i64.wrap ((↑x_1 : Int) - (15 : Int)) < (↑(64 : Nat) : Int) ∧ (64 : Nat) = (64 : Nat) ∧ (1 : Nat) = (1 : Nat)) ∧
   ((1 : Nat) ≠ (0 : Nat) ∧ (1 : Nat) = (1 : Nat) ∧ false = false) ∧
   True ∧
   True ∧
   ((0 : Int) ≤ IntKind.i64.wrap ((↑x_1 : Int) - (2 : Int)) ∧ IntKind.i64.wrap ((↑x_1 : Int) - (2 : Int)) < (↑(64 : Nat) : Int) ∧ (64 : Nat) = (64 : Nat) ∧ (1 : Nat) = (1 : Nat)) ∧
   ((1 : Nat) ≠ (0 : Nat) ∧ (1 : Nat) = (1 : Nat) ∧ false = false) ∧
   True ∧
   True ∧
   True ∧
   True ∧
   True ∧
   ((0 : Int) ≤ IntKind.i64.wrap ((↑x_1 : Int) - (16 : Int)) ∧ IntKind.i64.wrap ((↑x_1 : Int) - (16 : Int)) < (↑(64 : Nat) : Int) ∧ (64 : Nat) = (64 : Nat) ∧ (1 : Nat) = (1 : Nat)) ∧
   ((1 : Nat) ≠ (0 : Nat) ∧ (1 : Nat) = (1 : Nat) ∧ false = false) ∧
   True ∧
   (∃ (x : W),
   ∃ (n : Nat),
   [D.val (Value.int IntKind.u32 ((wl l x_1 ++ List.replicate ((64 : Nat) - x_1) (0 : Int)).getD (IntKind.i64.wrap ((↑x_1 : Int) - (15 : Int))).toNat (0 : Int))), D.val (Value.int IntKind.i64 (7 : Int))] = [D.val (Value.int IntKind.u32 (↑(BitVec.toNat x) : Int)), D.val (Value.int IntKind.i64 (↑n : Int))] ∧
   (1 : Nat) ≤ n ∧ n ≤ (31 : Nat)) ∧
   True ∧
   (∃ (x : W),
   ∃ (n : Nat),
   [D.val (Value.int IntKind.u32 ((wl l x_1 ++ List.replicate ((64 : Nat) - x_1) (0 : Int)).getD (IntKind.i64.wrap ((↑x_1 : Int) - (15 : Int))).toNat (0 : Int))), D.val (Value.int IntKind.i64 (18 : Int))] = [D.val (Value.int IntKind.u32 (↑(BitVec.toNat x) : Int)), D.val (Value.int IntKind.i64 (↑n : Int))] ∧
   (1 : Nat) ≤ n ∧ n ≤ (31 : Nat)) ∧
   True ∧
   True ∧
   (0 : Int) ≤ (3 : Int) ∧
   True ∧
   True ∧
   True ∧
   True ∧
   ((0 : Int) ≤ IntKind.i64.wrap ((↑x_1 : Int) - (7 : Int)) ∧ IntKind.i64.wrap ((↑x_1 : Int) - (7 : Int)) < (↑(64 : Nat) : Int) ∧ (64 : Nat) = (64 : Nat) ∧ (1 : Nat) = (1 : Nat)) ∧
   ((1 : Nat) ≠ (0 : Nat) ∧ (1 : Nat) = (1 : Nat) ∧ false = false) ∧
   True ∧
   True ∧
   (∃ (x : W),
   ∃ (n : Nat),
   [D.val (Value.int IntKind.u32 ((wl l x_1 ++ List.replicate ((64 : Nat) - x_1) (0 : Int)).getD (IntKind.i64.wrap ((↑x_1 : Int) - (2 : Int))).toNat (0 : Int))), D.val (Value.int IntKind.i64 (17 : Int))] =
   [D.val (Value.int IntKind.u32 (↑(BitVec.toNat x) : Int)), D.val (Value.int IntKind.i64 (↑n : Int))] ∧
   (1 : Nat) ≤ n ∧ n ≤ (31 : Nat)) ∧
   True ∧
   (∃ (x : W),
   ∃ (n : Nat),
   [D.val (Value.int IntKind.u32 ((wl l x_1 ++ List.replicate ((64 : Nat) - x_1) (0 : Int)).getD (IntKind.i64.wrap ((↑x_1 : Int) - (2 : Int))).toNat (0 : Int))), D.val (Value.int IntKind.i64 (19 : Int))] =
   [D.val (Value.int IntKind.u32 (↑(BitVec.toNat x) : Int)), D.val (Value.int IntKind.i64 (↑n : Int))] ∧
   (1 : Nat) ≤ n ∧ n ≤ (31 : Nat)) ∧
   True ∧
   True ∧
   (0 : Int) ≤ (10 : Int) ∧
   True ∧
   True ∧
   ((0 : Int) ≤ (↑x_1 : Int) ∧ (↑x_1 : Int) < (↑(64 : Nat) : Int) ∧ (64 : Nat) = (64 : Nat) ∧ (1 : Nat) = (1 : Nat)) ∧
   (((↑x_1 : Int).toNat < (64 : Nat) ∧ ([] : List Nat) = [] ∧ true = true) ∧ (1 : Nat) ≠ (0 : Nat) ∧ (1 : Nat) = (1 : Nat) ∧ false = false) ∧
   True ∧
   True ∧
   ((AV.d (D.val (Value.int IntKind.i64 (IntKind.i64.wrap ((↑x_1 : Int) + (1 : Int))))) = AV.d (D.val (Value.int IntKind.i64 (↑(IntKind.i64.wrap ((↑x_1 : Int) + (1 : Int))).toNat : Int))) ∧ True) ∧
   (sm
   (some
   (Blk.fix
   (D.arr IntKind.u32 (8 : Nat) [(↑(BitVec.toNat x.a) : Int), (↑(BitVec.toNat x.b) : Int), (↑(BitVec.toNat x.c) : Int), (↑(BitVec.toNat x.d) : Int), (↑(BitVec.toNat x.e) : Int), (↑(BitVec.toNat x.f) : Int), (↑(BitVec.toNat x.g) : Int), (↑(BitVec.toNat x.h) : Int)]))) ∧
   sm (some (Blk.fix (D.arr IntKind.u8 (64 : Nat) l))) ∧
   sm (some (Blk.fix (D.arr IntKind.u32 (8 : Nat) [(0 : Int), (0 : Int), (0 : Int), (0 : Int), (0 : Int), (0 : Int), (0 : Int), (0 : Int)]))) ∧
   some
   (Blk.fix
   (D.arr IntKind.u32 (64 : Nat)
   ((wl l x_1 ++ List.replicate ((64 : Nat) - x_1) (0 : Int)).set (↑x_1 : Int).toNat
   (IntKind.u32.wrap
   (IntKind.u32.wrap
   (IntKind.u32.wrap
   ((wl l x_1 ++ List.replicate ((64 : Nat) - x_1) (0 : Int)).getD (IntKind.i64.wrap ((↑x_1 : Int) - (16 : Int))).toNat (0 : Int) +
   ixor IntKind.u32
   (ixor IntKind.u32 (↑(BitVec.toNat (rr (toW (D.val (Value.int IntKind.u32 ((wl l x_1 ++ List.replicate ((64 : Nat) - x_1) (0 : Int)).getD (IntKind.i64.wrap ((↑x_1 : Int) - (15 : Int))).toNat (0 : Int))))) (7 : Nat))) : Int)
   (↑(BitVec.toNat (rr (toW (D.val (Value.int IntKind.u32 ((wl l x_1 ++ List.replicate ((64 : Nat) - x_1) (0 : Int)).getD (IntKind.i64.wrap ((↑x_1 : Int) - (15 : Int))).toNat (0 : Int))))) (18 : Nat))) : Int))
   (ishr IntKind.u32 ((wl l x_1 ++ List.replicate ((64 : Nat) - x_1) (0 : Int)).getD (IntKind.i64.wrap ((↑x_1 : Int) - (15 : Int))).toNat (0 : Int)) (3 : Int))) +
   (wl l x_1 ++ List.replicate ((64 : Nat) - x_1) (0 : Int)).getD (IntKind.i64.wrap ((↑x_1 : Int) - (7 : Int))).toNat (0 : Int)) +
   ixor IntKind.u32
   (ixor IntKind.u32 (↑(BitVec.toNat (rr (toW (D.val (Value.int IntKind.u32 ((wl l x_1 ++ List.replicate ((64 : Nat) - x_1) (0 : Int)).getD (IntKind.i64.wrap ((↑x_1 : Int) - (2 : Int))).toNat (0 : Int))))) (17 : Nat))) : Int)
   (↑(BitVec.toNat (rr (toW (D.val (Value.int IntKind.u32 ((wl l x_1 ++ List.replicate ((64 : Nat) - x_1) (0 : Int)).getD (IntKind.i64.wrap ((↑x_1 : Int) - (2 : Int))).toNat (0 : Int))))) (19 : Nat))) : Int))
   (ishr IntKind.u32 ((wl l x_1 ++ List.replicate ((64 : Nat) - x_1) (0 : Int)).getD (IntKind.i64.wrap ((↑x_1 : Int) - (2 : Int))).toNat (0 : Int)) (10 : Int))))))) =
   some (Blk.fix (D.arr IntKind.u32 (64 : Nat) (wl l (IntKind.i64.wrap ((↑x_1 : Int) + (1 : Int))).toNat ++ List.replicate ((64 : Nat) - (IntKind.i64.wrap ((↑x_1 : Int) + (1 : Int))).toNat) (0 : Int)))) ∧
   True) ∧
   true = true) ∧
   (IntKind.i64.wrap ((↑x_1 : Int) + (1 : Int))).toNat ≤ (64 : Nat) ∧ (64 : Nat) - (IntKind.i64.wrap ((↑x_1 : Int) + (1 : Int))).toNat < (64 : Nat) - x_1
 | false =>
  ((8 : Nat) ≠ (0 : Nat) ∧ (8 : Nat) = (8 : Nat) ∧ true = true) ∧
  (True ∧ (8 : Nat) ≠ (0 : Nat)) ∧
  (Sk.arr (8 : Nat) = Sk.arr (8 : Nat) ∧ (8 : Nat) ≠ (0 : Nat) ∧ (8 : Nat) = (8 : Nat) ∧ false = false) ∧
  True ∧
  (((AV.d (D.val (Value.int IntKind.i64 (0 : Int))) = AV.d (D.val (Value.int IntKind.i64 (↑(Int.toNat (0 : Int)) : Int))) ∧ True) ∧
  (sm (some (Blk.fix (D.arr IntKind.u32 (8 : Nat) [(↑(BitVec.toNat x.a) : Int), (↑(BitVec.toNat x.b) : Int), (↑(BitVec.toNat x.c) : Int), (↑(BitVec.toNat x.d) : Int), (↑(BitVec.toNat x.e) : Int), (↑(BitVec.toNat x.f) : Int), (↑(BitVec.toNat x.g) : Int), (↑(BitVec.toNat x.h) : Int)]))) ∧
  sm (some (Blk.fix (D.arr IntKind.u8 (64 : Nat) l))) ∧
  sm (some (Blk.fix (D.arr IntKind.u32 (8 : Nat) [(0 : Int), (0 : Int), (0 : Int), (0 : Int), (0 : Int), (0 : Int), (0 : Int), (0 : Int)]))) ∧
  sm (some (Blk.fix (D.arr IntKind.u32 (64 : Nat) (wl l x_1 ++ List.replicate ((64 : Nat) - x_1) (0 : Int))))) ∧
  some (Blk.fix (D.arr IntKind.u32 (8 : Nat) [(↑(BitVec.toNat x.a) : Int), (↑(BitVec.toNat x.b) : Int), (↑(BitVec.toNat x.c) : Int), (↑(BitVec.toNat x.d) : Int), (↑(BitVec.toNat x.e) : Int), (↑(BitVec.toNat x.f) : Int), (↑(BitVec.toNat x.g) : Int), (↑(BitVec.toNat x.h) : Int)])) =
  some
  (Blk.fix
  (D.arr IntKind.u32 (8 : Nat)
  [(↑(BitVec.toNat (rd x l (Int.toNat (0 : Int))).a) : Int), (↑(BitVec.toNat (rd x l (Int.toNat (0 : Int))).b) : Int), (↑(BitVec.toNat (rd x l (Int.toNat (0 : Int))).c) : Int), (↑(BitVec.toNat (rd x l (Int.toNat (0 : Int))).d) : Int), (↑(BitVec.toNat (rd x l (Int.toNat (0 : Int))).e) : Int),
  (↑(BitVec.toNat (rd x l (Int.toNat (0 : Int))).f) : Int), (↑(BitVec.toNat (rd x l (Int.toNat (0 : Int))).g) : Int), (↑(BitVec.toNat (rd x l (Int.toNat (0 : Int))).h) : Int)])) ∧
  True) ∧
  true = true) ∧
  Int.toNat (0 : Int) ≤ (64 : Nat)) ∧
  ∀ (x_2 : Nat),
  x_2 ≤ (64 : Nat) →
  true = true ∧
  True ∧
  match decide ((↑x_2 : Int) < (64 : Int)) with
  | true =>
   True ∧
   True ∧
   ((0 : Int) ≤ (0 : Int) ∧ (0 : Int) < (↑(8 : Nat) : Int) ∧ (8 : Nat) = (8 : Nat) ∧ (1 : Nat) = (1 : Nat)) ∧
   ((1 : Nat) ≠ (0 : Nat) ∧ (1 : Nat) = (1 : Nat) ∧ false = false) ∧
   ((0 : Int) ≤ (1 : Int) ∧ (1 : Int) < (↑(8 : Nat) : Int) ∧ (8 : Nat) = (8 : Nat) ∧ (1 : Nat) = (1 : Nat)) ∧
   ((1 : Nat) ≠ (0 : Nat) ∧ (1 : Nat) = (1 : Nat) ∧ false = false) ∧
   ((0 : Int) ≤ (2 : Int) ∧ (2 : Int) < (↑(8 : Nat) : Int) ∧ (8 : Nat) = (8 : Nat) ∧ (1 : Nat) = (1 : Nat)) ∧
   ((1 : Nat) ≠ (0 : Nat) ∧ (1 : Nat) = (1 : Nat) ∧ false = false) ∧
   ((0 : Int) ≤ (4 : Int) ∧ (4 : Int) < (↑(8 : Nat) : Int) ∧ (8 : Nat) = (8 : Nat) ∧ (1 : Nat) = (1 : Nat)) ∧
   ((1 : Nat) ≠ (0 : Nat) ∧ (1 : Nat) = (1 : Nat) ∧ false = false) ∧
   ((0 : Int) ≤ (5 : Int) ∧ (5 : Int) < (↑(8 : Nat) : Int) ∧ (8 : Nat) = (8 : Nat) ∧ (1 : Nat) = (1 : Nat)) ∧
   ((1 : Nat) ≠ (0 : Nat) ∧ (1 : Nat) = (1 : Nat) ∧ false = false) ∧
   ((0 : Int) ≤ (6 : Int) ∧ (6 : Int) < (↑(8 : Nat) : Int) ∧ (8 : Nat) = (8 : Nat) ∧ (1 : Nat) = (1 : Nat)) ∧
   ((1 : Nat) ≠ (0 : Nat) ∧ (1 : Nat) = (1 : Nat) ∧ false = false) ∧
   True ∧
   True ∧
   True ∧
   True ∧
   True ∧
   True ∧
   ((0 : Int) ≤ (7 : Int) ∧ (7 : Int) < (↑(8 : Nat) : Int) ∧ (8 : Nat) = (8 : Nat) ∧ (1 : Nat) = (1 : Nat)) ∧
   ((1 : Nat) ≠ (0 : Nat) ∧ (1 : Nat) = (1 : Nat) ∧ false = false) ∧
   True ∧
   (∃ (x_3 : W), ∃ (n : Nat), [D.val (Value.int IntKind.u32 (↑(BitVec.toNat (rd x l x_2).e) : Int)), D.val (Value.int IntKind.i64 (6 : Int))] = [D.val (Value.int IntKind.u32 (↑(BitVec.toNat x_3) : Int)), D.val (Value.int IntKind.i64 (↑n : Int))] ∧ (1 : Nat) ≤ n ∧ n ≤ (31 : Nat)) ∧
   True ∧
   (∃ (x_3 : W), ∃ (n : Nat), [D.val (Value.int IntKind.u32 (↑(BitVec.toNat (rd x l x_2).e) : Int)), D.val (Value.int IntKind.i64 (11 : Int))] = [D.val (Value.int IntKind.u32 (↑(BitVec.toNat x_3) : Int)), D.val (Value.int IntKind.i64 (↑n : Int))] ∧ (1 : Nat) ≤ n ∧ n ≤ (31 : Nat)) ∧
   True ∧
   True ∧
   (∃ (x_3 : W), ∃ (n : Nat), [D.val (Value.int IntKind.u32 (↑(BitVec.toNat (rd x l x_2).e) : Int)), D.val (Value.int IntKind.i64 (25 : Int))] = [D.val (Value.int IntKind.u32 (↑(BitVec.toNat x_3) : Int)), D.val (Value.int IntKind.i64 (↑n : Int))] ∧ (1 : Nat) ≤ n ∧ n ≤ (31 : Nat)) ∧
   True ∧
   True ∧
   True ∧
   True ∧
   True ∧
   True ∧
   True ∧
   True ∧
   True ∧
   True ∧
   True ∧
   True ∧
   ((0 : Int) ≤ (↑x_2 : Int) ∧ (↑x_2 : Int) < (↑(64 : Nat) : Int) ∧ (64 : Nat) = (64 : Nat) ∧ (1 : Nat) = (1 : Nat)) ∧
   ((1 : Nat) ≠ (0 : Nat) ∧ (1 : Nat) = (1 : Nat) ∧ false = false) ∧
   True ∧
   True ∧
   ((0 : Int) ≤ (↑x_2 : Int) ∧ (↑x_2 : Int) < (↑(64 : Nat) : Int) ∧ (64 : Nat) = (64 : Nat) ∧ (1 : Nat) = (1 : Nat)) ∧
   ((1 : Nat) ≠ (0 : Nat) ∧ (1 : Nat) = (1 : Nat) ∧ false = false) ∧
   True ∧
   True ∧
   True ∧
   (∃ (x_3 : W),
   ∃ (n : Nat),
   [D.val (Value.int IntKind.u32 (↑(BitVec.toNat (rd x l x_2).a) : Int)), D.val (Value.int IntKind.i64 (2 : Int))] = [D.val (Value.int IntKind.u32 (↑(BitVec.toNat x_3) : Int)), D.val (Value.int IntKind.i64 (↑n : Int))] ∧
   (1 : Nat) ≤ n ∧ n ≤ (31 : Nat)) ∧
   True ∧
   (∃ (x_3 : W),
   ∃ (n : Nat),
   [D.val (Value.int IntKind.u32 (↑(BitVec.toNat (rd x l x_2).a) : Int)), D.val (Value.int IntKind.i64 (13 : Int))] = [D.val (Value.int IntKind.u32 (↑(BitVec.toNat x_3) : Int)), D.val (Value.int IntKind.i64 (↑n : Int))] ∧
   (1 : Nat) ≤ n ∧ n ≤ (31 : Nat)) ∧
   True ∧
   True ∧
   (∃ (x_3 : W),
   ∃ (n : Nat),
   [D.val (Value.int IntKind.u32 (↑(BitVec.toNat (rd x l x_2).a) : Int)), D.val (Value.int IntKind.i64 (22 : Int))] = [D.val (Value.int IntKind.u32 (↑(BitVec.toNat x_3) : Int)), D.val (Value.int IntKind.i64 (↑n : Int))] ∧
   (1 : Nat) ≤ n ∧ n ≤ (31 : Nat)) ∧
   True ∧
   True ∧
   True ∧
   True ∧
   True ∧
   True ∧
   True ∧
   True ∧
   True ∧
   True ∧
   True ∧
   True ∧
   True ∧
   True ∧
   True ∧
   True ∧
   True ∧
   True ∧
   True ∧
   True ∧
   ((0 : Int) ≤ (3 : Int) ∧ (3 : Int) < (↑(8 : Nat) : Int) ∧ (8 : Nat) = (8 : Nat) ∧ (1 : Nat) = (1 : Nat)) ∧
   ((1 : Nat) ≠ (0 : Nat) ∧ (1 : Nat) = (1 : Nat) ∧ false = false) ∧
   True ∧
   True ∧
   True ∧
   True ∧
   True ∧
   ((1 : Nat) = (1 : Nat) ∧
   false = false ∧
   ((0 : Nat) < (8 : Nat) ∧ ([] : List Nat) = [] ∧ true = true) ∧
   false = false ∧
   ((1 : Nat) < (8 : Nat) ∧ ([] : List Nat) = [] ∧ true = true) ∧
   false = false ∧
   ((2 : Nat) < (8 : Nat) ∧ ([] : List Nat) = [] ∧ true = true) ∧
   false = false ∧
   ((3 : Nat) < (8 : Nat) ∧ ([] : List Nat) = [] ∧ true = true) ∧
   false = false ∧
   ((4 : Nat) < (8 : Nat) ∧ ([] : List Nat) = [] ∧ true = true) ∧
   false = false ∧
   ((5 : Nat) < (8 : Nat) ∧ ([] : List Nat) = [] ∧ true = true) ∧
   false = false ∧ ((6 : Nat) < (8 : Nat) ∧ ([] : List Nat) = [] ∧ true = true) ∧ false = false ∧ ((7 : Nat) < (8 : Nat) ∧ ([] : List Nat) = [] ∧ true = true) ∧ True) ∧
   (Sk.arr (8 : Nat) = Sk.arr (8 : Nat) ∧ (8 : Nat) ≠ (0 : Nat) ∧ (8 : Nat) = (8 : Nat) ∧ false = false) ∧
   True ∧
   True ∧
   ((AV.d (D.val (Value.int IntKind.i64 (IntKind.i64.wrap ((↑x_2 : Int) + (1 : Int))))) =
   AV.d (D.val (Value.int IntKind.i64 (↑(IntKind.i64.wrap ((↑x_2 : Int) + (1 : Int))).toNat : Int))) ∧
   True) ∧
   (sm
   (some
   (Blk.fix
   (D.arr IntKind.u32 (8 : Nat)
   [(↑(BitVec.toNat x.a) : Int), (↑(BitVec.toNat x.b) : Int), (↑(BitVec.toNat x.c) : Int), (↑(BitVec.toNat x.d) : Int), (↑(BitVec.toNat x.e) : Int),
   (↑(BitVec.toNat x.f) : Int), (↑(BitVec.toNat x.g) : Int), (↑(BitVec.toNat x.h) : Int)]))) ∧
   sm (some (Blk.fix (D.arr IntKind.u8 (64 : Nat) l))) ∧
   sm (some (Blk.fix (D.arr IntKind.u32 (8 : Nat) [(0 : Int), (0 : Int), (0 : Int), (0 : Int), (0 : Int), (0 : Int), (0 : Int), (0 : Int)]))) ∧
   sm (some (Blk.fix (D.arr IntKind.u32 (64 : Nat) (wl l x_1 ++ List.replicate ((64 : Nat) - x_1) (0 : Int))))) ∧
   some
   (Blk.fix
   (D.arr IntKind.u32 (8 : Nat)
   [IntKind.u32.wrap
   (IntKind.u32.wrap
   (IntKind.u32.wrap
   (IntKind.u32.wrap
   (IntKind.u32.wrap
   ((↑(BitVec.toNat (rd x l x_2).h) : Int) +
   ixor IntKind.u32
   (ixor IntKind.u32 (↑(BitVec.toNat (rr (toW (D.val (Value.int IntKind.u32 (↑(BitVec.toNat (rd x l x_2).e) : Int)))) (6 : Nat))) : Int)
   (↑(BitVec.toNat (rr (toW (D.val (Value.int IntKind.u32 (↑(BitVec.toNat (rd x l x_2).e) : Int)))) (11 : Nat))) : Int))
   (↑(BitVec.toNat (rr (toW (D.val (Value.int IntKind.u32 (↑(BitVec.toNat (rd x l x_2).e) : Int)))) (25 : Nat))) : Int)) +
   ixor IntKind.u32 (iand IntKind.u32 (↑(BitVec.toNat (rd x l x_2).e) : Int) (↑(BitVec.toNat (rd x l x_2).f) : Int))
   (iand IntKind.u32 (ixor IntKind.u32 IntKind.u32.max (↑(BitVec.toNat (rd x l x_2).e) : Int)) (↑(BitVec.toNat (rd x l x_2).g) : Int))) +
   gl0.getD (↑x_2 : Int).toNat (0 : Int)) +
   (wl l x_1 ++ List.replicate ((64 : Nat) - x_1) (0 : Int)).getD (↑x_2 : Int).toNat (0 : Int)) +
   IntKind.u32.wrap
   (ixor IntKind.u32
   (ixor IntKind.u32 (↑(BitVec.toNat (rr (toW (D.val (Value.int IntKind.u32 (↑(BitVec.toNat (rd x l x_2).a) : Int)))) (2 : Nat))) : Int)
   (↑(BitVec.toNat (rr (toW (D.val (Value.int IntKind.u32 (↑(BitVec.toNat (rd x l x_2).a) : Int)))) (13 : Nat))) : Int))
   (↑(BitVec.toNat (rr (toW (D.val (Value.int IntKind.u32 (↑(BitVec.toNat (rd x l x_2).a) : Int)))) (22 : Nat))) : Int) +
   ixor IntKind.u32
   (ixor IntKind.u32 (iand IntKind.u32 (↑(BitVec.toNat (rd x l x_2).a) : Int) (↑(BitVec.toNat (rd x l x_2).b) : Int))
   (iand IntKind.u32 (↑(BitVec.toNat (rd x l x_2).a) : Int) (↑(BitVec.toNat (rd x l x_2).c) : Int)))
   (iand IntKind.u32 (↑(BitVec.toNat (rd x l x_2).b) : Int) (↑(BitVec.toNat (rd x l x_2).c) : Int)))),
   (↑(BitVec.toNat (rd x l x_2).a) : Int), (↑(BitVec.toNat (rd x l x_2).b) : Int), (↑(BitVec.toNat (rd x l x_2).c) : Int),
   IntKind.u32.wrap
   ((↑(BitVec.toNat (rd x l x_2).d) : Int) +
   IntKind.u32.wrap
   (IntKind.u32.wrap
   (IntKind.u32.wrap
   (IntKind.u32.wrap
   ((↑(BitVec.toNat (rd x l x_2).h) : Int) +
   ixor IntKind.u32
   (ixor IntKind.u32 (↑(BitVec.toNat (rr (toW (D.val (Value.int IntKind.u32 (↑(BitVec.toNat (rd x l x_2).e) : Int)))) (6 : Nat))) : Int)
   (↑(BitVec.toNat (rr (toW (D.val (Value.int IntKind.u32 (↑(BitVec.toNat (rd x l x_2).e) : Int)))) (11 : Nat))) : Int))
   (↑(BitVec.toNat (rr (toW (D.val (Value.int IntKind.u32 (↑(BitVec.toNat (rd x l x_2).e) : Int)))) (25 : Nat))) : Int)) +
   ixor IntKind.u32 (iand IntKind.u32 (↑(BitVec.toNat (rd x l x_2).e) : Int) (↑(BitVec.toNat (rd x l x_2).f) : Int))
   (iand IntKind.u32 (ixor IntKind.u32 IntKind.u32.max (↑(BitVec.toNat (rd x l x_2).e) : Int)) (↑(BitVec.toNat (rd x l x_2).g) : Int))) +
   gl0.getD (↑x_2 : Int).toNat (0 : Int)) +
   (wl l x_1 ++ List.replicate ((64 : Nat) - x_1) (0 : Int)).getD (↑x_2 : Int).toNat (0 : Int))),
   (↑(BitVec.toNat (rd x l x_2).e) : Int), (↑(BitVec.toNat (rd x l x_2).f) : Int), (↑(BitVec.toNat (rd x l x_2).g) : Int)])) =
   some
   (Blk.fix
   (D.arr IntKind.u32 (8 : Nat)
   [(↑(BitVec.toNat (rd x l (IntKind.i64.wrap ((↑x_2 : Int) + (1 : Int))).toNat).a) : Int),
   (↑(BitVec.toNat (rd x l (IntKind.i64.wrap ((↑x_2 : Int) + (1 : Int))).toNat).b) : Int),
   (↑(BitVec.toNat (rd x l (IntKind.i64.wrap ((↑x_2 : Int) + (1 : Int))).toNat).c) : Int),
   (↑(BitVec.toNat (rd x l (IntKind.i64.wrap ((↑x_2 : Int) + (1 : Int))).toNat).d) : Int),
   (↑(BitVec.toNat (rd x l (IntKind.i64.wrap ((↑x_2 : Int) + (1 : Int))).toNat).e) : Int),
   (↑(BitVec.toNat (rd x l (IntKind.i64.wrap ((↑x_2 : Int) + (1 : Int))).toNat).f) : Int),
   (↑(BitVec.toNat (rd x l (IntKind.i64.wrap ((↑x_2 : Int) + (1 : Int))).toNat).g) : Int),
   (↑(BitVec.toNat (rd x l (IntKind.i64.wrap ((↑x_2 : Int) + (1 : Int))).toNat).h) : Int)])) ∧
   True) ∧
   true = true) ∧
   (IntKind.i64.wrap ((↑x_2 : Int) + (1 : Int))).toNat ≤ (64 : Nat) ∧ (64 : Nat) - (IntKind.i64.wrap ((↑x_2 : Int) + (1 : Int))).toNat < (64 : Nat) - x_2
  | false =>
   True ∧
   (((AV.d (D.val (Value.int IntKind.i64 (0 : Int))) = AV.d (D.val (Value.int IntKind.i64 (↑(Int.toNat (0 : Int)) : Int))) ∧ True) ∧
   (some (Blk.fix (D.arr IntKind.u32 (8 : Nat) [(↑(BitVec.toNat x.a) : Int), (↑(BitVec.toNat x.b) : Int), (↑(BitVec.toNat x.c) : Int), (↑(BitVec.toNat x.d) : Int), (↑(BitVec.toNat x.e) : Int), (↑(BitVec.toNat x.f) : Int), (↑(BitVec.toNat x.g) : Int), (↑(BitVec.toNat x.h) : Int)])) =
   some (Blk.fix (D.arr IntKind.u32 (8 : Nat) (mixL x l (Int.toNat (0 : Int))))) ∧
   sm (some (Blk.fix (D.arr IntKind.u8 (64 : Nat) l))) ∧
   sm (some (Blk.fix (D.arr IntKind.u32 (8 : Nat) [(0 : Int), (0 : Int), (0 : Int), (0 : Int), (0 : Int), (0 : Int), (0 : Int), (0 : Int)]))) ∧
   sm (some (Blk.fix (D.arr IntKind.u32 (64 : Nat) (wl l x_1 ++ List.replicate ((64 : Nat) - x_1) (0 : Int))))) ∧
   sm
   (some
   (Blk.fix
   (D.arr IntKind.u32 (8 : Nat)
   [(↑(BitVec.toNat (rd x l x_2).a) : Int), (↑(BitVec.toNat (rd x l x_2).b) : Int), (↑(BitVec.toNat (rd x l x_2).c) : Int), (↑(BitVec.toNat (rd x l x_2).d) : Int), (↑(BitVec.toNat (rd x l x_2).e) : Int), (↑(BitVec.toNat (rd x l x_2).f) : Int), (↑(BitVec.toNat (rd x l x_2).g) : Int), (↑(BitVec.toNat (rd x l x_2).h) : Int)]))) ∧
   True) ∧
   true = true) ∧
   Int.toNat (0 : Int) ≤ (8 : Nat)) ∧
   ∀ (x_3 : Nat),
   x_3 ≤ (8 : Nat) →
   true = true ∧
   True ∧
   match decide ((↑x_3 : Int) < (8 : Int)) with
   | true =>
    True ∧
    True ∧
    True ∧
    ((0 : Int) ≤ (↑x_3 : Int) ∧ (↑x_3 : Int) < (↑(8 : Nat) : Int) ∧ (8 : Nat) = (8 : Nat) ∧ (1 : Nat) = (1 : Nat)) ∧
    ((1 : Nat) ≠ (0 : Nat) ∧ (1 : Nat) = (1 : Nat) ∧ false = false) ∧
    True ∧
    ((0 : Int) ≤ (↑x_3 : Int) ∧ (↑x_3 : Int) < (↑(8 : Nat) : Int) ∧ (8 : Nat) = (8 : Nat) ∧ (1 : Nat) = (1 : Nat)) ∧
    ((1 : Nat) ≠ (0 : Nat) ∧ (1 : Nat) = (1 : Nat) ∧ false = false) ∧
    True ∧
    ((0 : Int) ≤ (↑x_3 : Int) ∧ (↑x_3 : Int) < (↑(8 : Nat) : Int) ∧ (8 : Nat) = (8 : Nat) ∧ (1 : Nat) = (1 : Nat)) ∧
    (((↑x_3 : Int).toNat < (8 : Nat) ∧ ([] : List Nat) = [] ∧ true = true) ∧ (1 : Nat) ≠ (0 : Nat) ∧ (1 : Nat) = (1 : Nat) ∧ false = false) ∧
    True ∧
    True ∧
    ((AV.d (D.val (Value.int IntKind.i64 (IntKind.i64.wrap ((↑x_3 : Int) + (1 : Int))))) = AV.d (D.val (Value.int IntKind.i64 (↑(IntKind.i64.wrap ((↑x_3 : Int) + (1 : Int))).toNat : Int))) ∧ True) ∧
    (some
    (Blk.fix
    (D.arr IntKind.u32 (8 : Nat)
    ((mixL x l x_3).set (↑x_3 : Int).toNat
    (IntKind.u32.wrap
    ((mixL x l x_3).getD (↑x_3 : Int).toNat (0 : Int) +
    [(↑(BitVec.toNat (rd x l x_2).a) : Int), (↑(BitVec.toNat (rd x l x_2).b) : Int), (↑(BitVec.toNat (rd x l x_2).c) : Int), (↑(BitVec.toNat (rd x l x_2).d) : Int), (↑(BitVec.toNat (rd x l x_2).e) : Int), (↑(BitVec.toNat (rd x l x_2).f) : Int), (↑(BitVec.toNat (rd x l x_2).g) : Int),
    (↑(BitVec.toNat (rd x l x_2).h) : Int)].getD
    (↑x_3 : Int).toNat (0 : Int)))))) =
    some (Blk.fix (D.arr IntKind.u32 (8 : Nat) (mixL x l (IntKind.i64.wrap ((↑x_3 : Int) + (1 : Int))).toNat))) ∧
    sm (some (Blk.fix (D.arr IntKind.u8 (64 : Nat) l))) ∧
    sm (some (Blk.fix (D.arr IntKind.u32 (8 : Nat) [(0 : Int), (0 : Int), (0 : Int), (0 : Int), (0 : Int), (0 : Int), (0 : Int), (0 : Int)]))) ∧
    sm (some (Blk.fix (D.arr IntKind.u32 (64 : Nat) (wl l x_1 ++ List.replicate ((64 : Nat) - x_1) (0 : Int))))) ∧
    sm
    (some
    (Blk.fix
    (D.arr IntKind.u32 (8 : Nat)
    [(↑(BitVec.toNat (rd x l x_2).a) : Int), (↑(BitVec.toNat (rd x l x_2).b) : Int), (↑(BitVec.toNat (rd x l x_2).c) : Int), (↑(BitVec.toNat (rd x l x_2).d) : Int), (↑(BitVec.toNat (rd x l x_2).e) : Int), (↑(BitVec.toNat (rd x l x_2).f) : Int), (↑(BitVec.toNat (rd x l x_2).g) : Int),
    (↑(BitVec.toNat (rd x l x_2).h) : Int)]))) ∧
    True) ∧
    true = true) ∧
    (IntKind.i64.wrap ((↑x_3 : Int) + (1 : Int))).toNat ≤ (8 : Nat) ∧ (8 : Nat) - (IntKind.i64.wrap ((↑x_3 : Int) + (1 : Int))).toNat < (8 : Nat) - x_3
   | false => ((8 : Nat) ≠ (0 : Nat) ∧ (8 : Nat) = (8 : Nat) ∧ true = true) ∧ (Sk.arr (8 : Nat) = Sk.arr (8 : Nat) ∧ (8 : Nat) ≠ (0 : Nat) ∧ (8 : Nat) = (8 : Nat) ∧ false = false) ∧ (((8 : Nat) ≠ (0 : Nat) ∧ (8 : Nat) = (8 : Nat) ∧ true = true) ∧ True) ∧ D.arr IntKind.u32 (8 : Nat) (mixL x l x_3) = F) := by kernel_rfl
end Go.Proofs.YtkicjckhkefnpaaDoor
namespace Go.Proofs.YtkicjckhkefnpaaDoor
open Go Go.Vg
theorem wsR_get (l : List Int) : ∀ t i, i < t → (wsR l t).getD i 0 = wn l (t - 1 - i)
 | 0, _, h => by omega
 | t + 1, 0, _ => rfl
 | t + 1, i + 1, h => by
  rw [wsR, List.getD_cons_succ, wsR_get l t i (by omega)]
  congr 1
  omega
theorem wn_lo (l : List Int) {t : Nat} (h : t < 16) : wn l t = wat l (4 * t) := by
 unfold wn
 rw [wsR, List.getD_cons_zero, if_pos h]
theorem wn_hi (l : List Int) {t : Nat} (h : 16 ≤ t) : wn l t = ((wn l (t - 16) + sA (wn l (t - 15))) + wn l (t - 7)) + sB (wn l (t - 2)) := by
 have e : wn l t = (wsR l (t + 1)).getD 0 0 := rfl
 rw [e, wsR, List.getD_cons_zero, if_neg (by omega), wsR_get l t 15 (by omega), wsR_get l t 14 (by omega), wsR_get l t 6 (by omega), wsR_get l t 1 (by omega)]
 rw [show t - 1 - 15 = t - 16 by omega, show t - 1 - 14 = t - 15 by omega, show t - 1 - 6 = t - 7 by omega, show t - 1 - 1 = t - 2 by omega]
theorem wl_len (l : List Int) (n : Nat) : (wl l n).length = n := by unfold wl; simp
theorem wl_get (l : List Int) {n j : Nat} (h : j < n) (r : List Int) : (wl l n ++ r).getD j 0 = ((wn l j).toNat : Int) := by
 rw [List.getD_eq_getElem?_getD, List.getElem?_append_left (by rw [wl_len]; exact h)]
 unfold wl
 simp [h]
theorem wl_succ (l : List Int) (n : Nat) : wl l (n + 1) = wl l n ++ [((wn l n).toNat : Int)] := by
 unfold wl
 rw [List.range_succ, List.map_append]
 rfl
theorem wl_set (l : List Int) {n : Nat} (h : n < 64) : (wl l n ++ List.replicate (64 - n) 0).set n ((wn l n).toNat : Int) = wl l (n + 1) ++ List.replicate (64 - (n + 1)) 0 := by
 have e : 64 - n = (64 - (n + 1)) + 1 := by omega
 rw [wl_succ, e, List.replicate_succ, List.set_append_right _ _ (by rw [wl_len]; omega), wl_len, Nat.sub_self, List.set_cons_zero, List.append_assoc]
 rfl
theorem gl_ok : (gl0.all fun n => decide (0 ≤ n) && decide (n < 4294967296)) = true ∧ gl0.length = 64 ∧ gl1 = gl0 := ⟨by decide +kernel, rfl, rfl⟩
theorem kW_eq {t : Nat} (h : t < 64) : gl0.getD t 0 = ((kW t).toNat : Int) := by
 have hl := gl_ok.2.1
 have hm : gl0.getD t 0 ∈ gl0 := by
  rw [List.getD_eq_getElem?_getD, List.getElem?_eq_getElem (by omega)]
  exact List.getElem_mem _
 have := List.all_eq_true.1 gl_ok.1 _ hm
 simp only [Bool.and_eq_true, decide_eq_true_eq] at this
 unfold kW
 generalize gl0.getD t 0 = z at *
 obtain ⟨n, rfl⟩ := Int.eq_ofNat_of_zero_le this.1
 rw [BitVec.ofInt_natCast, ofW _ (by omega)]
theorem shr3 (x : W) : ishr .u32 (x.toNat : Int) 3 = ((x >>> 3).toNat : Int) := shrW x (n := 3) (by decide)
theorem shr10 (x : W) : ishr .u32 (x.toNat : Int) 10 = ((x >>> 10).toNat : Int) := shrW x (n := 10) (by decide)
theorem notW' (x : W) : ixor .u32 IntKind.u32.max (x.toNat : Int) = ((~~~x).toNat : Int) := notW x
theorem mix_gen (x v : R8) {i : Nat} (h : i < 8) : ((add8 x v).l.take i ++ x.l.drop i).set i (IntKind.u32.wrap (((add8 x v).l.take i ++ x.l.drop i).getD i 0 + v.l.getD i 0)) = (add8 x v).l.take (i + 1) ++ x.l.drop (i + 1) := by
 rcases (by omega : i = 0 ∨ i = 1 ∨ i = 2 ∨ i = 3 ∨ i = 4 ∨ i = 5 ∨ i = 6 ∨ i = 7) with rfl | rfl | rfl | rfl | rfl | rfl | rfl | rfl <;>
  simp [R8.l, add8, addW]
theorem mix_step (x : R8) (l : List Int) {i : Nat} (h : i < 8) : (mixL x l i).set i (IntKind.u32.wrap ((mixL x l i).getD i 0 + (rd x l 64).l.getD i 0)) = mixL x l (i + 1) := by
 unfold mixL pr
 exact mix_gen _ _ h
theorem ofR_l (x : R8) : ofR x.l = x := by
 have h : ∀ y : W, BitVec.ofInt 32 (y.toNat : Int) = y := toW_wd
 show R8.mk (BitVec.ofInt 32 (x.a.toNat : Int)) (BitVec.ofInt 32 (x.b.toNat : Int)) (BitVec.ofInt 32 (x.c.toNat : Int)) (BitVec.ofInt 32 (x.d.toNat : Int)) (BitVec.ofInt 32 (x.e.toNat : Int)) (BitVec.ofInt 32 (x.f.toNat : Int)) (BitVec.ofInt 32 (x.g.toNat : Int)) (BitVec.ofInt 32 (x.h.toNat : Int)) = x
 simp only [h]
theorem fA (x : W) : (rr x 7 ^^^ rr x 18) ^^^ x >>> 3 = sA x := rfl
theorem fB (x : W) : (rr x 17 ^^^ rr x 19) ^^^ x >>> 10 = sB x := rfl
theorem fC (x : W) : (rr x 6 ^^^ rr x 11) ^^^ rr x 25 = sC x := rfl
theorem fD (x : W) : (rr x 2 ^^^ rr x 13) ^^^ rr x 22 = sD x := rfl
theorem fch (x y z : W) : (x &&& y) ^^^ (~~~x &&& z) = chW x y z := rfl
theorem fmj (x y z : W) : ((x &&& y) ^^^ (x &&& z)) ^^^ (y &&& z) = mjW x y z := rfl
theorem rd_succ (x : R8) (l : List Int) (t : Nat) : rd x l (t + 1) = rdS (rd x l t) (kW t) (wn l t) := rfl
set_option maxRecDepth 100000 in
theorem m117 : Meets Tryd.prog 117 sp117 := by
 refine meets_of_owed (C := c117) ⟨tab_ok, lkS_ok ⟨m129, m130, trivial⟩⟩ (by kernel_rfl) (by kernel_rfl : Tryd.prog.funcs[117]? = some Tryd.f117) (by kernel_rfl) (by kernel_rfl) (by kernel_rfl) _ ?_
 rintro _ ⟨x, l, rfl, hb, hl⟩
 refine ⟨fun _ => rfl, inv117 x l, ?_⟩
 show owed c117 (inv117 x l) Tryd.f117 [a8 x.l, .arr .u8 64 l] (a8 (prL x.l l))
 unfold prL
 rw [vc117, ofR_l]
 have hw0 : wl l 0 = [] := rfl
 have hm0 : mixL x l 0 = x.l := rfl
 have hr0 : rd x l 0 = x := rfl
 have hxl : [((x.a.toNat : Nat) : Int), ((x.b.toNat : Nat) : Int), ((x.c.toNat : Nat) : Int), ((x.d.toNat : Nat) : Int), ((x.e.toNat : Nat) : Int), ((x.f.toNat : Nat) : Int), ((x.g.toNat : Nat) : Int), ((x.h.toNat : Nat) : Int)] = x.l := rfl
 simp (decide := true) only [eq_self, true_and, and_true, ne_eq, not_false_eq_true, Int.toNat_natCast, hw0, List.nil_append, Int.toNat_zero, hm0, hr0, hxl]
 refine ⟨rfl, fun t ht => ?_⟩
 split
 ·rename_i h
  have h : t < 64 := by have := of_decide_eq_true h; omega
  have ew : IntKind.i64.wrap ((t : Int) + 1) = ((t + 1 : Nat) : Int) := by rw [wi (by omega) (by omega)]; omega
  split
  ·rename_i h2
   have h2 : t < 16 := by have := of_decide_eq_true h2; omega
   have e4 : IntKind.i64.wrap (4 * (t : Int)) = ((4 * t : Nat) : Int) := by rw [wi (by omega) (by omega)]; omega
   rw [e4, ew, Int.toNat_natCast, Int.toNat_natCast]
   simp only [List.drop_zero, Nat.sub_zero, List.take_of_length_le (Nat.le_of_eq hl), ← wn_lo l h2, wl_set l h]
   refine ⟨⟨l, 4 * t, rfl, hb, by omega, by omega⟩, ?_⟩
   and_intros <;> first | exact trivial | rfl | omega
  ·rename_i h2
   have h2 : 16 ≤ t := by have := of_decide_eq_false h2; omega
   have e15 : IntKind.i64.wrap ((t : Int) - 15) = ((t - 15 : Nat) : Int) := by rw [wi (by omega) (by omega)]; omega
   have e16 : IntKind.i64.wrap ((t : Int) - 16) = ((t - 16 : Nat) : Int) := by rw [wi (by omega) (by omega)]; omega
   have e7 : IntKind.i64.wrap ((t : Int) - 7) = ((t - 7 : Nat) : Int) := by rw [wi (by omega) (by omega)]; omega
   have e2 : IntKind.i64.wrap ((t : Int) - 2) = ((t - 2 : Nat) : Int) := by rw [wi (by omega) (by omega)]; omega
   have g15 := wl_get l (n := t) (j := t - 15) (by omega) (List.replicate (64 - t) 0)
   have g16 := wl_get l (n := t) (j := t - 16) (by omega) (List.replicate (64 - t) 0)
   have g7 := wl_get l (n := t) (j := t - 7) (by omega) (List.replicate (64 - t) 0)
   have g2 := wl_get l (n := t) (j := t - 2) (by omega) (List.replicate (64 - t) 0)
   simp only [e15, e16, e7, e2, ew, Int.toNat_natCast, g15, g16, g7, g2, toW_wd, xorW, shr3, shr10, addW, fA, fB, ← wn_hi l h2, wl_set l h]
   and_intros <;> first | exact trivial | rfl | omega | exact ⟨_, 7, rfl, by decide, by decide⟩ | exact ⟨_, 18, rfl, by decide, by decide⟩ | exact ⟨_, 17, rfl, by decide, by decide⟩ | exact ⟨_, 19, rfl, by decide, by decide⟩
 ·rename_i h
  obtain rfl : t = 64 := by have := of_decide_eq_false h; omega
  refine ⟨rfl, fun t ht => ?_⟩
  split
  ·rename_i h
   have h : t < 64 := by have := of_decide_eq_true h; omega
   have ew : IntKind.i64.wrap ((t : Int) + 1) = ((t + 1 : Nat) : Int) := by rw [wi (by omega) (by omega)]; omega
   have gt := wl_get l (n := 64) (j := t) h (List.replicate (64 - 64) 0)
   simp only [ew, Int.toNat_natCast, gt, kW_eq h, toW_wd, xorW, andW, notW', addW, fC, fD, fch, fmj, rd_succ]
   and_intros <;> first | exact trivial | rfl | omega | exact ⟨_, 6, rfl, by decide, by decide⟩ | exact ⟨_, 11, rfl, by decide, by decide⟩ | exact ⟨_, 25, rfl, by decide, by decide⟩ | exact ⟨_, 2, rfl, by decide, by decide⟩ | exact ⟨_, 13, rfl, by decide, by decide⟩ | exact ⟨_, 22, rfl, by decide, by decide⟩
  ·rename_i h
   obtain rfl : t = 64 := by have := of_decide_eq_false h; omega
   refine ⟨rfl, fun t ht => ?_⟩
   split
   ·rename_i h
    have h : t < 8 := by have := of_decide_eq_true h; omega
    have ew : IntKind.i64.wrap ((t : Int) + 1) = ((t + 1 : Nat) : Int) := by rw [wi (by omega) (by omega)]; omega
    have hs := mix_step x l h
    simp only [R8.l] at hs
    simp only [ew, Int.toNat_natCast, hs]
    and_intros <;> first | exact trivial | rfl | omega
   ·rename_i h
    obtain rfl : t = 8 := by have := of_decide_eq_false h; omega
    rfl
end Go.Proofs.YtkicjckhkefnpaaDoor
