/- The numbers of package limb: Bit, Len and Pick; the document's OfBits: what they owe. -/
import Derived.Test.YtkicjckhkefnpaaDoorZb11
import Derived.Test.YtkicjckhkefnpaaDoorZb9
import Derived.Test.YtkicjckhkefnpaaDoorZb10
namespace Go.Proofs.YtkicjckhkefnpaaDoor
open Go Go.Vg
def bl2 (n : Nat) : Nat := if n = 0 then 0 else Nat.log2 n + 1
def sp94 : Go.Vg.Spec := ⟨fun ds => ∃ l, ds = [num4 l] ∧ isN l, fun ds => i64n (bl2 (wv (arrOf (ds.headD default)))), true, [75]⟩
def sp122 : Go.Vg.Spec := ⟨fun ds => ∃ x, ds = [u64n x] ∧ x < B64, fun ds => i64n (bl2 (nn (ds.headD default))), true, [73]⟩
def c94 : Ctx := ⟨tab, lkS [(122, sp122)], [], []⟩
def inv94 (l : List Int) : Nat → Option Inv
 | 2 => some ⟨Int, fun i => [(3, .d (i64 i))], fun _ => [], fun s => slotN s 3, fun _ i => (-1 ≤ i ∧ i ≤ 3) ∧ wv (l.drop (i + 1).toNat) = 0, fun i => (i + 1).toNat⟩
 | _ => none
set_option maxRecDepth 100000 in
theorem vc94  (l : List Int) (F : D)  :
    (owed c94 (inv94 l) Tryd.f94 [num4 l] F) = (
 (True ∧ false = false) ∧ True ∧ True ∧ (((sm (AV.d (D.val (.int .i64 3))) ∧ True) ∧ (sm (some (Blk.fix (D.arr .u64 4 l))) ∧ True) ∧ true = true) ∧ ((-1 : Int) ≤ (3 : Int) ∧ (3 : Int) ≤ 3) ∧ vB 18446744073709551616 (List.drop ((3 : Int) + (1 : Int)).toNat l) = 0) ∧ ∀ (x : Int), ((-1 : Int) ≤ x ∧ x ≤ (3 : Int)) ∧ vB 18446744073709551616 (List.drop (x + (1 : Int)).toNat l) = 0 → true = true ∧ True ∧ True ∧ match decide (x ≥ (0 : Int)) with
 | true => True ∧ ((0 : Int) ≤ x ∧ x < (↑(4 : Nat) : Int) ∧ 4 = 4 ∧ 1 = 1) ∧ (1 ≠ 0 ∧ 1 = 1 ∧ false = false) ∧ True ∧ match l.getD x.toNat (0 : Int) != (0 : Int) with
  | true => True ∧ True ∧ True ∧ ((0 : Int) ≤ x ∧ x < (↑(4 : Nat) : Int) ∧ 4 = 4 ∧ 1 = 1) ∧ (1 ≠ 0 ∧ 1 = 1 ∧ false = false) ∧ (∃ (x_1 : Nat), [D.val (.int .u64 (l.getD x.toNat (0 : Int)))] = [D.val (.int .u64 (↑x_1 : Int))] ∧ x_1 < 18446744073709551616) ∧ True ∧ True ∧ (false = false ∧ True) ∧ D.val (.int .i64 (IntKind.i64.wrap (IntKind.i64.wrap ((64 : Int) * x) + (↑(bl2 (l.getD x.toNat (0 : Int)).toNat) : Int)))) = F
  | false => True ∧ True ∧ True ∧ ((sm (AV.d (D.val (.int .i64 (IntKind.i64.wrap (x - (1 : Int)))))) ∧ True) ∧ (sm (some (Blk.fix (D.arr .u64 4 l))) ∧ True) ∧ true = true) ∧ (((-1 : Int) ≤ IntKind.i64.wrap (x - (1 : Int)) ∧ IntKind.i64.wrap (x - (1 : Int)) ≤ (3 : Int)) ∧ vB 18446744073709551616 (List.drop (IntKind.i64.wrap (x - (1 : Int)) + (1 : Int)).toNat l) = 0) ∧ (IntKind.i64.wrap (x - (1 : Int)) + (1 : Int)).toNat < (x + (1 : Int)).toNat
 | false => True ∧ (false = false ∧ True) ∧ D.val (.int .i64 0) = F) := by kernel_rfl
set_option maxRecDepth 100000 in
theorem vc122  (x : Nat) (F : D)  :
    (owed c105 (fun _ => none) Tryd.f122 [u64n x] F) = (
 True ∧ True ∧ True ∧ match decide ((↑x : Int) ≥ (4294967296 : Int)) with
 | true => True ∧ (0 : Int) ≤ 32 ∧ True ∧ True ∧ True ∧ True ∧ match decide (ishr IntKind.u64 (↑x : Int) (32 : Int) ≥ 65536) with
  | true => True ∧ (0 : Int) ≤ 16 ∧ True ∧ True ∧ True ∧ True ∧ True ∧ True ∧ match decide (ishr IntKind.u64 (ishr IntKind.u64 (↑x : Int) (32 : Int)) (16 : Int) ≥ 256) with
   | true => True ∧ (0 : Int) ≤ 8 ∧ True ∧ True ∧ True ∧ True ∧ True ∧ True ∧ True ∧ ((0 : Int) ≤ IntKind.u8.wrap (ishr IntKind.u64 (ishr IntKind.u64 (ishr IntKind.u64 (↑x : Int) (32 : Int)) (16 : Int)) (8 : Int)) ∧ IntKind.u8.wrap (ishr IntKind.u64 (ishr IntKind.u64 (ishr IntKind.u64 (↑x : Int) (32 : Int)) (16 : Int)) (8 : Int)) < (↑(ints { data := { toList := [0, 1, 2, 2, 3, 3, 3, 3, 4, 4, 4, 4, 4, 4, 4, 4, 5, 5, 5, 5, 5, 5, 5, 5, 5, 5, 5, 5, 5, 5, 5, 5, 6, 6, 6, 6, 6, 6, 6, 6, 6, 6, 6, 6, 6, 6, 6, 6, 6, 6, 6, 6, 6, 6, 6, 6, 6, 6, 6, 6, 6, 6, 6, 6, 7, 7, 7, 7, 7, 7, 7, 7, 7, 7, 7, 7, 7, 7, 7, 7, 7, 7, 7, 7, 7, 7, 7, 7, 7, 7, 7, 7, 7, 7, 7, 7, 7, 7, 7, 7, 7, 7, 7, 7, 7, 7, 7, 7, 7, 7, 7, 7, 7, 7, 7, 7, 7, 7, 7, 7, 7, 7, 7, 7, 7, 7, 7, 7, 8, 8, 8, 8, 8, 8, 8, 8, 8, 8, 8, 8, 8, 8, 8, 8, 8, 8, 8, 8, 8, 8, 8, 8, 8, 8, 8, 8, 8, 8, 8, 8, 8, 8, 8, 8, 8, 8, 8, 8, 8, 8, 8, 8, 8, 8, 8, 8, 8, 8, 8, 8, 8, 8, 8, 8, 8, 8, 8, 8, 8, 8, 8, 8, 8, 8, 8, 8, 8, 8, 8, 8, 8, 8, 8, 8, 8, 8, 8, 8, 8, 8, 8, 8, 8, 8, 8, 8, 8, 8, 8, 8, 8, 8, 8, 8, 8, 8, 8, 8, 8, 8, 8, 8, 8, 8, 8, 8, 8, 8, 8, 8, 8, 8, 8, 8, 8, 8, 8, 8, 8, 8, 8, 8, 8, 8, 8, 8] } }).length : Int)) ∧ True ∧ True ∧ True ∧ (false = false ∧ True) ∧ D.val (Value.int IntKind.i64 (IntKind.i64.wrap (IntKind.i64.wrap (IntKind.i64.wrap ((32 : Int) + (16 : Int)) + (8 : Int)) + IntKind.i64.wrap ((ints { data := { toList := [0, 1, 2, 2, 3, 3, 3, 3, 4, 4, 4, 4, 4, 4, 4, 4, 5, 5, 5, 5, 5, 5, 5, 5, 5, 5, 5, 5, 5, 5, 5, 5, 6, 6, 6, 6, 6, 6, 6, 6, 6, 6, 6, 6, 6, 6, 6, 6, 6, 6, 6, 6, 6, 6, 6, 6, 6, 6, 6, 6, 6, 6, 6, 6, 7, 7, 7, 7, 7, 7, 7, 7, 7, 7, 7, 7, 7, 7, 7, 7, 7, 7, 7, 7, 7, 7, 7, 7, 7, 7, 7, 7, 7, 7, 7, 7, 7, 7, 7, 7, 7, 7, 7, 7, 7, 7, 7, 7, 7, 7, 7, 7, 7, 7, 7, 7, 7, 7, 7, 7, 7, 7, 7, 7, 7, 7, 7, 7, 8, 8, 8, 8, 8, 8, 8, 8, 8, 8, 8, 8, 8, 8, 8, 8, 8, 8, 8, 8, 8, 8, 8, 8, 8, 8, 8, 8, 8, 8, 8, 8, 8, 8, 8, 8, 8, 8, 8, 8, 8, 8, 8, 8, 8, 8, 8, 8, 8, 8, 8, 8, 8, 8, 8, 8, 8, 8, 8, 8, 8, 8, 8, 8, 8, 8, 8, 8, 8, 8, 8, 8, 8, 8, 8, 8, 8, 8, 8, 8, 8, 8, 8, 8, 8, 8, 8, 8, 8, 8, 8, 8, 8, 8, 8, 8, 8, 8, 8, 8, 8, 8, 8, 8, 8, 8, 8, 8, 8, 8, 8, 8, 8, 8, 8, 8, 8, 8, 8, 8, 8, 8, 8, 8, 8, 8, 8, 8] } }).getD (IntKind.u8.wrap (ishr IntKind.u64 (ishr IntKind.u64 (ishr IntKind.u64 (↑x : Int) (32 : Int)) (16 : Int)) (8 : Int))).toNat (0 : Int))))) = F
   | false => True ∧ True ∧ True ∧ ((0 : Int) ≤ IntKind.u8.wrap (ishr IntKind.u64 (ishr IntKind.u64 (↑x : Int) (32 : Int)) (16 : Int)) ∧ IntKind.u8.wrap (ishr IntKind.u64 (ishr IntKind.u64 (↑x : Int) (32 : Int)) (16 : Int)) < (↑(ints { data := { toList := [0, 1, 2, 2, 3, 3, 3, 3, 4, 4, 4, 4, 4, 4, 4, 4, 5, 5, 5, 5, 5, 5, 5, 5, 5, 5, 5, 5, 5, 5, 5, 5, 6, 6, 6, 6, 6, 6, 6, 6, 6, 6, 6, 6, 6, 6, 6, 6, 6, 6, 6, 6, 6, 6, 6, 6, 6, 6, 6, 6, 6, 6, 6, 6, 7, 7, 7, 7, 7, 7, 7, 7, 7, 7, 7, 7, 7, 7, 7, 7, 7, 7, 7, 7, 7, 7, 7, 7, 7, 7, 7, 7, 7, 7, 7, 7, 7, 7, 7, 7, 7, 7, 7, 7, 7, 7, 7, 7, 7, 7, 7, 7, 7, 7, 7, 7, 7, 7, 7, 7, 7, 7, 7, 7, 7, 7, 7, 7, 8, 8, 8, 8, 8, 8, 8, 8, 8, 8, 8, 8, 8, 8, 8, 8, 8, 8, 8, 8, 8, 8, 8, 8, 8, 8, 8, 8, 8, 8, 8, 8, 8, 8, 8, 8, 8, 8, 8, 8, 8, 8, 8, 8, 8, 8, 8, 8, 8, 8, 8, 8, 8, 8, 8, 8, 8, 8, 8, 8, 8, 8, 8, 8, 8, 8, 8, 8, 8, 8, 8, 8, 8, 8, 8, 8, 8, 8, 8, 8, 8, 8, 8, 8, 8, 8, 8, 8, 8, 8, 8, 8, 8, 8, 8, 8, 8, 8, 8, 8, 8, 8, 8, 8, 8, 8, 8, 8, 8, 8, 8, 8, 8, 8, 8, 8, 8, 8, 8, 8, 8, 8, 8, 8, 8, 8, 8, 8] } }).length : Int)) ∧ True ∧ True ∧ True ∧ (false = false ∧ True) ∧ D.val (Value.int IntKind.i64 (IntKind.i64.wrap (IntKind.i64.wrap ((32 : Int) + (16 : Int)) + IntKind.i64.wrap ((ints { data := { toList := [0, 1, 2, 2, 3, 3, 3, 3, 4, 4, 4, 4, 4, 4, 4, 4, 5, 5, 5, 5, 5, 5, 5, 5, 5, 5, 5, 5, 5, 5, 5, 5, 6, 6, 6, 6, 6, 6, 6, 6, 6, 6, 6, 6, 6, 6, 6, 6, 6, 6, 6, 6, 6, 6, 6, 6, 6, 6, 6, 6, 6, 6, 6, 6, 7, 7, 7, 7, 7, 7, 7, 7, 7, 7, 7, 7, 7, 7, 7, 7, 7, 7, 7, 7, 7, 7, 7, 7, 7, 7, 7, 7, 7, 7, 7, 7, 7, 7, 7, 7, 7, 7, 7, 7, 7, 7, 7, 7, 7, 7, 7, 7, 7, 7, 7, 7, 7, 7, 7, 7, 7, 7, 7, 7, 7, 7, 7, 7, 8, 8, 8, 8, 8, 8, 8, 8, 8, 8, 8, 8, 8, 8, 8, 8, 8, 8, 8, 8, 8, 8, 8, 8, 8, 8, 8, 8, 8, 8, 8, 8, 8, 8, 8, 8, 8, 8, 8, 8, 8, 8, 8, 8, 8, 8, 8, 8, 8, 8, 8, 8, 8, 8, 8, 8, 8, 8, 8, 8, 8, 8, 8, 8, 8, 8, 8, 8, 8, 8, 8, 8, 8, 8, 8, 8, 8, 8, 8, 8, 8, 8, 8, 8, 8, 8, 8, 8, 8, 8, 8, 8, 8, 8, 8, 8, 8, 8, 8, 8, 8, 8, 8, 8, 8, 8, 8, 8, 8, 8, 8, 8, 8, 8, 8, 8, 8, 8, 8, 8, 8, 8, 8, 8, 8, 8, 8, 8] } }).getD (IntKind.u8.wrap (ishr IntKind.u64 (ishr IntKind.u64 (↑x : Int) (32 : Int)) (16 : Int))).toNat (0 : Int))))) = F
  | false => True ∧ True ∧ match decide (ishr IntKind.u64 (↑x : Int) (32 : Int) ≥ 256) with
   | true => True ∧ (0 : Int) ≤ 8 ∧ True ∧ True ∧ True ∧ True ∧ True ∧ True ∧ True ∧ ((0 : Int) ≤ IntKind.u8.wrap (ishr IntKind.u64 (ishr IntKind.u64 (↑x : Int) (32 : Int)) (8 : Int)) ∧ IntKind.u8.wrap (ishr IntKind.u64 (ishr IntKind.u64 (↑x : Int) (32 : Int)) (8 : Int)) < (↑(ints { data := { toList := [0, 1, 2, 2, 3, 3, 3, 3, 4, 4, 4, 4, 4, 4, 4, 4, 5, 5, 5, 5, 5, 5, 5, 5, 5, 5, 5, 5, 5, 5, 5, 5, 6, 6, 6, 6, 6, 6, 6, 6, 6, 6, 6, 6, 6, 6, 6, 6, 6, 6, 6, 6, 6, 6, 6, 6, 6, 6, 6, 6, 6, 6, 6, 6, 7, 7, 7, 7, 7, 7, 7, 7, 7, 7, 7, 7, 7, 7, 7, 7, 7, 7, 7, 7, 7, 7, 7, 7, 7, 7, 7, 7, 7, 7, 7, 7, 7, 7, 7, 7, 7, 7, 7, 7, 7, 7, 7, 7, 7, 7, 7, 7, 7, 7, 7, 7, 7, 7, 7, 7, 7, 7, 7, 7, 7, 7, 7, 7, 8, 8, 8, 8, 8, 8, 8, 8, 8, 8, 8, 8, 8, 8, 8, 8, 8, 8, 8, 8, 8, 8, 8, 8, 8, 8, 8, 8, 8, 8, 8, 8, 8, 8, 8, 8, 8, 8, 8, 8, 8, 8, 8, 8, 8, 8, 8, 8, 8, 8, 8, 8, 8, 8, 8, 8, 8, 8, 8, 8, 8, 8, 8, 8, 8, 8, 8, 8, 8, 8, 8, 8, 8, 8, 8, 8, 8, 8, 8, 8, 8, 8, 8, 8, 8, 8, 8, 8, 8, 8, 8, 8, 8, 8, 8, 8, 8, 8, 8, 8, 8, 8, 8, 8, 8, 8, 8, 8, 8, 8, 8, 8, 8, 8, 8, 8, 8, 8, 8, 8, 8, 8, 8, 8, 8, 8, 8, 8] } }).length : Int)) ∧ True ∧ True ∧ True ∧ (false = false ∧ True) ∧ D.val (Value.int IntKind.i64 (IntKind.i64.wrap (IntKind.i64.wrap ((32 : Int) + (8 : Int)) + IntKind.i64.wrap ((ints { data := { toList := [0, 1, 2, 2, 3, 3, 3, 3, 4, 4, 4, 4, 4, 4, 4, 4, 5, 5, 5, 5, 5, 5, 5, 5, 5, 5, 5, 5, 5, 5, 5, 5, 6, 6, 6, 6, 6, 6, 6, 6, 6, 6, 6, 6, 6, 6, 6, 6, 6, 6, 6, 6, 6, 6, 6, 6, 6, 6, 6, 6, 6, 6, 6, 6, 7, 7, 7, 7, 7, 7, 7, 7, 7, 7, 7, 7, 7, 7, 7, 7, 7, 7, 7, 7, 7, 7, 7, 7, 7, 7, 7, 7, 7, 7, 7, 7, 7, 7, 7, 7, 7, 7, 7, 7, 7, 7, 7, 7, 7, 7, 7, 7, 7, 7, 7, 7, 7, 7, 7, 7, 7, 7, 7, 7, 7, 7, 7, 7, 8, 8, 8, 8, 8, 8, 8, 8, 8, 8, 8, 8, 8, 8, 8, 8, 8, 8, 8, 8, 8, 8, 8, 8, 8, 8, 8, 8, 8, 8, 8, 8, 8, 8, 8, 8, 8, 8, 8, 8, 8, 8, 8, 8, 8, 8, 8, 8, 8, 8, 8, 8, 8, 8, 8, 8, 8, 8, 8, 8, 8, 8, 8, 8, 8, 8, 8, 8, 8, 8, 8, 8, 8, 8, 8, 8, 8, 8, 8, 8, 8, 8, 8, 8, 8, 8, 8, 8, 8, 8, 8, 8, 8, 8, 8, 8, 8, 8, 8, 8, 8, 8, 8, 8, 8, 8, 8, 8, 8, 8, 8, 8, 8, 8, 8, 8, 8, 8, 8, 8, 8, 8, 8, 8, 8, 8, 8, 8] } }).getD (IntKind.u8.wrap (ishr IntKind.u64 (ishr IntKind.u64 (↑x : Int) (32 : Int)) (8 : Int))).toNat (0 : Int))))) = F
   | false => True ∧ True ∧ True ∧ ((0 : Int) ≤ IntKind.u8.wrap (ishr IntKind.u64 (↑x : Int) (32 : Int)) ∧ IntKind.u8.wrap (ishr IntKind.u64 (↑x : Int) (32 : Int)) < (↑(ints { data := { toList := [0, 1, 2, 2, 3, 3, 3, 3, 4, 4, 4, 4, 4, 4, 4, 4, 5, 5, 5, 5, 5, 5, 5, 5, 5, 5, 5, 5, 5, 5, 5, 5, 6, 6, 6, 6, 6, 6, 6, 6, 6, 6, 6, 6, 6, 6, 6, 6, 6, 6, 6, 6, 6, 6, 6, 6, 6, 6, 6, 6, 6, 6, 6, 6, 7, 7, 7, 7, 7, 7, 7, 7, 7, 7, 7, 7, 7, 7, 7, 7, 7, 7, 7, 7, 7, 7, 7, 7, 7, 7, 7, 7, 7, 7, 7, 7, 7, 7, 7, 7, 7, 7, 7, 7, 7, 7, 7, 7, 7, 7, 7, 7, 7, 7, 7, 7, 7, 7, 7, 7, 7, 7, 7, 7, 7, 7, 7, 7, 8, 8, 8, 8, 8, 8, 8, 8, 8, 8, 8, 8, 8, 8, 8, 8, 8, 8, 8, 8, 8, 8, 8, 8, 8, 8, 8, 8, 8, 8, 8, 8, 8, 8, 8, 8, 8, 8, 8, 8, 8, 8, 8, 8, 8, 8, 8, 8, 8, 8, 8, 8, 8, 8, 8, 8, 8, 8, 8, 8, 8, 8, 8, 8, 8, 8, 8, 8, 8, 8, 8, 8, 8, 8, 8, 8, 8, 8, 8, 8, 8, 8, 8, 8, 8, 8, 8, 8, 8, 8, 8, 8, 8, 8, 8, 8, 8, 8, 8, 8, 8, 8, 8, 8, 8, 8, 8, 8, 8, 8, 8, 8, 8, 8, 8, 8, 8, 8, 8, 8, 8, 8, 8, 8, 8, 8, 8, 8] } }).length : Int)) ∧ True ∧ True ∧ True ∧ (false = false ∧ True) ∧ D.val (Value.int IntKind.i64 (IntKind.i64.wrap ((32 : Int) + IntKind.i64.wrap ((ints { data := { toList := [0, 1, 2, 2, 3, 3, 3, 3, 4, 4, 4, 4, 4, 4, 4, 4, 5, 5, 5, 5, 5, 5, 5, 5, 5, 5, 5, 5, 5, 5, 5, 5, 6, 6, 6, 6, 6, 6, 6, 6, 6, 6, 6, 6, 6, 6, 6, 6, 6, 6, 6, 6, 6, 6, 6, 6, 6, 6, 6, 6, 6, 6, 6, 6, 7, 7, 7, 7, 7, 7, 7, 7, 7, 7, 7, 7, 7, 7, 7, 7, 7, 7, 7, 7, 7, 7, 7, 7, 7, 7, 7, 7, 7, 7, 7, 7, 7, 7, 7, 7, 7, 7, 7, 7, 7, 7, 7, 7, 7, 7, 7, 7, 7, 7, 7, 7, 7, 7, 7, 7, 7, 7, 7, 7, 7, 7, 7, 7, 8, 8, 8, 8, 8, 8, 8, 8, 8, 8, 8, 8, 8, 8, 8, 8, 8, 8, 8, 8, 8, 8, 8, 8, 8, 8, 8, 8, 8, 8, 8, 8, 8, 8, 8, 8, 8, 8, 8, 8, 8, 8, 8, 8, 8, 8, 8, 8, 8, 8, 8, 8, 8, 8, 8, 8, 8, 8, 8, 8, 8, 8, 8, 8, 8, 8, 8, 8, 8, 8, 8, 8, 8, 8, 8, 8, 8, 8, 8, 8, 8, 8, 8, 8, 8, 8, 8, 8, 8, 8, 8, 8, 8, 8, 8, 8, 8, 8, 8, 8, 8, 8, 8, 8, 8, 8, 8, 8, 8, 8, 8, 8, 8, 8, 8, 8, 8, 8, 8, 8, 8, 8, 8, 8, 8, 8, 8, 8] } }).getD (IntKind.u8.wrap (ishr IntKind.u64 (↑x : Int) (32 : Int))).toNat (0 : Int))))) = F
 | false => True ∧ True ∧ match decide ((↑x : Int) ≥ (65536 : Int)) with
  | true => True ∧ (0 : Int) ≤ 16 ∧ True ∧ True ∧ True ∧ True ∧ True ∧ True ∧ match decide (ishr IntKind.u64 (↑x : Int) (16 : Int) ≥ 256) with
   | true => True ∧ (0 : Int) ≤ 8 ∧ True ∧ True ∧ True ∧ True ∧ True ∧ True ∧ True ∧ ((0 : Int) ≤ IntKind.u8.wrap (ishr IntKind.u64 (ishr IntKind.u64 (↑x : Int) (16 : Int)) (8 : Int)) ∧ IntKind.u8.wrap (ishr IntKind.u64 (ishr IntKind.u64 (↑x : Int) (16 : Int)) (8 : Int)) < (↑(ints { data := { toList := [0, 1, 2, 2, 3, 3, 3, 3, 4, 4, 4, 4, 4, 4, 4, 4, 5, 5, 5, 5, 5, 5, 5, 5, 5, 5, 5, 5, 5, 5, 5, 5, 6, 6, 6, 6, 6, 6, 6, 6, 6, 6, 6, 6, 6, 6, 6, 6, 6, 6, 6, 6, 6, 6, 6, 6, 6, 6, 6, 6, 6, 6, 6, 6, 7, 7, 7, 7, 7, 7, 7, 7, 7, 7, 7, 7, 7, 7, 7, 7, 7, 7, 7, 7, 7, 7, 7, 7, 7, 7, 7, 7, 7, 7, 7, 7, 7, 7, 7, 7, 7, 7, 7, 7, 7, 7, 7, 7, 7, 7, 7, 7, 7, 7, 7, 7, 7, 7, 7, 7, 7, 7, 7, 7, 7, 7, 7, 7, 8, 8, 8, 8, 8, 8, 8, 8, 8, 8, 8, 8, 8, 8, 8, 8, 8, 8, 8, 8, 8, 8, 8, 8, 8, 8, 8, 8, 8, 8, 8, 8, 8, 8, 8, 8, 8, 8, 8, 8, 8, 8, 8, 8, 8, 8, 8, 8, 8, 8, 8, 8, 8, 8, 8, 8, 8, 8, 8, 8, 8, 8, 8, 8, 8, 8, 8, 8, 8, 8, 8, 8, 8, 8, 8, 8, 8, 8, 8, 8, 8, 8, 8, 8, 8, 8, 8, 8, 8, 8, 8, 8, 8, 8, 8, 8, 8, 8, 8, 8, 8, 8, 8, 8, 8, 8, 8, 8, 8, 8, 8, 8, 8, 8, 8, 8, 8, 8, 8, 8, 8, 8, 8, 8, 8, 8, 8, 8] } }).length : Int)) ∧ True ∧ True ∧ True ∧ (false = false ∧ True) ∧ D.val (Value.int IntKind.i64 (IntKind.i64.wrap (IntKind.i64.wrap (IntKind.i64.wrap ((0 : Int) + (16 : Int)) + (8 : Int)) + IntKind.i64.wrap ((ints { data := { toList := [0, 1, 2, 2, 3, 3, 3, 3, 4, 4, 4, 4, 4, 4, 4, 4, 5, 5, 5, 5, 5, 5, 5, 5, 5, 5, 5, 5, 5, 5, 5, 5, 6, 6, 6, 6, 6, 6, 6, 6, 6, 6, 6, 6, 6, 6, 6, 6, 6, 6, 6, 6, 6, 6, 6, 6, 6, 6, 6, 6, 6, 6, 6, 6, 7, 7, 7, 7, 7, 7, 7, 7, 7, 7, 7, 7, 7, 7, 7, 7, 7, 7, 7, 7, 7, 7, 7, 7, 7, 7, 7, 7, 7, 7, 7, 7, 7, 7, 7, 7, 7, 7, 7, 7, 7, 7, 7, 7, 7, 7, 7, 7, 7, 7, 7, 7, 7, 7, 7, 7, 7, 7, 7, 7, 7, 7, 7, 7, 8, 8, 8, 8, 8, 8, 8, 8, 8, 8, 8, 8, 8, 8, 8, 8, 8, 8, 8, 8, 8, 8, 8, 8, 8, 8, 8, 8, 8, 8, 8, 8, 8, 8, 8, 8, 8, 8, 8, 8, 8, 8, 8, 8, 8, 8, 8, 8, 8, 8, 8, 8, 8, 8, 8, 8, 8, 8, 8, 8, 8, 8, 8, 8, 8, 8, 8, 8, 8, 8, 8, 8, 8, 8, 8, 8, 8, 8, 8, 8, 8, 8, 8, 8, 8, 8, 8, 8, 8, 8, 8, 8, 8, 8, 8, 8, 8, 8, 8, 8, 8, 8, 8, 8, 8, 8, 8, 8, 8, 8, 8, 8, 8, 8, 8, 8, 8, 8, 8, 8, 8, 8, 8, 8, 8, 8, 8, 8] } }).getD (IntKind.u8.wrap (ishr IntKind.u64 (ishr IntKind.u64 (↑x : Int) (16 : Int)) (8 : Int))).toNat (0 : Int))))) = F
   | false => True ∧ True ∧ True ∧ ((0 : Int) ≤ IntKind.u8.wrap (ishr IntKind.u64 (↑x : Int) (16 : Int)) ∧ IntKind.u8.wrap (ishr IntKind.u64 (↑x : Int) (16 : Int)) < (↑(ints { data := { toList := [0, 1, 2, 2, 3, 3, 3, 3, 4, 4, 4, 4, 4, 4, 4, 4, 5, 5, 5, 5, 5, 5, 5, 5, 5, 5, 5, 5, 5, 5, 5, 5, 6, 6, 6, 6, 6, 6, 6, 6, 6, 6, 6, 6, 6, 6, 6, 6, 6, 6, 6, 6, 6, 6, 6, 6, 6, 6, 6, 6, 6, 6, 6, 6, 7, 7, 7, 7, 7, 7, 7, 7, 7, 7, 7, 7, 7, 7, 7, 7, 7, 7, 7, 7, 7, 7, 7, 7, 7, 7, 7, 7, 7, 7, 7, 7, 7, 7, 7, 7, 7, 7, 7, 7, 7, 7, 7, 7, 7, 7, 7, 7, 7, 7, 7, 7, 7, 7, 7, 7, 7, 7, 7, 7, 7, 7, 7, 7, 8, 8, 8, 8, 8, 8, 8, 8, 8, 8, 8, 8, 8, 8, 8, 8, 8, 8, 8, 8, 8, 8, 8, 8, 8, 8, 8, 8, 8, 8, 8, 8, 8, 8, 8, 8, 8, 8, 8, 8, 8, 8, 8, 8, 8, 8, 8, 8, 8, 8, 8, 8, 8, 8, 8, 8, 8, 8, 8, 8, 8, 8, 8, 8, 8, 8, 8, 8, 8, 8, 8, 8, 8, 8, 8, 8, 8, 8, 8, 8, 8, 8, 8, 8, 8, 8, 8, 8, 8, 8, 8, 8, 8, 8, 8, 8, 8, 8, 8, 8, 8, 8, 8, 8, 8, 8, 8, 8, 8, 8, 8, 8, 8, 8, 8, 8, 8, 8, 8, 8, 8, 8, 8, 8, 8, 8, 8, 8] } }).length : Int)) ∧ True ∧ True ∧ True ∧ (false = false ∧ True) ∧ D.val (Value.int IntKind.i64 (IntKind.i64.wrap (IntKind.i64.wrap ((0 : Int) + (16 : Int)) + IntKind.i64.wrap ((ints { data := { toList := [0, 1, 2, 2, 3, 3, 3, 3, 4, 4, 4, 4, 4, 4, 4, 4, 5, 5, 5, 5, 5, 5, 5, 5, 5, 5, 5, 5, 5, 5, 5, 5, 6, 6, 6, 6, 6, 6, 6, 6, 6, 6, 6, 6, 6, 6, 6, 6, 6, 6, 6, 6, 6, 6, 6, 6, 6, 6, 6, 6, 6, 6, 6, 6, 7, 7, 7, 7, 7, 7, 7, 7, 7, 7, 7, 7, 7, 7, 7, 7, 7, 7, 7, 7, 7, 7, 7, 7, 7, 7, 7, 7, 7, 7, 7, 7, 7, 7, 7, 7, 7, 7, 7, 7, 7, 7, 7, 7, 7, 7, 7, 7, 7, 7, 7, 7, 7, 7, 7, 7, 7, 7, 7, 7, 7, 7, 7, 7, 8, 8, 8, 8, 8, 8, 8, 8, 8, 8, 8, 8, 8, 8, 8, 8, 8, 8, 8, 8, 8, 8, 8, 8, 8, 8, 8, 8, 8, 8, 8, 8, 8, 8, 8, 8, 8, 8, 8, 8, 8, 8, 8, 8, 8, 8, 8, 8, 8, 8, 8, 8, 8, 8, 8, 8, 8, 8, 8, 8, 8, 8, 8, 8, 8, 8, 8, 8, 8, 8, 8, 8, 8, 8, 8, 8, 8, 8, 8, 8, 8, 8, 8, 8, 8, 8, 8, 8, 8, 8, 8, 8, 8, 8, 8, 8, 8, 8, 8, 8, 8, 8, 8, 8, 8, 8, 8, 8, 8, 8, 8, 8, 8, 8, 8, 8, 8, 8, 8, 8, 8, 8, 8, 8, 8, 8, 8, 8] } }).getD (IntKind.u8.wrap (ishr IntKind.u64 (↑x : Int) (16 : Int))).toNat (0 : Int))))) = F
  | false => True ∧ True ∧ match decide ((↑x : Int) ≥ (256 : Int)) with
   | true => True ∧ (0 : Int) ≤ 8 ∧ True ∧ True ∧ True ∧ True ∧ True ∧ True ∧ True ∧ ((0 : Int) ≤ IntKind.u8.wrap (ishr IntKind.u64 (↑x : Int) (8 : Int)) ∧ IntKind.u8.wrap (ishr IntKind.u64 (↑x : Int) (8 : Int)) < (↑(ints { data := { toList := [0, 1, 2, 2, 3, 3, 3, 3, 4, 4, 4, 4, 4, 4, 4, 4, 5, 5, 5, 5, 5, 5, 5, 5, 5, 5, 5, 5, 5, 5, 5, 5, 6, 6, 6, 6, 6, 6, 6, 6, 6, 6, 6, 6, 6, 6, 6, 6, 6, 6, 6, 6, 6, 6, 6, 6, 6, 6, 6, 6, 6, 6, 6, 6, 7, 7, 7, 7, 7, 7, 7, 7, 7, 7, 7, 7, 7, 7, 7, 7, 7, 7, 7, 7, 7, 7, 7, 7, 7, 7, 7, 7, 7, 7, 7, 7, 7, 7, 7, 7, 7, 7, 7, 7, 7, 7, 7, 7, 7, 7, 7, 7, 7, 7, 7, 7, 7, 7, 7, 7, 7, 7, 7, 7, 7, 7, 7, 7, 8, 8, 8, 8, 8, 8, 8, 8, 8, 8, 8, 8, 8, 8, 8, 8, 8, 8, 8, 8, 8, 8, 8, 8, 8, 8, 8, 8, 8, 8, 8, 8, 8, 8, 8, 8, 8, 8, 8, 8, 8, 8, 8, 8, 8, 8, 8, 8, 8, 8, 8, 8, 8, 8, 8, 8, 8, 8, 8, 8, 8, 8, 8, 8, 8, 8, 8, 8, 8, 8, 8, 8, 8, 8, 8, 8, 8, 8, 8, 8, 8, 8, 8, 8, 8, 8, 8, 8, 8, 8, 8, 8, 8, 8, 8, 8, 8, 8, 8, 8, 8, 8, 8, 8, 8, 8, 8, 8, 8, 8, 8, 8, 8, 8, 8, 8, 8, 8, 8, 8, 8, 8, 8, 8, 8, 8, 8, 8] } }).length : Int)) ∧ True ∧ True ∧ True ∧ (false = false ∧ True) ∧ D.val (Value.int IntKind.i64 (IntKind.i64.wrap (IntKind.i64.wrap ((0 : Int) + (8 : Int)) + IntKind.i64.wrap ((ints { data := { toList := [0, 1, 2, 2, 3, 3, 3, 3, 4, 4, 4, 4, 4, 4, 4, 4, 5, 5, 5, 5, 5, 5, 5, 5, 5, 5, 5, 5, 5, 5, 5, 5, 6, 6, 6, 6, 6, 6, 6, 6, 6, 6, 6, 6, 6, 6, 6, 6, 6, 6, 6, 6, 6, 6, 6, 6, 6, 6, 6, 6, 6, 6, 6, 6, 7, 7, 7, 7, 7, 7, 7, 7, 7, 7, 7, 7, 7, 7, 7, 7, 7, 7, 7, 7, 7, 7, 7, 7, 7, 7, 7, 7, 7, 7, 7, 7, 7, 7, 7, 7, 7, 7, 7, 7, 7, 7, 7, 7, 7, 7, 7, 7, 7, 7, 7, 7, 7, 7, 7, 7, 7, 7, 7, 7, 7, 7, 7, 7, 8, 8, 8, 8, 8, 8, 8, 8, 8, 8, 8, 8, 8, 8, 8, 8, 8, 8, 8, 8, 8, 8, 8, 8, 8, 8, 8, 8, 8, 8, 8, 8, 8, 8, 8, 8, 8, 8, 8, 8, 8, 8, 8, 8, 8, 8, 8, 8, 8, 8, 8, 8, 8, 8, 8, 8, 8, 8, 8, 8, 8, 8, 8, 8, 8, 8, 8, 8, 8, 8, 8, 8, 8, 8, 8, 8, 8, 8, 8, 8, 8, 8, 8, 8, 8, 8, 8, 8, 8, 8, 8, 8, 8, 8, 8, 8, 8, 8, 8, 8, 8, 8, 8, 8, 8, 8, 8, 8, 8, 8, 8, 8, 8, 8, 8, 8, 8, 8, 8, 8, 8, 8, 8, 8, 8, 8, 8, 8] } }).getD (IntKind.u8.wrap (ishr IntKind.u64 (↑x : Int) (8 : Int))).toNat (0 : Int))))) = F
   | false => True ∧ True ∧ True ∧ ((0 : Int) ≤ IntKind.u8.wrap (↑x : Int) ∧ IntKind.u8.wrap (↑x : Int) < (↑(ints { data := { toList := [0, 1, 2, 2, 3, 3, 3, 3, 4, 4, 4, 4, 4, 4, 4, 4, 5, 5, 5, 5, 5, 5, 5, 5, 5, 5, 5, 5, 5, 5, 5, 5, 6, 6, 6, 6, 6, 6, 6, 6, 6, 6, 6, 6, 6, 6, 6, 6, 6, 6, 6, 6, 6, 6, 6, 6, 6, 6, 6, 6, 6, 6, 6, 6, 7, 7, 7, 7, 7, 7, 7, 7, 7, 7, 7, 7, 7, 7, 7, 7, 7, 7, 7, 7, 7, 7, 7, 7, 7, 7, 7, 7, 7, 7, 7, 7, 7, 7, 7, 7, 7, 7, 7, 7, 7, 7, 7, 7, 7, 7, 7, 7, 7, 7, 7, 7, 7, 7, 7, 7, 7, 7, 7, 7, 7, 7, 7, 7, 8, 8, 8, 8, 8, 8, 8, 8, 8, 8, 8, 8, 8, 8, 8, 8, 8, 8, 8, 8, 8, 8, 8, 8, 8, 8, 8, 8, 8, 8, 8, 8, 8, 8, 8, 8, 8, 8, 8, 8, 8, 8, 8, 8, 8, 8, 8, 8, 8, 8, 8, 8, 8, 8, 8, 8, 8, 8, 8, 8, 8, 8, 8, 8, 8, 8, 8, 8, 8, 8, 8, 8, 8, 8, 8, 8, 8, 8, 8, 8, 8, 8, 8, 8, 8, 8, 8, 8, 8, 8, 8, 8, 8, 8, 8, 8, 8, 8, 8, 8, 8, 8, 8, 8, 8, 8, 8, 8, 8, 8, 8, 8, 8, 8, 8, 8, 8, 8, 8, 8, 8, 8, 8, 8, 8, 8, 8, 8] } }).length : Int)) ∧ True ∧ True ∧ True ∧ (false = false ∧ True) ∧ D.val (Value.int IntKind.i64 (IntKind.i64.wrap ((0 : Int) + IntKind.i64.wrap ((ints { data := { toList := [0, 1, 2, 2, 3, 3, 3, 3, 4, 4, 4, 4, 4, 4, 4, 4, 5, 5, 5, 5, 5, 5, 5, 5, 5, 5, 5, 5, 5, 5, 5, 5, 6, 6, 6, 6, 6, 6, 6, 6, 6, 6, 6, 6, 6, 6, 6, 6, 6, 6, 6, 6, 6, 6, 6, 6, 6, 6, 6, 6, 6, 6, 6, 6, 7, 7, 7, 7, 7, 7, 7, 7, 7, 7, 7, 7, 7, 7, 7, 7, 7, 7, 7, 7, 7, 7, 7, 7, 7, 7, 7, 7, 7, 7, 7, 7, 7, 7, 7, 7, 7, 7, 7, 7, 7, 7, 7, 7, 7, 7, 7, 7, 7, 7, 7, 7, 7, 7, 7, 7, 7, 7, 7, 7, 7, 7, 7, 7, 8, 8, 8, 8, 8, 8, 8, 8, 8, 8, 8, 8, 8, 8, 8, 8, 8, 8, 8, 8, 8, 8, 8, 8, 8, 8, 8, 8, 8, 8, 8, 8, 8, 8, 8, 8, 8, 8, 8, 8, 8, 8, 8, 8, 8, 8, 8, 8, 8, 8, 8, 8, 8, 8, 8, 8, 8, 8, 8, 8, 8, 8, 8, 8, 8, 8, 8, 8, 8, 8, 8, 8, 8, 8, 8, 8, 8, 8, 8, 8, 8, 8, 8, 8, 8, 8, 8, 8, 8, 8, 8, 8, 8, 8, 8, 8, 8, 8, 8, 8, 8, 8, 8, 8, 8, 8, 8, 8, 8, 8, 8, 8, 8, 8, 8, 8, 8, 8, 8, 8, 8, 8, 8, 8, 8, 8, 8, 8] } }).getD (IntKind.u8.wrap (↑x : Int)).toNat (0 : Int))))) = F) := by kernel_rfl
end Go.Proofs.YtkicjckhkefnpaaDoor
namespace Go.Proofs.YtkicjckhkefnpaaDoor
open Go Go.Vg
theorem bl2_log {x n : Nat} (h1 : 2 ^ n ≤ x) (h2 : x < 2 ^ (n + 1)) : bl2 x = n + 1 := by
 have h0 : x ≠ 0 := by have := Nat.two_pow_pos n; omega
 unfold bl2
 rw [if_neg h0, (Nat.log2_eq_iff h0).2 ⟨h1, h2⟩]
theorem bl2_up {lo y k : Nat} (hlo : lo < 2 ^ k) (hy : y ≠ 0) : bl2 (lo + 2 ^ k * y) = k + bl2 y := by
 have h1 := Nat.log2_self_le hy
 have h2 := Nat.lt_log2_self (n := y)
 have e : bl2 y = Nat.log2 y + 1 := if_neg hy
 rw [e, ← Nat.add_assoc]
 apply bl2_log
 ·rw [Nat.pow_add]
  have := Nat.mul_le_mul_left (2 ^ k) h1
  omega
 ·rw [Nat.add_assoc, Nat.pow_add]
  have := Nat.mul_le_mul_left (2 ^ k) (show y + 1 ≤ 2 ^ (Nat.log2 y + 1) from h2)
  rw [Nat.mul_add, Nat.mul_one] at this
  omega
theorem bl2_div {x k : Nat} (h : 2 ^ k ≤ x) : bl2 x = k + bl2 (x / 2 ^ k) := by
 have hp : 0 < 2 ^ k := Nat.two_pow_pos k
 have h1 : x / 2 ^ k ≠ 0 := by
  have := Nat.div_pos h hp
  omega
 have h2 := bl2_up (Nat.mod_lt x hp) h1
 rw [Nat.mod_add_div] at h2
 exact h2
def lenTab : List Int := (List.range 256).map fun n => (bl2 n : Int)
theorem tab_eq : ints { data := { toList := [(0 : UInt8), (1 : UInt8), (2 : UInt8), (2 : UInt8), (3 : UInt8), (3 : UInt8), (3 : UInt8), (3 : UInt8), (4 : UInt8), (4 : UInt8), (4 : UInt8), (4 : UInt8), (4 : UInt8), (4 : UInt8), (4 : UInt8), (4 : UInt8), (5 : UInt8), (5 : UInt8), (5 : UInt8), (5 : UInt8), (5 : UInt8), (5 : UInt8), (5 : UInt8), (5 : UInt8), (5 : UInt8), (5 : UInt8), (5 : UInt8), (5 : UInt8), (5 : UInt8), (5 : UInt8), (5 : UInt8), (5 : UInt8), (6 : UInt8), (6 : UInt8), (6 : UInt8), (6 : UInt8), (6 : UInt8), (6 : UInt8), (6 : UInt8), (6 : UInt8), (6 : UInt8), (6 : UInt8), (6 : UInt8), (6 : UInt8), (6 : UInt8), (6 : UInt8), (6 : UInt8), (6 : UInt8), (6 : UInt8), (6 : UInt8), (6 : UInt8), (6 : UInt8), (6 : UInt8), (6 : UInt8), (6 : UInt8), (6 : UInt8), (6 : UInt8), (6 : UInt8), (6 : UInt8), (6 : UInt8), (6 : UInt8), (6 : UInt8), (6 : UInt8), (6 : UInt8), (7 : UInt8), (7 : UInt8), (7 : UInt8), (7 : UInt8), (7 : UInt8), (7 : UInt8), (7 : UInt8), (7 : UInt8), (7 : UInt8), (7 : UInt8), (7 : UInt8), (7 : UInt8), (7 : UInt8), (7 : UInt8), (7 : UInt8), (7 : UInt8), (7 : UInt8), (7 : UInt8), (7 : UInt8), (7 : UInt8), (7 : UInt8), (7 : UInt8), (7 : UInt8), (7 : UInt8), (7 : UInt8), (7 : UInt8), (7 : UInt8), (7 : UInt8), (7 : UInt8), (7 : UInt8), (7 : UInt8), (7 : UInt8), (7 : UInt8), (7 : UInt8), (7 : UInt8), (7 : UInt8), (7 : UInt8), (7 : UInt8), (7 : UInt8), (7 : UInt8), (7 : UInt8), (7 : UInt8), (7 : UInt8), (7 : UInt8), (7 : UInt8), (7 : UInt8), (7 : UInt8), (7 : UInt8), (7 : UInt8), (7 : UInt8), (7 : UInt8), (7 : UInt8), (7 : UInt8), (7 : UInt8), (7 : UInt8), (7 : UInt8), (7 : UInt8), (7 : UInt8), (7 : UInt8), (7 : UInt8), (7 : UInt8), (7 : UInt8), (7 : UInt8), (7 : UInt8), (8 : UInt8), (8 : UInt8), (8 : UInt8), (8 : UInt8), (8 : UInt8), (8 : UInt8), (8 : UInt8), (8 : UInt8), (8 : UInt8), (8 : UInt8), (8 : UInt8), (8 : UInt8), (8 : UInt8), (8 : UInt8), (8 : UInt8), (8 : UInt8), (8 : UInt8), (8 : UInt8), (8 : UInt8), (8 : UInt8), (8 : UInt8), (8 : UInt8), (8 : UInt8), (8 : UInt8), (8 : UInt8), (8 : UInt8), (8 : UInt8), (8 : UInt8), (8 : UInt8), (8 : UInt8), (8 : UInt8), (8 : UInt8), (8 : UInt8), (8 : UInt8), (8 : UInt8), (8 : UInt8), (8 : UInt8), (8 : UInt8), (8 : UInt8), (8 : UInt8), (8 : UInt8), (8 : UInt8), (8 : UInt8), (8 : UInt8), (8 : UInt8), (8 : UInt8), (8 : UInt8), (8 : UInt8), (8 : UInt8), (8 : UInt8), (8 : UInt8), (8 : UInt8), (8 : UInt8), (8 : UInt8), (8 : UInt8), (8 : UInt8), (8 : UInt8), (8 : UInt8), (8 : UInt8), (8 : UInt8), (8 : UInt8), (8 : UInt8), (8 : UInt8), (8 : UInt8), (8 : UInt8), (8 : UInt8), (8 : UInt8), (8 : UInt8), (8 : UInt8), (8 : UInt8), (8 : UInt8), (8 : UInt8), (8 : UInt8), (8 : UInt8), (8 : UInt8), (8 : UInt8), (8 : UInt8), (8 : UInt8), (8 : UInt8), (8 : UInt8), (8 : UInt8), (8 : UInt8), (8 : UInt8), (8 : UInt8), (8 : UInt8), (8 : UInt8), (8 : UInt8), (8 : UInt8), (8 : UInt8), (8 : UInt8), (8 : UInt8), (8 : UInt8), (8 : UInt8), (8 : UInt8), (8 : UInt8), (8 : UInt8), (8 : UInt8), (8 : UInt8), (8 : UInt8), (8 : UInt8), (8 : UInt8), (8 : UInt8), (8 : UInt8), (8 : UInt8), (8 : UInt8), (8 : UInt8), (8 : UInt8), (8 : UInt8), (8 : UInt8), (8 : UInt8), (8 : UInt8), (8 : UInt8), (8 : UInt8), (8 : UInt8), (8 : UInt8), (8 : UInt8), (8 : UInt8), (8 : UInt8), (8 : UInt8), (8 : UInt8), (8 : UInt8), (8 : UInt8), (8 : UInt8), (8 : UInt8), (8 : UInt8), (8 : UInt8), (8 : UInt8), (8 : UInt8)] } } = lenTab := by decide +kernel
theorem tab_get {y : Nat} (h : y < 256) : lenTab.getD y 0 = ((bl2 y : Nat) : Int) := by
 unfold lenTab
 rw [List.getD_eq_getElem?_getD, List.getElem?_map, List.getElem?_range h]
 rfl
theorem bl2_small {y : Nat} (h : y < 256) : bl2 y ≤ 8 := by
 unfold bl2
 split
 ·omega
 ·have := (Nat.log2_lt (k := 8) (by omega)).2 h
  omega
theorem leaf {y : Nat} (h : y < 256) (n : Int) (h0 : 0 ≤ n) (h1 : n ≤ 56) : (0 ≤ IntKind.u8.wrap (y : Int) ∧ IntKind.u8.wrap (y : Int) < (lenTab.length : Int)) ∧
  IntKind.i64.wrap (n + IntKind.i64.wrap (lenTab.getD (IntKind.u8.wrap (y : Int)).toNat 0)) = n + ((bl2 y : Nat) : Int) := by
 have hl : lenTab.length = 256 := by unfold lenTab; rw [List.length_map, List.length_range]
 have hs := bl2_small h
 rw [wN8, Nat.mod_eq_of_lt h, Int.toNat_natCast, tab_get h, hl, wi (n := ((bl2 y : Nat) : Int)) (by omega) (by omega), wi (by omega) (by omega)]
 omega
theorem i64e {a b : Int} (h : a = b) : D.val (Value.int .i64 a) = D.val (Value.int .i64 b) := by rw [h]
set_option maxRecDepth 100000 in
theorem m122 : Meets Tryd.prog 122 sp122 := by
 refine meets_of_owed (C := c105) ⟨tab_ok, fun f s h => by cases h⟩ (by kernel_rfl) (by kernel_rfl : Tryd.prog.funcs[122]? = some Tryd.f122) (by kernel_rfl) (by kernel_rfl) (by kernel_rfl) _ ?_
 rintro _ ⟨x, rfl, hx⟩
 refine ⟨fun _ => rfl, fun _ => none, ?_⟩
 show owed c105 (fun _ => none) Tryd.f122 [u64n x] (i64n (bl2 x))
 rw [vc122]
 have hx : x < 18446744073709551616 := hx
 have s32 : ∀ y : Nat, ishr .u64 (y : Int) 32 = ((y / 4294967296 : Nat) : Int) := fun y => ishrN .u64 (a := y) (m := 32) (by decide)
 have s16 : ∀ y : Nat, ishr .u64 (y : Int) 16 = ((y / 65536 : Nat) : Int) := fun y => ishrN .u64 (a := y) (m := 16) (by decide)
 have s8 : ∀ y : Nat, ishr .u64 (y : Int) 8 = ((y / 256 : Nat) : Int) := fun y => ishrN .u64 (a := y) (m := 8) (by decide)
 have c1x : IntKind.i64.wrap (32 + 16) = 48 := by decide
 have c2x : IntKind.i64.wrap (48 + 8) = 56 := by decide
 have c3xx : IntKind.i64.wrap (32 + 8) = 40 := by decide
 have c4xx : IntKind.i64.wrap (0 + 16) = 16 := by decide
 have c5xx : IntKind.i64.wrap (16 + 8) = 24 := by decide
 have c6xx : IntKind.i64.wrap (0 + 8) = 8 := by decide
 have d32 : ∀ {y : Nat}, 4294967296 ≤ y → bl2 y = 32 + bl2 (y / 4294967296) := fun {y} h => bl2_div (k := 32) h
 have d16 : ∀ {y : Nat}, 65536 ≤ y → bl2 y = 16 + bl2 (y / 65536) := fun {y} h => bl2_div (k := 16) h
 have d8 : ∀ {y : Nat}, 256 ≤ y → bl2 y = 8 + bl2 (y / 256) := fun {y} h => bl2_div (k := 8) h
 simp (decide := true) only [tab_eq, s32, s16, s8, c1x, c2x, c3xx, c4xx, c5xx, c6xx, eq_self, true_and, and_true, ne_eq, not_false_eq_true]
 split
 ·rename_i h1
  have h1 : 4294967296 ≤ x := by have := of_decide_eq_true h1; omega
  rw [d32 h1]
  split
  ·rename_i h2
   have h2 : 65536 ≤ x / 4294967296 := by have := of_decide_eq_true h2; omega
   rw [d16 h2]
   split
   ·rename_i h3
    have h3 : 256 ≤ x / 4294967296 / 65536 := by have := of_decide_eq_true h3; omega
    rw [d8 h3]
    obtain ⟨l1, l2⟩ := leaf (y := x / 4294967296 / 65536 / 256) (by omega) 56 (by omega) (by omega)
    exact ⟨l1, i64e (by rw [l2]; omega)⟩
   ·rename_i h3
    have h3 := of_decide_eq_false h3
    obtain ⟨l1, l2⟩ := leaf (y := x / 4294967296 / 65536) (by omega) 48 (by omega) (by omega)
    exact ⟨l1, i64e (by rw [l2]; omega)⟩
  ·rename_i h2
   have h2 := of_decide_eq_false h2
   split
   ·rename_i h3
    have h3 : 256 ≤ x / 4294967296 := by have := of_decide_eq_true h3; omega
    rw [d8 h3]
    obtain ⟨l1, l2⟩ := leaf (y := x / 4294967296 / 256) (by omega) 40 (by omega) (by omega)
    exact ⟨l1, i64e (by rw [l2]; omega)⟩
   ·rename_i h3
    have h3 := of_decide_eq_false h3
    obtain ⟨l1, l2⟩ := leaf (y := x / 4294967296) (by omega) 32 (by omega) (by omega)
    exact ⟨l1, i64e (by rw [l2]; omega)⟩
 ·rename_i h1
  have h1 := of_decide_eq_false h1
  split
  ·rename_i h2
   have h2 : 65536 ≤ x := by have := of_decide_eq_true h2; omega
   rw [d16 h2]
   split
   ·rename_i h3
    have h3 : 256 ≤ x / 65536 := by have := of_decide_eq_true h3; omega
    rw [d8 h3]
    obtain ⟨l1, l2⟩ := leaf (y := x / 65536 / 256) (by omega) 24 (by omega) (by omega)
    exact ⟨l1, i64e (by rw [l2]; omega)⟩
   ·rename_i h3
    have h3 := of_decide_eq_false h3
    obtain ⟨l1, l2⟩ := leaf (y := x / 65536) (by omega) 16 (by omega) (by omega)
    exact ⟨l1, i64e (by rw [l2]; omega)⟩
  ·rename_i h2
   have h2 := of_decide_eq_false h2
   split
   ·rename_i h3
    have h3 : 256 ≤ x := by have := of_decide_eq_true h3; omega
    rw [d8 h3]
    obtain ⟨l1, l2⟩ := leaf (y := x / 256) (by omega) 8 (by omega) (by omega)
    exact ⟨l1, i64e (by rw [l2]; omega)⟩
   ·rename_i h3
    have h3 := of_decide_eq_false h3
    obtain ⟨l1, l2⟩ := leaf (y := x) (by omega) 0 (by omega) (by omega)
    exact ⟨l1, i64e (by rw [l2]; omega)⟩
set_option maxRecDepth 100000 in
theorem m94 : Meets Tryd.prog 94 sp94 := by
 refine meets_of_owed (C := c94) ⟨tab_ok, lkS_ok ⟨m122, trivial⟩⟩ (by kernel_rfl) (by kernel_rfl : Tryd.prog.funcs[94]? = some Tryd.f94) (by kernel_rfl) (by kernel_rfl) (by kernel_rfl) _ ?_
 rintro _ ⟨l, rfl, hl⟩
 refine ⟨fun _ => rfl, inv94 l, ?_⟩
 show owed c94 (inv94 l) Tryd.f94 [num4 l] (i64n (bl2 (wv l)))
 rw [vc94]
 have hl4 := hl.2
 have h4 : List.drop (Int.toNat (3 + 1)) l = [] := List.drop_of_length_le (by rw [hl4]; decide)
 rw [h4]
 simp (decide := true) only [eq_self, true_and, and_true, ne_eq, not_false_eq_true]
 rintro i ⟨⟨hi1, hi2⟩, hz⟩
 split
 ·rename_i h
  have h := of_decide_eq_true h
  obtain ⟨n, rfl⟩ := Int.eq_ofNat_of_zero_le (a := i) (by omega)
  have e1 : (((n : Nat) : Int) + 1).toNat = n + 1 := by omega
  rw [e1] at hz
  obtain ⟨x, ex, hx⟩ := okw_get hl.1 (i := n) (by omega)
  obtain ⟨A, hA, hV⟩ := vB_cut hl.1 (i := n) (by omega) ex
  rw [hz, Nat.mul_zero, Nat.add_zero] at hV
  rw [Int.toNat_natCast, ex]
  split
  ·rename_i h2
   have h2 : x ≠ 0 := by
    rintro rfl
    cases h2
   have hb := bl2_up (lo := A) (y := x) (k := 64 * n) (by rw [← B_pow]; exact hA) h2
   rw [← B_pow, ← hV] at hb
   have hx2 : bl2 x ≤ 64 := by
    have := (Nat.log2_lt (n := x) (k := 64) h2).2 hx
    unfold bl2
    rw [if_neg h2]
    omega
   rw [Int.toNat_natCast, hb, wi (n := 64 * ((n : Nat) : Int)) (by omega) (by omega), wi (by omega) (by omega)]
   refine ⟨by omega, by omega, ⟨x, rfl, hx⟩, i64e (by omega)⟩
  ·rename_i h2
   have h2 : x = 0 := by
    have := bne_eq_false_iff_eq.1 h2
    omega
   subst h2
   have e2 : IntKind.i64.wrap (((n : Nat) : Int) - 1) = ((n : Nat) : Int) - 1 := wi (by omega) (by omega)
   have e3 : (((n : Nat) : Int) - 1 + 1).toNat = n := by omega
   rw [e2, e3, e1]
   have hz2 : vB 18446744073709551616 (l.drop n) = 0 := by
    rw [vB_dropS 18446744073709551616 n (by omega), hz, ex]
    rfl
   refine ⟨by omega, ⟨⟨by omega, by omega⟩, hz2⟩, by omega⟩
 ·rename_i h
  have h := of_decide_eq_false h
  obtain rfl : i = -1 := by omega
  have hz : wv l = 0 := hz
  rw [hz]
  rfl
end Go.Proofs.YtkicjckhkefnpaaDoor
namespace Go.Vg
def pm (m : Nat) : Nat → Nat → Nat → Nat
 | 0, _, _ => 1 % m
 | k + 1, b, e => if e % 2 = 1 then pm m k (b * b % m) (e / 2) * b % m else pm m k (b * b % m) (e / 2)
end Go.Vg
namespace Go.Vg
end Go.Vg
namespace Go.Vg
end Go.Vg
namespace Go.Proofs.YtkicjckhkefnpaaDoor
open Go Go.Vg
def LQ : Nat := 7237005577332262213973186563042994240857116359379907606001950938285454250989
abbrev wA (ds : List D) : Nat := wv (arrOf (ds.headD default))
abbrev wB2 (ds : List D) : Nat := wv (arrOf (ds.getD 1 default))
def sp55 : Go.Vg.Spec := ⟨fun ds => ds.length = 0, fun _ => n4 LQ, true, []⟩
def sp57 : Go.Vg.Spec := ⟨fun ds => ∃ w, ds = [num8 w] ∧ okw w ∧ w.length = 8, fun ds => n4 (wA ds % LQ), true, [88]⟩
def sp56 : Go.Vg.Spec := ⟨fun ds => ∃ l, ds = [num4 l] ∧ isN l, fun ds => n4 (wA ds % LQ), true, [75]⟩
def sp59 : Go.Vg.Spec := ⟨fun ds => ∃ l m, ds = [num4 l, num4 m] ∧ isN l ∧ isN m, fun ds => n4 ((wA ds + wB2 ds) % LQ), true, [75, 75]⟩
def sp62 : Go.Vg.Spec := ⟨fun ds => ∃ l m, ds = [num4 l, num4 m] ∧ isN l ∧ isN m, fun ds => n4 (wA ds * wB2 ds % LQ), true, [75, 75]⟩
def c0s : Ctx := ⟨tab, fun _ => none, [], []⟩
def c57 : Ctx := ⟨tab, lkS [(108, sp108), (55, sp55)], [], []⟩
def c56 : Ctx := ⟨tab, lkS [(57, sp57), (107, sp107)], [], []⟩
def c59 : Ctx := ⟨tab, lkS [(56, sp56), (109, sp109)], [], []⟩
def c62 : Ctx := ⟨tab, lkS [(110, sp110), (57, sp57)], [], []⟩
set_option maxRecDepth 100000 in
theorem vc55  (F : D)  :
    (owed c0s (fun _ => none) Tryd.f55 [] F) = (
 (True ∧ 4 ≠ 0) ∧ (1 = 1 ∧ false = false ∧ (0 < 4 ∧ ([] : List Nat) = [] ∧ true = true) ∧ false = false ∧ (1 < 4 ∧ ([] : List Nat) = [] ∧ true = true) ∧ false = false ∧ (2 < 4 ∧ ([] : List Nat) = [] ∧ true = true) ∧ false = false ∧ (3 < 4 ∧ ([] : List Nat) = [] ∧ true = true) ∧ True) ∧ (Sk.arr 4 = Sk.arr 4 ∧ 4 ≠ 0 ∧ 4 = 4 ∧ false = false) ∧ ((4 ≠ 0 ∧ 4 = 4 ∧ true = true) ∧ True) ∧ D.arr .u64 4 [(6346243789798364141 : Int), (1503914060200516822 : Int), (0 : Int), (1152921504606846976 : Int)] = F) := by kernel_rfl
set_option maxRecDepth 100000 in
theorem vc57  (w : List Int) (F : D)  :
    (owed c57 (fun _ => none) Tryd.f57 [num8 w] F) = (
 (True ∧ false = false) ∧ (True ∧ 4 ≠ 0) ∧ (8 ≠ 0 ∧ 8 = 8 ∧ true = true) ∧ 0 = 0 ∧ (∃ (a : List Int), ∃ (m : List Int), [D.arr .u64 8 w, D.arr .u64 4 (nB 18446744073709551616 4 LQ)] = [D.arr .u64 8 a, D.arr .u64 4 m] ∧ (okw a ∧ a.length = 8) ∧ okw m ∧ m.length = 4) ∧ True ∧ (0 < 2 ∧ false = false) ∧ (1 < 2 ∧ false = false) ∧ (True ∧ 4 ≠ 0) ∧ (Sk.arr 4 = Sk.arr 4 ∧ 4 ≠ 0 ∧ 4 = 4 ∧ false = false) ∧ True ∧ (4 ≠ 0 ∧ 4 = 4 ∧ true = true) ∧ (Sk.arr 4 = Sk.arr 4 ∧ 4 ≠ 0 ∧ 4 = 4 ∧ false = false) ∧ ((4 ≠ 0 ∧ 4 = 4 ∧ true = true) ∧ True) ∧ D.arr .u64 4 (nB 18446744073709551616 4 (dvr (vB 18446744073709551616 w) (vB 18446744073709551616 (nB 18446744073709551616 4 LQ)))) = F) := by kernel_rfl
set_option maxRecDepth 100000 in
theorem vc56  (l : List Int) (F : D)  :
    (owed c56 (fun _ => none) Tryd.f56 [num4 l] F) = (
 (True ∧ false = false) ∧ (True ∧ 4 ≠ 0) ∧ (4 ≠ 0 ∧ 4 = 4 ∧ true = true) ∧ (1 = 1 ∧ True) ∧ (∃ (l_1 : List Int), ∃ (m : List Int), [D.arr .u64 4 l, D.arr .u64 4 [(0 : Int), (0 : Int), (0 : Int), (0 : Int)]] = [D.arr .u64 4 l_1, D.arr .u64 4 m] ∧ l_1.length = 4 ∧ m.length = 4) ∧ (∃ (w : List Int), [D.arr .u64 8 (l ++ [(0 : Int), (0 : Int), (0 : Int), (0 : Int)])] = [D.arr .u64 8 w] ∧ okw w ∧ w.length = 8) ∧ (Sk.arr 4 = Sk.arr 4 ∧ 4 ≠ 0 ∧ 4 = 4 ∧ false = false) ∧ ((4 ≠ 0 ∧ 4 = 4 ∧ true = true) ∧ True) ∧ D.arr .u64 4 (nB 18446744073709551616 4 (vB 18446744073709551616 (l ++ [(0 : Int), (0 : Int), (0 : Int), (0 : Int)]) % LQ)) = F) := by kernel_rfl
set_option maxRecDepth 100000 in
theorem vc59  (l m : List Int) (F : D)  :
    (owed c59 (fun _ => none) Tryd.f59 [num4 l, num4 m] F) = (
 (True ∧ false = false) ∧ (True ∧ false = false) ∧ (True ∧ 4 ≠ 0) ∧ (4 ≠ 0 ∧ 4 = 4 ∧ true = true) ∧ (∃ (l_1 : List Int), [D.arr .u64 4 l] = [D.arr .u64 4 l_1] ∧ isN l_1) ∧ (4 ≠ 0 ∧ 4 = 4 ∧ true = true) ∧ (∃ (l : List Int), [D.arr .u64 4 m] = [D.arr .u64 4 l] ∧ isN l) ∧ (∃ (l_1 : List Int), ∃ (m_1 : List Int), [D.arr .u64 4 (nB 18446744073709551616 4 (vB 18446744073709551616 l % LQ)), D.arr .u64 4 (nB 18446744073709551616 4 (vB 18446744073709551616 m % LQ))] = [D.arr .u64 4 l_1, D.arr .u64 4 m_1] ∧ isN l_1 ∧ isN m_1) ∧ True ∧ (0 < 2 ∧ false = false) ∧ (1 < 2 ∧ false = false) ∧ (True ∧ 4 ≠ 0) ∧ (Sk.arr 4 = Sk.arr 4 ∧ 4 ≠ 0 ∧ 4 = 4 ∧ false = false) ∧ True ∧ (4 ≠ 0 ∧ 4 = 4 ∧ true = true) ∧ (∃ (l_1 : List Int), [D.arr .u64 4 (nB 18446744073709551616 4 (smN (vB 18446744073709551616 (nB 18446744073709551616 4 (vB 18446744073709551616 l % LQ))) (vB 18446744073709551616 (nB 18446744073709551616 4 (vB 18446744073709551616 m % LQ)))))] = [D.arr .u64 4 l_1] ∧ isN l_1) ∧ (Sk.arr 4 = Sk.arr 4 ∧ 4 ≠ 0 ∧ 4 = 4 ∧ false = false) ∧ ((4 ≠ 0 ∧ 4 = 4 ∧ true = true) ∧ True) ∧ D.arr .u64 4 (nB 18446744073709551616 4 (vB 18446744073709551616 (nB 18446744073709551616 4 (smN (vB 18446744073709551616 (nB 18446744073709551616 4 (vB 18446744073709551616 l % LQ))) (vB 18446744073709551616 (nB 18446744073709551616 4 (vB 18446744073709551616 m % LQ))))) % LQ)) = F) := by kernel_rfl
set_option maxRecDepth 100000 in
theorem vc62  (l m : List Int) (F : D)  :
    (owed c62 (fun _ => none) Tryd.f62 [num4 l, num4 m] F) = (
 (True ∧ false = false) ∧ (True ∧ false = false) ∧ (True ∧ 4 ≠ 0) ∧ (4 ≠ 0 ∧ 4 = 4 ∧ true = true) ∧ (4 ≠ 0 ∧ 4 = 4 ∧ true = true) ∧ (∃ (l_1 : List Int), ∃ (m_1 : List Int), [D.arr .u64 4 l, D.arr .u64 4 m] = [D.arr .u64 4 l_1, D.arr .u64 4 m_1] ∧ isN l_1 ∧ isN m_1) ∧ (∃ (w : List Int), [D.arr .u64 8 (nB 18446744073709551616 8 (vB 18446744073709551616 l * vB 18446744073709551616 m))] = [D.arr .u64 8 w] ∧ okw w ∧ w.length = 8) ∧ (Sk.arr 4 = Sk.arr 4 ∧ 4 ≠ 0 ∧ 4 = 4 ∧ false = false) ∧ ((4 ≠ 0 ∧ 4 = 4 ∧ true = true) ∧ True) ∧ D.arr .u64 4 (nB 18446744073709551616 4 (vB 18446744073709551616 (nB 18446744073709551616 8 (vB 18446744073709551616 l * vB 18446744073709551616 m)) % LQ)) = F) := by kernel_rfl
end Go.Proofs.YtkicjckhkefnpaaDoor
namespace Go.Proofs.YtkicjckhkefnpaaDoor
open Go Go.Vg
theorem LQ_lt : LQ < 2 ^ 256 := by unfold LQ; decide
theorem LQ_pos : 0 < LQ := by unfold LQ; decide
theorem LQ_n4 : vB 18446744073709551616 (nB 18446744073709551616 4 LQ) = LQ := n4v LQ_lt
theorem md_lt (a : Nat) : a % LQ < LQ := Nat.mod_lt _ LQ_pos
theorem md_256 (a : Nat) : a % LQ < 2 ^ 256 := Nat.lt_trans (md_lt a) LQ_lt
theorem md_n4 (a : Nat) : vB 18446744073709551616 (nB 18446744073709551616 4 (a % LQ)) = a % LQ := n4v (md_256 a)
theorem dvr_LQ (a : Nat) : dvr a LQ = a % LQ := by unfold dvr; rw [if_neg (Nat.ne_of_gt LQ_pos)]
theorem LQ_big : 2 * LQ < 2 ^ 256 := by unfold LQ; decide
set_option maxRecDepth 100000 in
theorem m55 : Meets Tryd.prog 55 sp55 := by
 refine meets_of_owed (C := c0s) ⟨tab_ok, fun f s h => by cases h⟩ (by kernel_rfl) (by kernel_rfl : Tryd.prog.funcs[55]? = some Tryd.f55) (by kernel_rfl) (by kernel_rfl) (by kernel_rfl) _ ?_
 intro ds hds
 obtain rfl : ds = [] := List.eq_nil_of_length_eq_zero hds
 refine ⟨fun _ => rfl, fun _ => none, ?_⟩
 show owed c0s (fun _ => none) Tryd.f55 [] (n4 LQ)
 rw [vc55]
 and_intros <;> first | trivial | rfl | decide | (intro h; cases h) | kernel_rfl
set_option maxRecDepth 100000 in
theorem m57 : Meets Tryd.prog 57 sp57 := by
 refine meets_of_owed (C := c57) ⟨tab_ok, lkS_ok ⟨m108, m55, trivial⟩⟩ (by kernel_rfl) (by kernel_rfl : Tryd.prog.funcs[57]? = some Tryd.f57) (by kernel_rfl) (by kernel_rfl) (by kernel_rfl) _ ?_
 rintro _ ⟨w, rfl, hw, hl⟩
 refine ⟨fun _ => rfl, fun _ => none, ?_⟩
 show owed c57 (fun _ => none) Tryd.f57 [num8 w] (n4 (wv w % LQ))
 rw [vc57]
 simp (decide := true) only [LQ_n4, dvr_LQ, eq_self, true_and, and_true, ne_eq, not_false_eq_true]
 exact ⟨_, _, rfl, ⟨hw, hl⟩, isN_n4 LQ⟩
set_option maxRecDepth 100000 in
theorem m56 : Meets Tryd.prog 56 sp56 := by
 refine meets_of_owed (C := c56) ⟨tab_ok, lkS_ok ⟨m57, m107, trivial⟩⟩ (by kernel_rfl) (by kernel_rfl : Tryd.prog.funcs[56]? = some Tryd.f56) (by kernel_rfl) (by kernel_rfl) (by kernel_rfl) _ ?_
 rintro _ ⟨l, rfl, hl⟩
 refine ⟨fun _ => rfl, fun _ => none, ?_⟩
 show owed c56 (fun _ => none) Tryd.f56 [num4 l] (n4 (wv l % LQ))
 rw [vc56]
 simp (decide := true) only [addz, eq_self, true_and, and_true, ne_eq, not_false_eq_true]
 exact ⟨⟨_, _, rfl, hl.2, rfl⟩, ⟨_, rfl, okw_app hl.1 okw_zero, by rw [List.length_append, hl.2]; rfl⟩⟩
set_option maxRecDepth 100000 in
theorem m59 : Meets Tryd.prog 59 sp59 := by
 refine meets_of_owed (C := c59) ⟨tab_ok, lkS_ok ⟨m56, m109, trivial⟩⟩ (by kernel_rfl) (by kernel_rfl : Tryd.prog.funcs[59]? = some Tryd.f59) (by kernel_rfl) (by kernel_rfl) (by kernel_rfl) _ ?_
 rintro _ ⟨l, m, rfl, hl, hm⟩
 refine ⟨fun _ => rfl, fun _ => none, ?_⟩
 show owed c59 (fun _ => none) Tryd.f59 [num4 l, num4 m] (n4 ((wv l + wv m) % LQ))
 rw [vc59]
 have e : vB 18446744073709551616 (nB 18446744073709551616 4 (smN (wv l % LQ) (wv m % LQ))) = wv l % LQ + wv m % LQ := by
  have h1 := md_lt (wv l)
  have h2 := md_lt (wv m)
  have h3 := LQ_big
  unfold smN
  rw [Nat.mod_eq_of_lt (show wv l % LQ + wv m % LQ < 2 ^ 256 by omega)]
  exact n4v (by omega)
 unfold wv at e ⊢
 simp (decide := true) only [md_n4, e, eq_self, true_and, and_true, ne_eq, not_false_eq_true, ← Nat.add_mod]
 exact ⟨⟨_, rfl, hl⟩, ⟨_, rfl, hm⟩, ⟨_, _, rfl, isN_n4 _, isN_n4 _⟩, ⟨_, rfl, isN_n4 _⟩⟩
set_option maxRecDepth 100000 in
theorem m62 : Meets Tryd.prog 62 sp62 := by
 refine meets_of_owed (C := c62) ⟨tab_ok, lkS_ok ⟨m110, m57, trivial⟩⟩ (by kernel_rfl) (by kernel_rfl : Tryd.prog.funcs[62]? = some Tryd.f62) (by kernel_rfl) (by kernel_rfl) (by kernel_rfl) _ ?_
 rintro _ ⟨l, m, rfl, hl, hm⟩
 refine ⟨fun _ => rfl, fun _ => none, ?_⟩
 show owed c62 (fun _ => none) Tryd.f62 [num4 l, num4 m] (n4 (wv l * wv m % LQ))
 rw [vc62]
 have hA := wv_lt hl.1 hl.2
 have hB := wv_lt hm.1 hm.2
 unfold wv at hA hB ⊢
 have e : vB 18446744073709551616 (nB 18446744073709551616 8 (vB 18446744073709551616 l * vB 18446744073709551616 m)) = vB 18446744073709551616 l * vB 18446744073709551616 m := n8v (Nat.mul_lt_mul'' hA hB)
 simp (decide := true) only [e, eq_self, true_and, and_true, ne_eq, not_false_eq_true]
 exact ⟨⟨_, _, rfl, hl, hm⟩, ⟨_, rfl, nB_okw 8 _, nB_length _ _ _⟩⟩
end Go.Proofs.YtkicjckhkefnpaaDoor
namespace Go.Proofs.YtkicjckhkefnpaaDoor
open Go Go.Vg
theorem lens {x : Nat} (h : x < 65536 ^ 64) : okd (dg x) ∧ len1 (dg x) ∧ lenS (dg x) ∧ lenOk (dg x) := by
 have := dg_len 64 x h
 exact ⟨dg_ok x, by unfold len1; omega, by unfold lenS; omega, by unfold lenOk; omega⟩
theorem lens1 {x : Nat} (h : x < 2 ^ 256) : okd (dg x) ∧ len1 (dg x) ∧ lenS (dg x) ∧ lenOk (dg x) := lens (Nat.lt_trans h (by decide))
end Go.Proofs.YtkicjckhkefnpaaDoor
namespace Go.Proofs.YtkicjckhkefnpaaDoor
open Go Go.Vg
noncomputable def dgO (l : List Int) : List Int := opq (dg (vB 18446744073709551616 l))
noncomputable def dgL : List Int := opq (dg LQ)
noncomputable def sp102o : Go.Vg.Spec := ⟨fun ds => ∃ l, ds = [.ints .u64 l] ∧ okw l ∧ l.length ≤ 100, fun ds => dgs (dgO (intsOf (ds.headD default))), false, [152]⟩
noncomputable def sp47 : Go.Vg.Spec := ⟨fun ds => ds.length = 0, fun _ => dgs dgL, false, []⟩
noncomputable def c47 : Ctx := ⟨tab, lkS [(100, sp100), (102, sp102o), (53, sp53)], [], [2]⟩
set_option maxRecDepth 100000 in
theorem vc47  (F : D)  :
    (owed c47 (fun _ => none) Tryd.f47 [] F) = (
 True ∧ (∃ (n : Int), [D.val (.int .i64 252)] = [D.val (Value.int IntKind.i64 n)] ∧ (0 : Int) ≤ n ∧ n ≤ (1048576 : Int)) ∧ (1 = 1 ∧ 2 ≤ 4096) ∧ (∃ (l : List Int), [D.ints .u64 [(6346243789798364141 : Int), (1503914060200516822 : Int)]] = [D.ints .u64 l] ∧ okw l ∧ l.length ≤ 100) ∧ (∃ (l : List Int), ∃ (m : List Int), [D.ints .i64 (dgP 252), D.ints .i64 (dgO [(6346243789798364141 : Int), (1503914060200516822 : Int)])] = [D.ints .i64 l, D.ints .i64 m] ∧ (okd l ∧ lenS l) ∧ okd m ∧ lenS m) ∧ True ∧ (false = false ∧ True) ∧ D.ints .i64 (dg (vB 65536 (dgP 252) + vB 65536 (dgO [(6346243789798364141 : Int), (1503914060200516822 : Int)]))) = F) := by kernel_rfl
theorem m102o : Meets Tryd.prog 102 sp102o := by
 have e : sp102o = sp102 := by
  unfold sp102o sp102 dgO
  simp only [opq_eq]
 rw [e]; exact m102
theorem vB_LQ : 2 ^ 252 + vB 18446744073709551616 [6346243789798364141, 1503914060200516822] = LQ := by kernel_rfl
set_option maxRecDepth 100000 in
theorem m47 : Meets Tryd.prog 47 sp47 := by
 refine meets_of_owed (C := c47) ⟨tab_ok, lkS_ok ⟨m100, m102o, m53, trivial⟩⟩ (by kernel_rfl) (by kernel_rfl : Tryd.prog.funcs[47]? = some Tryd.f47) (by kernel_rfl) (by kernel_rfl) (by kernel_rfl) _ ?_
 intro ds hds
 obtain rfl : ds = [] := List.eq_nil_of_length_eq_zero hds
 refine ⟨fun h => (by cases h), fun _ => none, ?_⟩
 show owed c47 (fun _ => none) Tryd.f47 [] (dgs dgL)
 rw [vc47]
 have e1 : dgP 252 = dg (2 ^ 252) := opq_eq _
 have e2 : dgO [6346243789798364141, 1503914060200516822] = dg (vB 18446744073709551616 [6346243789798364141, 1503914060200516822]) := opq_eq _
 have e3 : dgL = dg LQ := opq_eq _
 have l1 := lens1 (x := 2 ^ 252) (Nat.pow_lt_pow_right (by decide) (by decide))
 have l2 := lens1 (x := vB 18446744073709551616 [6346243789798364141, 1503914060200516822]) (by have := vB_LQ; have := LQ_lt; omega)
 rw [e1, e2, e3]
 simp only [vl_dg, vB_LQ, eq_self, true_and, and_true]
 refine ⟨⟨_, rfl, by decide, by decide⟩, by decide, ⟨_, rfl, ?_, by decide⟩, ⟨_, _, rfl, ⟨l1.1, l1.2.2.1⟩, l2.1, l2.2.2.1⟩⟩
 intro x hx
 simp at hx
 rcases hx with rfl | rfl <;> decide
end Go.Proofs.YtkicjckhkefnpaaDoor
namespace Go.Vg
open Go Go.RowKit
abbrev W := BitVec 32
abbrev wd (x : W) : D := .val (.int .u32 (x.toNat : Int))
def toW (d : D) : W := BitVec.ofInt 32 (numOf d)
theorem ltW (x : W) : x.toNat < kb .u32 := x.isLt
theorem toW_wd (x : W) : toW (wd x) = x := by
 show BitVec.ofInt 32 (x.toNat : Int) = x
 rw [BitVec.ofInt_natCast, BitVec.ofNat_toNat, BitVec.setWidth_eq]
theorem addW (x y : W) : IntKind.u32.wrap ((x.toNat : Int) + (y.toNat : Int)) = ((x + y).toNat : Int) := by
 rw [w32, BitVec.toNat_add]
 omega
theorem andW (x y : W) : iand .u32 (x.toNat : Int) (y.toNat : Int) = ((x &&& y).toNat : Int) := by
 rw [iandN _ (ltW x) (ltW y), BitVec.toNat_and]
theorem orW (x y : W) : ior .u32 (x.toNat : Int) (y.toNat : Int) = ((x ||| y).toNat : Int) := by
 rw [iorN _ (ltW x) (ltW y), BitVec.toNat_or]
theorem xorW (x y : W) : ixor .u32 (x.toNat : Int) (y.toNat : Int) = ((x ^^^ y).toNat : Int) := by
 rw [ixorN _ (ltW x) (ltW y), BitVec.toNat_xor]
theorem notW (x : W) : ixor .u32 4294967295 (x.toNat : Int) = ((~~~x).toNat : Int) := by
 have := xorW (BitVec.allOnes 32) x
 rw [BitVec.allOnes_xor] at this
 exact this
theorem shrW (x : W) {n : Nat} (h : n ≤ 32) : ishr .u32 (x.toNat : Int) (n : Int) = ((x >>> n).toNat : Int) := by
 rw [ishrN .u32 (by exact h), BitVec.toNat_ushiftRight, Nat.shiftRight_eq_div_pow]
theorem shlW (x : W) {n : Nat} (h : n ≤ 32) : ishl .u32 (x.toNat : Int) (n : Int) = ((x <<< n).toNat : Int) := by
 rw [ishlN .u32 (by exact h), wN32, BitVec.toNat_shiftLeft, Nat.shiftLeft_eq]
theorem ofW (n : Nat) (h : n < 4294967296) : ((BitVec.ofNat 32 n).toNat : Int) = (n : Int) := by
 rw [BitVec.toNat_ofNat, Nat.mod_eq_of_lt (by simpa using h)]
end Go.Vg
namespace Go.Proofs.YtkicjckhkefnpaaDoor
open Go Go.Vg
def rr (x : W) (n : Nat) : W := (x >>> n) ||| (x <<< (32 - n))
def sp136 : Go.Vg.Spec := ⟨fun ds => ∃ (x : W) (n : Nat), ds = [wd x, i64 (-(n : Int))] ∧ 1 ≤ n ∧ n ≤ 31, fun ds => wd (rr (toW (ds.headD default)) (-(numOf (ds.getD 1 default))).toNat), true, [113, 3]⟩
def sp130 : Go.Vg.Spec := ⟨fun ds => ∃ (x : W) (n : Nat), ds = [wd x, i64 (n : Int)] ∧ 1 ≤ n ∧ n ≤ 31, fun ds => wd (rr (toW (ds.headD default)) (numOf (ds.getD 1 default)).toNat), true, [113, 3]⟩
def sp133 : Go.Vg.Spec := ⟨fun ds => ∃ (x : W) (n : Nat), ds = [wd x, u64 (n : Int)] ∧ 1 ≤ n ∧ n ≤ 31, fun ds => wd (rr (toW (ds.headD default)) (numOf (ds.getD 1 default)).toNat), true, [113, 156]⟩
def chW (x y z : W) : W := (x &&& y) ^^^ (~~~x &&& z)
def mjW (x y z : W) : W := ((x &&& y) ^^^ (x &&& z)) ^^^ (y &&& z)
def sp134 : Go.Vg.Spec := ⟨fun ds => ∃ (x y z : W), ds = [wd x, wd y, wd z], fun ds => wd (chW (toW (ds.headD default)) (toW (ds.getD 1 default)) (toW (ds.getD 2 default))), true, [113, 113, 113]⟩
def sp135 : Go.Vg.Spec := ⟨fun ds => ∃ (x y z : W), ds = [wd x, wd y, wd z], fun ds => wd (mjW (toW (ds.headD default)) (toW (ds.getD 1 default)) (toW (ds.getD 2 default))), true, [113, 113, 113]⟩
def w4 (a b c d : Int) : W := BitVec.ofNat 32 (a.toNat * 16777216 + b.toNat * 65536 + c.toNat * 256 + d.toNat)
def wat (l : List Int) (i : Nat) : W := w4 (l.getD i 0) (l.getD (i + 1) 0) (l.getD (i + 2) 0) (l.getD (i + 3) 0)
def sp129 : Go.Vg.Spec := ⟨fun ds => ∃ l i, ds = [.ints .u8 l, i64 ((i : Nat) : Int)] ∧ isBytes l ∧ i + 3 < l.length ∧ i < 1000, fun ds => wd (wat (intsOf (ds.headD default)) (numOf (ds.getD 1 default)).toNat), true, [26, 3]⟩
def c0 : Ctx := ⟨tab, fun _ => none, [], []⟩
def c130 : Ctx := ⟨tab, lkS [(136, sp136)], [], []⟩
set_option maxRecDepth 100000 in
theorem vc136  (x : W) (n : Nat) (F : D)  :
    (owed c0 (fun _ => none) Tryd.f136 [wd x, i64 (-(n : Int))] F) = (
 True ∧ True ∧ True ∧ True ∧ True ∧ True ∧ True ∧ (0 : Int) ≤ iand IntKind.u64 (IntKind.u64.wrap (-(↑n : Int))) (31 : Int) ∧ True ∧ True ∧ True ∧ (0 : Int) ≤ IntKind.u64.wrap ((32 : Int) - iand IntKind.u64 (IntKind.u64.wrap (-(↑n : Int))) (31 : Int)) ∧ True ∧ True ∧ (false = false ∧ True) ∧ D.val (.int .u32 (ior IntKind.u32 (ishl IntKind.u32 (↑(BitVec.toNat x) : Int) (iand IntKind.u64 (IntKind.u64.wrap (-(↑n : Int))) (31 : Int))) (ishr IntKind.u32 (↑(BitVec.toNat x) : Int) (IntKind.u64.wrap ((32 : Int) - iand IntKind.u64 (IntKind.u64.wrap (-(↑n : Int))) (31 : Int)))))) = F) := by kernel_rfl
set_option maxRecDepth 100000 in
theorem vc130  (x : W) (n : Nat) (F : D)  :
    (owed c130 (fun _ => none) Tryd.f130 [wd x, i64 (n : Int)] F) = (
 True ∧ True ∧ True ∧ True ∧ (∃ (x_1 : W), ∃ (n_1 : Nat), [D.val (.int .u32 (↑(BitVec.toNat x) : Int)), D.val (.int .i64 (IntKind.i64.wrap ((0 : Int) - (↑n : Int))))] = [D.val (.int .u32 (↑(BitVec.toNat x_1) : Int)), D.val (.int .i64 (-(↑n_1 : Int)))] ∧ 1 ≤ n_1 ∧ n_1 ≤ 31) ∧ True ∧ (false = false ∧ True) ∧ D.val (.int .u32 (↑(BitVec.toNat (rr (toW (D.val (.int .u32 (↑(BitVec.toNat x) : Int)))) (-IntKind.i64.wrap ((0 : Int) - (↑n : Int))).toNat)) : Int)) = F) := by kernel_rfl
set_option maxRecDepth 100000 in
theorem vc133  (x : W) (n : Nat) (F : D)  :
    (owed c0 (fun _ => none) Tryd.f133 [wd x, u64 (n : Int)] F) = (
 True ∧ True ∧ True ∧ (0 : Int) ≤ (↑n : Int) ∧ True ∧ True ∧ True ∧ (0 : Int) ≤ IntKind.u64.wrap ((32 : Int) - (↑n : Int)) ∧ True ∧ True ∧ (false = false ∧ True) ∧ D.val (.int .u32 (ior IntKind.u32 (ishr IntKind.u32 (↑(BitVec.toNat x) : Int) (↑n : Int)) (ishl IntKind.u32 (↑(BitVec.toNat x) : Int) (IntKind.u64.wrap ((32 : Int) - (↑n : Int)))))) = F) := by kernel_rfl
set_option maxRecDepth 100000 in
theorem vc134  (x y z : W) (F : D)  :
    (owed c0 (fun _ => none) Tryd.f134 [wd x, wd y, wd z] F) = (
 True ∧ True ∧ True ∧ True ∧ True ∧ True ∧ True ∧ True ∧ True ∧ (false = false ∧ True) ∧ D.val (.int .u32 (ixor IntKind.u32 (↑(BitVec.toNat z) : Int) (iand IntKind.u32 (↑(BitVec.toNat x) : Int) (ixor IntKind.u32 (↑(BitVec.toNat y) : Int) (↑(BitVec.toNat z) : Int))))) = F) := by kernel_rfl
set_option maxRecDepth 100000 in
theorem vc135  (x y z : W) (F : D)  :
    (owed c0 (fun _ => none) Tryd.f135 [wd x, wd y, wd z] F) = (
 True ∧ True ∧ True ∧ True ∧ True ∧ True ∧ True ∧ True ∧ True ∧ True ∧ True ∧ (false = false ∧ True) ∧ D.val (.int .u32 (ior IntKind.u32 (iand IntKind.u32 (↑(BitVec.toNat x) : Int) (↑(BitVec.toNat y) : Int)) (iand IntKind.u32 (↑(BitVec.toNat z) : Int) (ior IntKind.u32 (↑(BitVec.toNat x) : Int) (↑(BitVec.toNat y) : Int))))) = F) := by kernel_rfl
set_option maxRecDepth 100000 in
theorem vc129  (l : List Int) (i : Nat) (F : D)  :
    (owed c0 (fun _ => none) Tryd.f129 [.ints .u8 l, i64 (i : Int)] F) = (
 True ∧ True ∧ True ∧ ((0 : Int) ≤ (↑i : Int) ∧ (↑i : Int) < (↑l.length : Int) ∧ 1 = 1) ∧ (1 ≠ 0 ∧ 1 = 1 ∧ false = false) ∧ True ∧ (0 : Int) ≤ 24 ∧ True ∧ True ∧ True ∧ ((0 : Int) ≤ IntKind.i64.wrap ((↑i : Int) + (1 : Int)) ∧ IntKind.i64.wrap ((↑i : Int) + (1 : Int)) < (↑l.length : Int) ∧ 1 = 1) ∧ (1 ≠ 0 ∧ 1 = 1 ∧ false = false) ∧ True ∧ (0 : Int) ≤ 16 ∧ True ∧ True ∧ True ∧ True ∧ ((0 : Int) ≤ IntKind.i64.wrap ((↑i : Int) + (2 : Int)) ∧ IntKind.i64.wrap ((↑i : Int) + (2 : Int)) < (↑l.length : Int) ∧ 1 = 1) ∧ (1 ≠ 0 ∧ 1 = 1 ∧ false = false) ∧ True ∧ (0 : Int) ≤ 8 ∧ True ∧ True ∧ True ∧ True ∧ ((0 : Int) ≤ IntKind.i64.wrap ((↑i : Int) + (3 : Int)) ∧ IntKind.i64.wrap ((↑i : Int) + (3 : Int)) < (↑l.length : Int) ∧ 1 = 1) ∧ (1 ≠ 0 ∧ 1 = 1 ∧ false = false) ∧ True ∧ True ∧ True ∧ (false = false ∧ True) ∧ D.val (Value.int IntKind.u32 (ior IntKind.u32 (ior IntKind.u32 (ior IntKind.u32 (ishl IntKind.u32 (IntKind.u32.wrap (l.getD (↑i : Int).toNat (0 : Int))) (24 : Int)) (ishl IntKind.u32 (IntKind.u32.wrap (l.getD (IntKind.i64.wrap ((↑i : Int) + (1 : Int))).toNat (0 : Int))) (16 : Int))) (ishl IntKind.u32 (IntKind.u32.wrap (l.getD (IntKind.i64.wrap ((↑i : Int) + (2 : Int))).toNat (0 : Int))) (8 : Int))) (IntKind.u32.wrap (l.getD (IntKind.i64.wrap ((↑i : Int) + (3 : Int))).toNat (0 : Int))))) = F) := by kernel_rfl
theorem rr_eq (x : W) (n : Nat) : x <<< (32 - n) ||| x >>> n = rr x n := by unfold rr; exact BitVec.or_comm _ _
set_option maxRecDepth 100000 in
theorem m136 : Meets Tryd.prog 136 sp136 := by
 refine meets_of_owed (C := c0) ⟨tab_ok, fun f s h => by cases h⟩ (by kernel_rfl) (by kernel_rfl : Tryd.prog.funcs[136]? = some Tryd.f136) (by kernel_rfl) (by kernel_rfl) (by kernel_rfl) _ ?_
 rintro _ ⟨x, n, rfl, h1, h2⟩
 refine ⟨fun _ => rfl, fun _ => none, ?_⟩
 show owed c0 (fun _ => none) Tryd.f136 [wd x, i64 (-(n : Int))] (wd (rr (toW (wd x)) (-(-(n : Int))).toNat))
 rw [vc136, toW_wd, Int.neg_neg, Int.toNat_natCast]
 have e1 : iand .u64 (IntKind.u64.wrap (-(n : Int))) 31 = ((32 - n : Nat) : Int) := by
  rw [show IntKind.u64.wrap (-(n : Int)) = ((18446744073709551616 - n : Nat) : Int) by rw [w64]; omega, show (31 : Int) = ((31 : Nat) : Int) from rfl, iandN .u64 (show _ < 18446744073709551616 by omega) (show 31 < 18446744073709551616 by decide)]
  congr 1
  rw [show (31 : Nat) = 2 ^ 5 - 1 from rfl, Nat.and_two_pow_sub_one_eq_mod]
  omega
 have e2 : IntKind.u64.wrap (32 - ((32 - n : Nat) : Int)) = (n : Int) := by rw [w64]; omega
 rw [e1, e2, shlW x (by omega), shrW x (by omega), orW, rr_eq]
 and_intros <;> first | rfl | omega | trivial
set_option maxRecDepth 100000 in
theorem m130 : Meets Tryd.prog 130 sp130 := by
 refine meets_of_owed (C := c130) ⟨tab_ok, lkS_ok ⟨m136, trivial⟩⟩ (by kernel_rfl) (by kernel_rfl : Tryd.prog.funcs[130]? = some Tryd.f130) (by kernel_rfl) (by kernel_rfl) (by kernel_rfl) _ ?_
 rintro _ ⟨x, n, rfl, h1, h2⟩
 refine ⟨fun _ => rfl, fun _ => none, ?_⟩
 show owed c130 (fun _ => none) Tryd.f130 [wd x, i64 (n : Int)] (wd (rr (toW (wd x)) ((n : Int)).toNat))
 rw [vc130]
 have e : IntKind.i64.wrap (0 - (n : Int)) = -(n : Int) := by rw [wi (by omega) (by omega)]; omega
 rw [e, Int.neg_neg]
 simp only [true_and, and_true]
 exact ⟨x, n, rfl, h1, h2⟩
set_option maxRecDepth 100000 in
theorem m133 : Meets Tryd.prog 133 sp133 := by
 refine meets_of_owed (C := c0) ⟨tab_ok, fun f s h => by cases h⟩ (by kernel_rfl) (by kernel_rfl : Tryd.prog.funcs[133]? = some Tryd.f133) (by kernel_rfl) (by kernel_rfl) (by kernel_rfl) _ ?_
 rintro _ ⟨x, n, rfl, h1, h2⟩
 refine ⟨fun _ => rfl, fun _ => none, ?_⟩
 show owed c0 (fun _ => none) Tryd.f133 [wd x, u64 (n : Int)] (wd (rr (toW (wd x)) ((n : Int)).toNat))
 rw [vc133, toW_wd, Int.toNat_natCast]
 rw [show IntKind.u64.wrap (32 - (n : Int)) = ((32 - n : Nat) : Int) by rw [w64]; omega, shlW x (by omega), shrW x (by omega), orW, ← rr_eq, BitVec.or_comm]
 and_intros <;> first | rfl | omega | trivial
theorem ch_eq (x y z : W) : z ^^^ (x &&& (y ^^^ z)) = chW x y z := by
 unfold chW
 ext i hi
 simp only [BitVec.getElem_xor, BitVec.getElem_and, BitVec.getElem_not]
 cases x[i] <;> cases y[i] <;> cases z[i] <;> rfl
theorem mj_eq (x y z : W) : (x &&& y) ||| (z &&& (x ||| y)) = mjW x y z := by
 unfold mjW
 ext i hi
 simp only [BitVec.getElem_xor, BitVec.getElem_and, BitVec.getElem_or]
 cases x[i] <;> cases y[i] <;> cases z[i] <;> rfl
set_option maxRecDepth 100000 in
theorem m134 : Meets Tryd.prog 134 sp134 := by
 refine meets_of_owed (C := c0) ⟨tab_ok, fun f s h => by cases h⟩ (by kernel_rfl) (by kernel_rfl : Tryd.prog.funcs[134]? = some Tryd.f134) (by kernel_rfl) (by kernel_rfl) (by kernel_rfl) _ ?_
 rintro _ ⟨x, y, z, rfl⟩
 refine ⟨fun _ => rfl, fun _ => none, ?_⟩
 show owed c0 (fun _ => none) Tryd.f134 [wd x, wd y, wd z] (wd (chW (toW (wd x)) (toW (wd y)) (toW (wd z))))
 rw [vc134, toW_wd, toW_wd, toW_wd, xorW, andW, xorW, ch_eq]
 and_intros <;> first | rfl | omega | trivial
set_option maxRecDepth 100000 in
theorem m135 : Meets Tryd.prog 135 sp135 := by
 refine meets_of_owed (C := c0) ⟨tab_ok, fun f s h => by cases h⟩ (by kernel_rfl) (by kernel_rfl : Tryd.prog.funcs[135]? = some Tryd.f135) (by kernel_rfl) (by kernel_rfl) (by kernel_rfl) _ ?_
 rintro _ ⟨x, y, z, rfl⟩
 refine ⟨fun _ => rfl, fun _ => none, ?_⟩
 show owed c0 (fun _ => none) Tryd.f135 [wd x, wd y, wd z] (wd (mjW (toW (wd x)) (toW (wd y)) (toW (wd z))))
 rw [vc135, toW_wd, toW_wd, toW_wd, orW, andW, andW, orW, mj_eq]
 and_intros <;> first | rfl | omega | trivial
theorem byte_at {l : List Int} (h : isBytes l) {i : Nat} (hi : i < l.length) : ∃ b : Nat, l.getD i 0 = (b : Int) ∧ b < 256 := by
 have := h (l.getD i 0) (by rw [List.getD_eq_getElem?_getD, List.getElem?_eq_getElem hi]; exact List.getElem_mem hi)
 exact ⟨(l.getD i 0).toNat, by omega, by omega⟩
theorem or_add {a b k : Nat} (hb : b < 2 ^ k) (ha : a % 2 ^ k = 0) : a ||| b = a + b := by
 have e : a = 2 ^ k * (a / 2 ^ k) := by have := Nat.div_add_mod a (2 ^ k); omega
 rw [e, Nat.two_pow_add_eq_or_of_lt hb]
theorem w4_eq {a b c d : Nat} (ha : a < 256) (hb : b < 256) (hc : c < 256) (hd : d < 256) :
  ior .u32 (ior .u32 (ior .u32 (ishl .u32 (IntKind.u32.wrap (a : Int)) 24) (ishl .u32 (IntKind.u32.wrap (b : Int)) 16)) (ishl .u32 (IntKind.u32.wrap (c : Int)) 8)) (IntKind.u32.wrap (d : Int)) = ((w4 a b c d).toNat : Int) := by
 have k : kb .u32 = 4294967296 := rfl
 have sh : ∀ (x m : Nat), x < 256 → m ≤ 24 → ishl .u32 (IntKind.u32.wrap (x : Int)) (m : Int) = ((x * 2 ^ m : Nat) : Int) := by
  intro x m hx hm
  have : x * 2 ^ m < 4294967296 := by
   have : 2 ^ m ≤ 2 ^ 24 := Nat.pow_le_pow_right (by decide) hm
   have h2 : x * 2 ^ m ≤ 255 * 2 ^ 24 := Nat.mul_le_mul (by omega) this
   omega
  rw [wrapN .u32 (by rw [k]; omega), ishlN .u32 (by show m ≤ 32; omega), wrapN .u32 (by rw [k]; exact this)]
 rw [show (24 : Int) = ((24 : Nat) : Int) from rfl, show (16 : Int) = ((16 : Nat) : Int) from rfl, show (8 : Int) = ((8 : Nat) : Int) from rfl,
  sh a 24 ha (by decide), sh b 16 hb (by decide), sh c 8 hc (by decide), wrapN .u32 (n := d) (by rw [k]; omega)]
 have o1 : a * 2 ^ 24 ||| b * 2 ^ 16 = a * 2 ^ 24 + b * 2 ^ 16 := or_add (k := 24) (by omega) (by omega)
 have o2 : (a * 2 ^ 24 + b * 2 ^ 16) ||| c * 2 ^ 8 = a * 2 ^ 24 + b * 2 ^ 16 + c * 2 ^ 8 := or_add (k := 16) (by omega) (by omega)
 have o3 : (a * 2 ^ 24 + b * 2 ^ 16 + c * 2 ^ 8) ||| d = a * 2 ^ 24 + b * 2 ^ 16 + c * 2 ^ 8 + d := or_add (k := 8) (by omega) (by omega)
 rw [iorN .u32 (by rw [k]; omega) (by rw [k]; omega), o1, iorN .u32 (by rw [k]; omega) (by rw [k]; omega), o2, iorN .u32 (by rw [k]; omega) (by rw [k]; omega), o3]
 unfold w4
 rw [Int.toNat_natCast, Int.toNat_natCast, Int.toNat_natCast, Int.toNat_natCast, ofW _ (by omega)]
set_option maxRecDepth 100000 in
theorem m129 : Meets Tryd.prog 129 sp129 := by
 refine meets_of_owed (C := c0) ⟨tab_ok, fun f s h => by cases h⟩ (by kernel_rfl) (by kernel_rfl : Tryd.prog.funcs[129]? = some Tryd.f129) (by kernel_rfl) (by kernel_rfl) (by kernel_rfl) _ ?_
 rintro _ ⟨l, i, rfl, hb, hi, hi2⟩
 refine ⟨fun _ => rfl, fun _ => none, ?_⟩
 show owed c0 (fun _ => none) Tryd.f129 [.ints .u8 l, i64 (i : Int)] (wd (wat l ((i : Int)).toNat))
 rw [vc129]
 have e1 : IntKind.i64.wrap ((i : Int) + 1) = ((i + 1 : Nat) : Int) := by rw [wi (by omega) (by omega)]; omega
 have e2 : IntKind.i64.wrap ((i : Int) + 2) = ((i + 2 : Nat) : Int) := by rw [wi (by omega) (by omega)]; omega
 have e3 : IntKind.i64.wrap ((i : Int) + 3) = ((i + 3 : Nat) : Int) := by rw [wi (by omega) (by omega)]; omega
 rw [e1, e2, e3, Int.toNat_natCast, Int.toNat_natCast, Int.toNat_natCast, Int.toNat_natCast]
 unfold wat
 obtain ⟨a, ea, ha⟩ := byte_at hb (i := i) (by omega)
 obtain ⟨b, eb, hbb⟩ := byte_at hb (i := i + 1) (by omega)
 obtain ⟨c, ec, hc⟩ := byte_at hb (i := i + 2) (by omega)
 obtain ⟨d, ed, hd⟩ := byte_at hb (i := i + 3) (by omega)
 rw [ea, eb, ec, ed, w4_eq ha hbb hc hd]
 and_intros <;> first | rfl | omega | trivial
end Go.Proofs.YtkicjckhkefnpaaDoor
namespace Go.Proofs.YtkicjckhkefnpaaDoor
open Go Go.Vg
structure R8 where
 a : W
 b : W
 c : W
 d : W
 e : W
 f : W
 g : W
 h : W
def R8.l (x : R8) : List Int := [(x.a.toNat : Int), (x.b.toNat : Int), (x.c.toNat : Int), (x.d.toNat : Int), (x.e.toNat : Int), (x.f.toNat : Int), (x.g.toNat : Int), (x.h.toNat : Int)]
def sA (x : W) : W := (rr x 7 ^^^ rr x 18) ^^^ (x >>> 3)
def sB (x : W) : W := (rr x 17 ^^^ rr x 19) ^^^ (x >>> 10)
def sC (x : W) : W := (rr x 6 ^^^ rr x 11) ^^^ rr x 25
def sD (x : W) : W := (rr x 2 ^^^ rr x 13) ^^^ rr x 22
def wsR (l : List Int) : Nat → List W
 | 0 => []
 | t + 1 => (if t < 16 then wat l (4 * t) else (((wsR l t).getD 15 0 + sA ((wsR l t).getD 14 0)) + (wsR l t).getD 6 0) + sB ((wsR l t).getD 1 0)) :: wsR l t
def wn (l : List Int) (t : Nat) : W := (wsR l (t + 1)).getD 0 0
def wl (l : List Int) (n : Nat) : List Int := (List.range n).map fun t => ((wn l t).toNat : Int)
def kW (t : Nat) : W := BitVec.ofInt 32 (gl0.getD t 0)
def rdS (x : R8) (k w : W) : R8 :=
 let one := (((x.h + sC x.e) + chW x.e x.f x.g) + k) + w
 let two := sD x.a + mjW x.a x.b x.c
 ⟨one + two, x.a, x.b, x.c, x.d + one, x.e, x.f, x.g⟩
def rd (x : R8) (l : List Int) : Nat → R8
 | 0 => x
 | t + 1 => rdS (rd x l t) (kW t) (wn l t)
def add8 (x v : R8) : R8 := ⟨x.a + v.a, x.b + v.b, x.c + v.c, x.d + v.d, x.e + v.e, x.f + v.f, x.g + v.g, x.h + v.h⟩
def pr (x : R8) (l : List Int) : R8 := add8 x (rd x l 64)
def mixL (x : R8) (l : List Int) (i : Nat) : List Int := (pr x l).l.take i ++ x.l.drop i
def ofR (d : List Int) : R8 := ⟨BitVec.ofInt 32 (d.getD 0 0), BitVec.ofInt 32 (d.getD 1 0), BitVec.ofInt 32 (d.getD 2 0), BitVec.ofInt 32 (d.getD 3 0), BitVec.ofInt 32 (d.getD 4 0), BitVec.ofInt 32 (d.getD 5 0), BitVec.ofInt 32 (d.getD 6 0), BitVec.ofInt 32 (d.getD 7 0)⟩
def prL (h l : List Int) : List Int := (pr (ofR h) l).l
abbrev a8 (l : List Int) : D := .arr .u32 8 l
def sp117 : Go.Vg.Spec := ⟨fun ds => ∃ (x : R8) (l : List Int), ds = [a8 x.l, .arr .u8 64 l] ∧ isBytes l ∧ l.length = 64, fun ds => a8 (prL (arrOf (ds.headD default)) (arrOf (ds.getD 1 default))), true, [114, 115]⟩
def sp128 : Go.Vg.Spec := ⟨fun ds => ∃ (x : R8) (l : List Int), ds = [.ints .u32 x.l, .str l] ∧ isBytes l ∧ l.length = 64, fun ds => .ints .u32 (prL (intsOf (ds.headD default)) (strOf (ds.getD 1 default))), false, [170, 9]⟩
def c117 : Ctx := ⟨tab, lkS [(129, sp129), (130, sp130)], [], []⟩
def c128 : Ctx := ⟨tab, lkS [(133, sp133), (134, sp134), (135, sp135)], [24], []⟩
def inv117 (x : R8) (l : List Int) : Nat → Option Inv
 | 3 => some ⟨Nat, fun i => [(20, .d (i64 i))], fun i => [(5, .fix (.arr .u32 64 (wl l i ++ List.replicate (64 - i) 0)))], fun s => (slotN s 20).toNat, fun _ i => i ≤ 64, fun i => 64 - i⟩
 | 12 => some ⟨Nat, fun i => [(70, .d (i64 i))], fun i => [(9, .fix (a8 (rd x l i).l))], fun s => (slotN s 70).toNat, fun _ i => i ≤ 64, fun i => 64 - i⟩
 | 20 => some ⟨Nat, fun i => [(148, .d (i64 i))], fun i => [(2, .fix (a8 (mixL x l i)))], fun s => (slotN s 148).toNat, fun _ i => i ≤ 8, fun i => 8 - i⟩
 | _ => none
set_option maxRecDepth 100000 in
theorem vc117  (x : R8) (l : List Int) (F : D)  :
    (owed c117 (inv117 x l) Tryd.f117 [a8 x.l, .arr .u8 64 l] F) = (
 (True ∧ false = false) ∧ (True ∧ false = false) ∧ (True ∧ 8 ≠ 0) ∧ (True ∧ 64 ≠ 0) ∧ True ∧ (((AV.d (D.val (.int .i64 0)) = AV.d (D.val (.int .i64 (↑(Int.toNat (0 : Int)) : Int))) ∧ True) ∧ (sm (some (Blk.fix (D.arr .u32 8 [(↑(BitVec.toNat x.a) : Int), (↑(BitVec.toNat x.b) : Int), (↑(BitVec.toNat x.c) : Int), (↑(BitVec.toNat x.d) : Int), (↑(BitVec.toNat x.e) : Int), (↑(BitVec.toNat x.f) : Int), (↑(BitVec.toNat x.g) : Int), (↑(BitVec.toNat x.h) : Int)]))) ∧ sm (some (Blk.fix (D.arr .u8 64 l))) ∧ sm (some (Blk.fix (D.arr .u32 8 [(0 : Int), (0 : Int), (0 : Int), (0 : Int), (0 : Int), (0 : Int), (0 : Int), (0 : Int)]))) ∧ some (Blk.fix (D.arr .u32 64 (List.replicate 64 (0 : Int)))) = some (Blk.fix (D.arr .u32 64 (wl l (Int.toNat (0 : Int)) ++ (List.replicate 64 (0 : Int))))) ∧ True) ∧ true = true) ∧ Int.toNat (0 : Int) ≤ 64) ∧ ∀ (x_1 : Nat), x_1 ≤ 64 → true = true ∧ True ∧ match decide ((↑x_1 : Int) < (64 : Int)) with
 | true => True ∧ True ∧ True ∧ True ∧ match decide ((↑x_1 : Int) < (16 : Int)) with
  | true => True ∧ ((0 : Int) ≤ 0 ∧ (0 : Int) ≤ (↑(64 : Nat) : Int) ∧ (↑(64 : Nat) : Int) ≤ (↑(64 : Nat) : Int) ∧ 64 = 64 ∧ 1 = 1) ∧ True ∧ True ∧ (∃ (l_1 : List Int), ∃ (i : Nat), [D.ints .u8 (List.take ((↑(64 : Nat) : Int).toNat - Int.toNat (0 : Int)) (List.drop 0 l)), D.val (.int .i64 (IntKind.i64.wrap ((4 : Int) * (↑x_1 : Int))))] = [D.ints .u8 l_1, D.val (.int .i64 (↑i : Int))] ∧ isBytes l_1 ∧ i + 3 < l_1.length ∧ i < 1000) ∧ ((0 : Int) ≤ (↑x_1 : Int) ∧ (↑x_1 : Int) < (↑(64 : Nat) : Int) ∧ 64 = 64 ∧ 1 = 1) ∧ (((↑x_1 : Int).toNat < 64 ∧ ([] : List Nat) = [] ∧ true = true) ∧ 1 ≠ 0 ∧ 1 = 1 ∧ false = false) ∧ True ∧ True ∧ ((AV.d (D.val (.int .i64 (IntKind.i64.wrap ((↑x_1 : Int) + (1 : Int))))) = AV.d (D.val (.int .i64 (↑(IntKind.i64.wrap ((↑x_1 : Int) + (1 : Int))).toNat : Int))) ∧ True) ∧ (sm (some (Blk.fix (D.arr .u32 8 [(↑(BitVec.toNat x.a) : Int), (↑(BitVec.toNat x.b) : Int), (↑(BitVec.toNat x.c) : Int), (↑(BitVec.toNat x.d) : Int), (↑(BitVec.toNat x.e) : Int), (↑(BitVec.toNat x.f) : Int), (↑(BitVec.toNat x.g) : Int), (↑(BitVec.toNat x.h) : Int)]))) ∧ sm (some (Blk.fix (D.arr .u8 64 l))) ∧ sm (some (Blk.fix (D.arr .u32 8 [(0 : Int), (0 : Int), (0 : Int), (0 : Int), (0 : Int), (0 : Int), (0 : Int), (0 : Int)]))) ∧ some (Blk.fix (D.arr .u32 64 ((wl l x_1 ++ List.replicate (64 - x_1) (0 : Int)).set (↑x_1 : Int).toNat (↑(BitVec.toNat (wat (List.take ((↑(64 : Nat) : Int).toNat - Int.toNat (0 : Int)) (List.drop 0 l)) (IntKind.i64.wrap ((4 : Int) * (↑x_1 : Int))).toNat)) : Int)))) = some (Blk.fix (D.arr .u32 64 (wl l (IntKind.i64.wrap ((↑x_1 : Int) + (1 : Int))).toNat ++ List.replicate (64 - (IntKind.i64.wrap ((↑x_1 : Int) + (1 : Int))).toNat) (0 : Int)))) ∧ True) ∧ true = true) ∧ (IntKind.i64.wrap ((↑x_1 : Int) + (1 : Int))).toNat ≤ 64 ∧ 64 - (IntKind.i64.wrap ((↑x_1 : Int) + (1 : Int))).toNat < 64 - x_1
  | false => True ∧ True ∧ ((0 : Int) ≤ IntKind.i64.wrap ((↑x_1 : Int) - (15 : Int)) ∧ IntKind.i64.wrap ((↑x_1 : Int) - (15 : Int)) < (↑(64 : Nat) : Int) ∧ 64 = 64 ∧ 1 = 1) ∧ (1 ≠ 0 ∧ 1 = 1 ∧ false = false) ∧ True ∧ True ∧ ((0 : Int) ≤ IntKind.i64.wrap ((↑x_1 : Int) - (2 : Int)) ∧ IntKind.i64.wrap ((↑x_1 : Int) - (2 : Int)) < (↑(64 : Nat) : Int) ∧ 64 = 64 ∧ 1 = 1) ∧ (1 ≠ 0 ∧ 1 = 1 ∧ false = false) ∧ True ∧ True ∧ True ∧ True ∧ True ∧ ((0 : Int) ≤ IntKind.i64.wrap ((↑x_1 : Int) - (16 : Int)) ∧ IntKind.i64.wrap ((↑x_1 : Int) - (16 : Int)) < (↑(64 : Nat) : Int) ∧ 64 = 64 ∧ 1 = 1) ∧ (1 ≠ 0 ∧ 1 = 1 ∧ false = false) ∧ True ∧ (∃ (x : W), ∃ (n : Nat), [D.val (.int .u32 ((wl l x_1 ++ List.replicate (64 - x_1) (0 : Int)).getD (IntKind.i64.wrap ((↑x_1 : Int) - (15 : Int))).toNat (0 : Int))), D.val (.int .i64 7)] = [D.val (.int .u32 (↑(BitVec.toNat x) : Int)), D.val (.int .i64 (↑n : Int))] ∧ 1 ≤ n ∧ n ≤ 31) ∧ True ∧ (∃ (x : W), ∃ (n : Nat), [D.val (.int .u32 ((wl l x_1 ++ List.replicate (64 - x_1) (0 : Int)).getD (IntKind.i64.wrap ((↑x_1 : Int) - (15 : Int))).toNat (0 : Int))), D.val (.int .i64 18)] = [D.val (.int .u32 (↑(BitVec.toNat x) : Int)), D.val (.int .i64 (↑n : Int))] ∧ 1 ≤ n ∧ n ≤ 31) ∧ True ∧ True ∧ (0 : Int) ≤ 3 ∧ True ∧ True ∧ True ∧ True ∧ ((0 : Int) ≤ IntKind.i64.wrap ((↑x_1 : Int) - (7 : Int)) ∧ IntKind.i64.wrap ((↑x_1 : Int) - (7 : Int)) < (↑(64 : Nat) : Int) ∧ 64 = 64 ∧ 1 = 1) ∧ (1 ≠ 0 ∧ 1 = 1 ∧ false = false) ∧ True ∧ True ∧ (∃ (x : W), ∃ (n : Nat), [D.val (.int .u32 ((wl l x_1 ++ List.replicate (64 - x_1) (0 : Int)).getD (IntKind.i64.wrap ((↑x_1 : Int) - (2 : Int))).toNat (0 : Int))), D.val (.int .i64 17)] = [D.val (.int .u32 (↑(BitVec.toNat x) : Int)), D.val (.int .i64 (↑n : Int))] ∧ 1 ≤ n ∧ n ≤ 31) ∧ True ∧ (∃ (x : W), ∃ (n : Nat), [D.val (.int .u32 ((wl l x_1 ++ List.replicate (64 - x_1) (0 : Int)).getD (IntKind.i64.wrap ((↑x_1 : Int) - (2 : Int))).toNat (0 : Int))), D.val (.int .i64 19)] = [D.val (.int .u32 (↑(BitVec.toNat x) : Int)), D.val (.int .i64 (↑n : Int))] ∧ 1 ≤ n ∧ n ≤ 31) ∧ True ∧ True ∧ (0 : Int) ≤ 10 ∧ True ∧ True ∧ ((0 : Int) ≤ (↑x_1 : Int) ∧ (↑x_1 : Int) < (↑(64 : Nat) : Int) ∧ 64 = 64 ∧ 1 = 1) ∧ (((↑x_1 : Int).toNat < 64 ∧ ([] : List Nat) = [] ∧ true = true) ∧ 1 ≠ 0 ∧ 1 = 1 ∧ false = false) ∧ True ∧ True ∧ ((AV.d (D.val (.int .i64 (IntKind.i64.wrap ((↑x_1 : Int) + (1 : Int))))) = AV.d (D.val (.int .i64 (↑(IntKind.i64.wrap ((↑x_1 : Int) + (1 : Int))).toNat : Int))) ∧ True) ∧ (sm (some (Blk.fix (D.arr .u32 8 [(↑(BitVec.toNat x.a) : Int), (↑(BitVec.toNat x.b) : Int), (↑(BitVec.toNat x.c) : Int), (↑(BitVec.toNat x.d) : Int), (↑(BitVec.toNat x.e) : Int), (↑(BitVec.toNat x.f) : Int), (↑(BitVec.toNat x.g) : Int), (↑(BitVec.toNat x.h) : Int)]))) ∧ sm (some (Blk.fix (D.arr .u8 64 l))) ∧ sm (some (Blk.fix (D.arr .u32 8 [(0 : Int), (0 : Int), (0 : Int), (0 : Int), (0 : Int), (0 : Int), (0 : Int), (0 : Int)]))) ∧ some (Blk.fix (D.arr .u32 64 ((wl l x_1 ++ List.replicate (64 - x_1) (0 : Int)).set (↑x_1 : Int).toNat (IntKind.u32.wrap (IntKind.u32.wrap
   (IntKind.u32.wrap ((wl l x_1 ++ List.replicate (64 - x_1) (0 : Int)).getD (IntKind.i64.wrap ((↑x_1 : Int) - (16 : Int))).toNat (0 : Int) + ixor IntKind.u32 (ixor IntKind.u32 (↑(BitVec.toNat (rr (toW (D.val (.int .u32 ((wl l x_1 ++ List.replicate (64 - x_1) (0 : Int)).getD (IntKind.i64.wrap ((↑x_1 : Int) - (15 : Int))).toNat (0 : Int))))) 7)) : Int) (↑(BitVec.toNat (rr (toW (D.val (.int .u32 ((wl l x_1 ++ List.replicate (64 - x_1) (0 : Int)).getD (IntKind.i64.wrap ((↑x_1 : Int) - (15 : Int))).toNat (0 : Int))))) 18)) : Int)) (ishr IntKind.u32 ((wl l x_1 ++ List.replicate (64 - x_1) (0 : Int)).getD (IntKind.i64.wrap ((↑x_1 : Int) - (15 : Int))).toNat (0 : Int)) (3 : Int))) + (wl l x_1 ++ List.replicate (64 - x_1) (0 : Int)).getD (IntKind.i64.wrap ((↑x_1 : Int) - (7 : Int))).toNat (0 : Int)) + ixor IntKind.u32 (ixor IntKind.u32 (↑(BitVec.toNat (rr (toW (D.val (.int .u32 ((wl l x_1 ++ List.replicate (64 - x_1) (0 : Int)).getD (IntKind.i64.wrap ((↑x_1 : Int) - (2 : Int))).toNat (0 : Int))))) 17)) : Int) (↑(BitVec.toNat (rr (toW (D.val (.int .u32 ((wl l x_1 ++ List.replicate (64 - x_1) (0 : Int)).getD (IntKind.i64.wrap ((↑x_1 : Int) - (2 : Int))).toNat (0 : Int))))) 19)) : Int)) (ishr IntKind.u32 ((wl l x_1 ++ List.replicate (64 - x_1) (0 : Int)).getD (IntKind.i64.wrap ((↑x_1 : Int) - (2 : Int))).toNat (0 : Int)) (10 : Int))))))) = some (Blk.fix (D.arr .u32 64 (wl l (IntKind.i64.wrap ((↑x_1 : Int) + (1 : Int))).toNat ++ List.replicate (64 - (IntKind.i64.wrap ((↑x_1 : Int) + (1 : Int))).toNat) (0 : Int)))) ∧ True) ∧ true = true) ∧ (IntKind.i64.wrap ((↑x_1 : Int) + (1 : Int))).toNat ≤ 64 ∧ 64 - (IntKind.i64.wrap ((↑x_1 : Int) + (1 : Int))).toNat < 64 - x_1
 | false => (8 ≠ 0 ∧ 8 = 8 ∧ true = true) ∧ (True ∧ 8 ≠ 0) ∧ (Sk.arr 8 = Sk.arr 8 ∧ 8 ≠ 0 ∧ 8 = 8 ∧ false = false) ∧ True ∧ (((AV.d (D.val (.int .i64 0)) = AV.d (D.val (.int .i64 (↑(Int.toNat (0 : Int)) : Int))) ∧ True) ∧ (sm (some (Blk.fix (D.arr .u32 8 [(↑(BitVec.toNat x.a) : Int), (↑(BitVec.toNat x.b) : Int), (↑(BitVec.toNat x.c) : Int), (↑(BitVec.toNat x.d) : Int), (↑(BitVec.toNat x.e) : Int), (↑(BitVec.toNat x.f) : Int), (↑(BitVec.toNat x.g) : Int), (↑(BitVec.toNat x.h) : Int)]))) ∧ sm (some (Blk.fix (D.arr .u8 64 l))) ∧ sm (some (Blk.fix (D.arr .u32 8 [(0 : Int), (0 : Int), (0 : Int), (0 : Int), (0 : Int), (0 : Int), (0 : Int), (0 : Int)]))) ∧ sm (some (Blk.fix (D.arr .u32 64 (wl l x_1 ++ List.replicate (64 - x_1) (0 : Int))))) ∧ some (Blk.fix (D.arr .u32 8 [(↑(BitVec.toNat x.a) : Int), (↑(BitVec.toNat x.b) : Int), (↑(BitVec.toNat x.c) : Int), (↑(BitVec.toNat x.d) : Int), (↑(BitVec.toNat x.e) : Int), (↑(BitVec.toNat x.f) : Int), (↑(BitVec.toNat x.g) : Int), (↑(BitVec.toNat x.h) : Int)])) = some (Blk.fix (D.arr .u32 8 [(↑(BitVec.toNat (rd x l (Int.toNat (0 : Int))).a) : Int), (↑(BitVec.toNat (rd x l (Int.toNat (0 : Int))).b) : Int), (↑(BitVec.toNat (rd x l (Int.toNat (0 : Int))).c) : Int), (↑(BitVec.toNat (rd x l (Int.toNat (0 : Int))).d) : Int), (↑(BitVec.toNat (rd x l (Int.toNat (0 : Int))).e) : Int), (↑(BitVec.toNat (rd x l (Int.toNat (0 : Int))).f) : Int), (↑(BitVec.toNat (rd x l (Int.toNat (0 : Int))).g) : Int), (↑(BitVec.toNat (rd x l (Int.toNat (0 : Int))).h) : Int)])) ∧ True) ∧ true = true) ∧ Int.toNat (0 : Int) ≤ 64) ∧ ∀ (x_2 : Nat), x_2 ≤ 64 → true = true ∧ True ∧ match decide ((↑x_2 : Int) < (64 : Int)) with
  | true => True ∧ True ∧ ((0 : Int) ≤ 0 ∧ (0 : Int) < (↑(8 : Nat) : Int) ∧ 8 = 8 ∧ 1 = 1) ∧ (1 ≠ 0 ∧ 1 = 1 ∧ false = false) ∧ ((0 : Int) ≤ 1 ∧ (1 : Int) < (↑(8 : Nat) : Int) ∧ 8 = 8 ∧ 1 = 1) ∧ (1 ≠ 0 ∧ 1 = 1 ∧ false = false) ∧ ((0 : Int) ≤ 2 ∧ (2 : Int) < (↑(8 : Nat) : Int) ∧ 8 = 8 ∧ 1 = 1) ∧ (1 ≠ 0 ∧ 1 = 1 ∧ false = false) ∧ ((0 : Int) ≤ 4 ∧ (4 : Int) < (↑(8 : Nat) : Int) ∧ 8 = 8 ∧ 1 = 1) ∧ (1 ≠ 0 ∧ 1 = 1 ∧ false = false) ∧ ((0 : Int) ≤ 5 ∧ (5 : Int) < (↑(8 : Nat) : Int) ∧ 8 = 8 ∧ 1 = 1) ∧ (1 ≠ 0 ∧ 1 = 1 ∧ false = false) ∧ ((0 : Int) ≤ 6 ∧ (6 : Int) < (↑(8 : Nat) : Int) ∧ 8 = 8 ∧ 1 = 1) ∧ (1 ≠ 0 ∧ 1 = 1 ∧ false = false) ∧ True ∧ True ∧ True ∧ True ∧ True ∧ True ∧ ((0 : Int) ≤ 7 ∧ (7 : Int) < (↑(8 : Nat) : Int) ∧ 8 = 8 ∧ 1 = 1) ∧ (1 ≠ 0 ∧ 1 = 1 ∧ false = false) ∧ True ∧ (∃ (x_3 : W), ∃ (n : Nat), [D.val (.int .u32 (↑(BitVec.toNat (rd x l x_2).e) : Int)), D.val (.int .i64 6)] = [D.val (.int .u32 (↑(BitVec.toNat x_3) : Int)), D.val (.int .i64 (↑n : Int))] ∧ 1 ≤ n ∧ n ≤ 31) ∧ True ∧ (∃ (x_3 : W), ∃ (n : Nat), [D.val (.int .u32 (↑(BitVec.toNat (rd x l x_2).e) : Int)), D.val (.int .i64 11)] = [D.val (.int .u32 (↑(BitVec.toNat x_3) : Int)), D.val (.int .i64 (↑n : Int))] ∧ 1 ≤ n ∧ n ≤ 31) ∧ True ∧ True ∧ (∃ (x_3 : W), ∃ (n : Nat), [D.val (.int .u32 (↑(BitVec.toNat (rd x l x_2).e) : Int)), D.val (.int .i64 25)] = [D.val (.int .u32 (↑(BitVec.toNat x_3) : Int)), D.val (.int .i64 (↑n : Int))] ∧ 1 ≤ n ∧ n ≤ 31) ∧ True ∧ True ∧ True ∧ True ∧ True ∧ True ∧ True ∧ True ∧ True ∧ True ∧ True ∧ True ∧ ((0 : Int) ≤ (↑x_2 : Int) ∧ (↑x_2 : Int) < (↑(64 : Nat) : Int) ∧ 64 = 64 ∧ 1 = 1) ∧ (1 ≠ 0 ∧ 1 = 1 ∧ false = false) ∧ True ∧ True ∧ ((0 : Int) ≤ (↑x_2 : Int) ∧ (↑x_2 : Int) < (↑(64 : Nat) : Int) ∧ 64 = 64 ∧ 1 = 1) ∧ (1 ≠ 0 ∧ 1 = 1 ∧ false = false) ∧ True ∧ True ∧ True ∧ (∃ (x_3 : W), ∃ (n : Nat), [D.val (.int .u32 (↑(BitVec.toNat (rd x l x_2).a) : Int)), D.val (.int .i64 2)] = [D.val (.int .u32 (↑(BitVec.toNat x_3) : Int)), D.val (.int .i64 (↑n : Int))] ∧ 1 ≤ n ∧ n ≤ 31) ∧ True ∧ (∃ (x_3 : W), ∃ (n : Nat), [D.val (.int .u32 (↑(BitVec.toNat (rd x l x_2).a) : Int)), D.val (.int .i64 13)] = [D.val (.int .u32 (↑(BitVec.toNat x_3) : Int)), D.val (.int .i64 (↑n : Int))] ∧ 1 ≤ n ∧ n ≤ 31) ∧ True ∧ True ∧ (∃ (x_3 : W), ∃ (n : Nat), [D.val (.int .u32 (↑(BitVec.toNat (rd x l x_2).a) : Int)), D.val (.int .i64 22)] = [D.val (.int .u32 (↑(BitVec.toNat x_3) : Int)), D.val (.int .i64 (↑n : Int))] ∧ 1 ≤ n ∧ n ≤ 31) ∧ True ∧ True ∧ True ∧ True ∧ True ∧ True ∧ True ∧ True ∧ True ∧ True ∧ True ∧ True ∧ True ∧ True ∧ True ∧ True ∧ True ∧ True ∧ True ∧ True ∧ ((0 : Int) ≤ 3 ∧ (3 : Int) < (↑(8 : Nat) : Int) ∧ 8 = 8 ∧ 1 = 1) ∧ (1 ≠ 0 ∧ 1 = 1 ∧ false = false) ∧ True ∧ True ∧ True ∧ True ∧ True ∧ (1 = 1 ∧ false = false ∧ (0 < 8 ∧ ([] : List Nat) = [] ∧ true = true) ∧ false = false ∧ (1 < 8 ∧ ([] : List Nat) = [] ∧ true = true) ∧ false = false ∧ (2 < 8 ∧ ([] : List Nat) = [] ∧ true = true) ∧ false = false ∧ (3 < 8 ∧ ([] : List Nat) = [] ∧ true = true) ∧ false = false ∧ (4 < 8 ∧ ([] : List Nat) = [] ∧ true = true) ∧
   false = false ∧ (5 < 8 ∧ ([] : List Nat) = [] ∧ true = true) ∧ false = false ∧ (6 < 8 ∧ ([] : List Nat) = [] ∧ true = true) ∧ false = false ∧ (7 < 8 ∧ ([] : List Nat) = [] ∧ true = true) ∧ True) ∧ (Sk.arr 8 = Sk.arr 8 ∧ 8 ≠ 0 ∧ 8 = 8 ∧ false = false) ∧ True ∧ True ∧ ((AV.d (D.val (.int .i64 (IntKind.i64.wrap ((↑x_2 : Int) + (1 : Int))))) = AV.d (D.val (.int .i64 (↑(IntKind.i64.wrap ((↑x_2 : Int) + (1 : Int))).toNat : Int))) ∧ True) ∧ (sm (some (Blk.fix (D.arr .u32 8 [(↑(BitVec.toNat x.a) : Int), (↑(BitVec.toNat x.b) : Int), (↑(BitVec.toNat x.c) : Int), (↑(BitVec.toNat x.d) : Int), (↑(BitVec.toNat x.e) : Int), (↑(BitVec.toNat x.f) : Int), (↑(BitVec.toNat x.g) : Int), (↑(BitVec.toNat x.h) : Int)]))) ∧ sm (some (Blk.fix (D.arr .u8 64 l))) ∧ sm (some (Blk.fix (D.arr .u32 8 [(0 : Int), (0 : Int), (0 : Int), (0 : Int), (0 : Int), (0 : Int), (0 : Int), (0 : Int)]))) ∧ sm (some (Blk.fix (D.arr .u32 64 (wl l x_1 ++ List.replicate (64 - x_1) (0 : Int))))) ∧ some (Blk.fix (D.arr .u32 8 [IntKind.u32.wrap (IntKind.u32.wrap (IntKind.u32.wrap (IntKind.u32.wrap (IntKind.u32.wrap ((↑(BitVec.toNat (rd x l x_2).h) : Int) + ixor IntKind.u32 (ixor IntKind.u32 (↑(BitVec.toNat (rr (toW (D.val (.int .u32 (↑(BitVec.toNat (rd x l x_2).e) : Int)))) 6)) : Int) (↑(BitVec.toNat (rr (toW (D.val (.int .u32 (↑(BitVec.toNat (rd x l x_2).e) : Int)))) 11)) : Int)) (↑(BitVec.toNat (rr (toW (D.val (.int .u32 (↑(BitVec.toNat (rd x l x_2).e) : Int)))) 25)) : Int)) + ixor IntKind.u32 (iand IntKind.u32 (↑(BitVec.toNat (rd x l x_2).e) : Int) (↑(BitVec.toNat (rd x l x_2).f) : Int)) (iand IntKind.u32 (ixor IntKind.u32 IntKind.u32.max (↑(BitVec.toNat (rd x l x_2).e) : Int)) (↑(BitVec.toNat (rd x l x_2).g) : Int))) + gl0.getD (↑x_2 : Int).toNat (0 : Int)) + (wl l x_1 ++ List.replicate (64 - x_1) (0 : Int)).getD (↑x_2 : Int).toNat (0 : Int)) + IntKind.u32.wrap (ixor IntKind.u32 (ixor IntKind.u32 (↑(BitVec.toNat (rr (toW (D.val (.int .u32 (↑(BitVec.toNat (rd x l x_2).a) : Int)))) 2)) : Int) (↑(BitVec.toNat (rr (toW (D.val (.int .u32 (↑(BitVec.toNat (rd x l x_2).a) : Int)))) 13)) : Int)) (↑(BitVec.toNat (rr (toW (D.val (.int .u32 (↑(BitVec.toNat (rd x l x_2).a) : Int)))) 22)) : Int) + ixor IntKind.u32 (ixor IntKind.u32 (iand IntKind.u32 (↑(BitVec.toNat (rd x l x_2).a) : Int) (↑(BitVec.toNat (rd x l x_2).b) : Int)) (iand IntKind.u32 (↑(BitVec.toNat (rd x l x_2).a) : Int) (↑(BitVec.toNat (rd x l x_2).c) : Int))) (iand IntKind.u32 (↑(BitVec.toNat (rd x l x_2).b) : Int) (↑(BitVec.toNat (rd x l x_2).c) : Int)))), (↑(BitVec.toNat (rd x l x_2).a) : Int), (↑(BitVec.toNat (rd x l x_2).b) : Int), (↑(BitVec.toNat (rd x l x_2).c) : Int), IntKind.u32.wrap ((↑(BitVec.toNat (rd x l x_2).d) : Int) + IntKind.u32.wrap (IntKind.u32.wrap (IntKind.u32.wrap (IntKind.u32.wrap ((↑(BitVec.toNat (rd x l x_2).h) : Int) + ixor IntKind.u32 (ixor IntKind.u32 (↑(BitVec.toNat (rr (toW (D.val (.int .u32 (↑(BitVec.toNat (rd x l x_2).e) : Int)))) 6)) : Int) (↑(BitVec.toNat (rr (toW (D.val (.int .u32 (↑(BitVec.toNat (rd x l x_2).e) : Int)))) 11)) : Int))
   (↑(BitVec.toNat (rr (toW (D.val (.int .u32 (↑(BitVec.toNat (rd x l x_2).e) : Int)))) 25)) : Int)) + ixor IntKind.u32 (iand IntKind.u32 (↑(BitVec.toNat (rd x l x_2).e) : Int) (↑(BitVec.toNat (rd x l x_2).f) : Int)) (iand IntKind.u32 (ixor IntKind.u32 IntKind.u32.max (↑(BitVec.toNat (rd x l x_2).e) : Int)) (↑(BitVec.toNat (rd x l x_2).g) : Int))) + gl0.getD (↑x_2 : Int).toNat (0 : Int)) + (wl l x_1 ++ List.replicate (64 - x_1) (0 : Int)).getD (↑x_2 : Int).toNat (0 : Int))), (↑(BitVec.toNat (rd x l x_2).e) : Int), (↑(BitVec.toNat (rd x l x_2).f) : Int), (↑(BitVec.toNat (rd x l x_2).g) : Int)])) = some (Blk.fix (D.arr .u32 8 [(↑(BitVec.toNat (rd x l (IntKind.i64.wrap ((↑x_2 : Int) + (1 : Int))).toNat).a) : Int), (↑(BitVec.toNat (rd x l (IntKind.i64.wrap ((↑x_2 : Int) + (1 : Int))).toNat).b) : Int), (↑(BitVec.toNat (rd x l (IntKind.i64.wrap ((↑x_2 : Int) + (1 : Int))).toNat).c) : Int), (↑(BitVec.toNat (rd x l (IntKind.i64.wrap ((↑x_2 : Int) + (1 : Int))).toNat).d) : Int), (↑(BitVec.toNat (rd x l (IntKind.i64.wrap ((↑x_2 : Int) + (1 : Int))).toNat).e) : Int), (↑(BitVec.toNat (rd x l (IntKind.i64.wrap ((↑x_2 : Int) + (1 : Int))).toNat).f) : Int), (↑(BitVec.toNat (rd x l (IntKind.i64.wrap ((↑x_2 : Int) + (1 : Int))).toNat).g) : Int), (↑(BitVec.toNat (rd x l (IntKind.i64.wrap ((↑x_2 : Int) + (1 : Int))).toNat).h) : Int)])) ∧ True) ∧ true = true) ∧ (IntKind.i64.wrap ((↑x_2 : Int) + (1 : Int))).toNat ≤ 64 ∧ 64 - (IntKind.i64.wrap ((↑x_2 : Int) + (1 : Int))).toNat < 64 - x_2
  | false => True ∧ (((AV.d (D.val (.int .i64 0)) = AV.d (D.val (.int .i64 (↑(Int.toNat (0 : Int)) : Int))) ∧ True) ∧ (some (Blk.fix (D.arr .u32 8 [(↑(BitVec.toNat x.a) : Int), (↑(BitVec.toNat x.b) : Int), (↑(BitVec.toNat x.c) : Int), (↑(BitVec.toNat x.d) : Int), (↑(BitVec.toNat x.e) : Int), (↑(BitVec.toNat x.f) : Int), (↑(BitVec.toNat x.g) : Int), (↑(BitVec.toNat x.h) : Int)])) = some (Blk.fix (D.arr .u32 8 (mixL x l (Int.toNat (0 : Int))))) ∧ sm (some (Blk.fix (D.arr .u8 64 l))) ∧ sm (some (Blk.fix (D.arr .u32 8 [(0 : Int), (0 : Int), (0 : Int), (0 : Int), (0 : Int), (0 : Int), (0 : Int), (0 : Int)]))) ∧ sm (some (Blk.fix (D.arr .u32 64 (wl l x_1 ++ List.replicate (64 - x_1) (0 : Int))))) ∧ sm (some (Blk.fix (D.arr .u32 8 [(↑(BitVec.toNat (rd x l x_2).a) : Int), (↑(BitVec.toNat (rd x l x_2).b) : Int), (↑(BitVec.toNat (rd x l x_2).c) : Int), (↑(BitVec.toNat (rd x l x_2).d) : Int), (↑(BitVec.toNat (rd x l x_2).e) : Int), (↑(BitVec.toNat (rd x l x_2).f) : Int), (↑(BitVec.toNat (rd x l x_2).g) : Int), (↑(BitVec.toNat (rd x l x_2).h) : Int)]))) ∧ True) ∧ true = true) ∧ Int.toNat (0 : Int) ≤ 8) ∧ ∀ (x_3 : Nat), x_3 ≤ 8 → true = true ∧ True ∧ match decide ((↑x_3 : Int) < (8 : Int)) with
   | true => True ∧ True ∧ True ∧ ((0 : Int) ≤ (↑x_3 : Int) ∧ (↑x_3 : Int) < (↑(8 : Nat) : Int) ∧ 8 = 8 ∧ 1 = 1) ∧ (1 ≠ 0 ∧ 1 = 1 ∧ false = false) ∧ True ∧ ((0 : Int) ≤ (↑x_3 : Int) ∧ (↑x_3 : Int) < (↑(8 : Nat) : Int) ∧ 8 = 8 ∧ 1 = 1) ∧ (1 ≠ 0 ∧ 1 = 1 ∧ false = false) ∧ True ∧ ((0 : Int) ≤ (↑x_3 : Int) ∧ (↑x_3 : Int) < (↑(8 : Nat) : Int) ∧ 8 = 8 ∧ 1 = 1) ∧ (((↑x_3 : Int).toNat < 8 ∧ ([] : List Nat) = [] ∧ true = true) ∧ 1 ≠ 0 ∧ 1 = 1 ∧ false = false) ∧ True ∧ True ∧ ((AV.d (D.val (.int .i64 (IntKind.i64.wrap ((↑x_3 : Int) + (1 : Int))))) = AV.d (D.val (.int .i64 (↑(IntKind.i64.wrap ((↑x_3 : Int) + (1 : Int))).toNat : Int))) ∧ True) ∧ (some (Blk.fix (D.arr .u32 8 ((mixL x l x_3).set (↑x_3 : Int).toNat (IntKind.u32.wrap ((mixL x l x_3).getD (↑x_3 : Int).toNat (0 : Int) + [(↑(BitVec.toNat (rd x l x_2).a) : Int), (↑(BitVec.toNat (rd x l x_2).b) : Int), (↑(BitVec.toNat (rd x l x_2).c) : Int), (↑(BitVec.toNat (rd x l x_2).d) : Int), (↑(BitVec.toNat (rd x l x_2).e) : Int), (↑(BitVec.toNat (rd x l x_2).f) : Int), (↑(BitVec.toNat (rd x l x_2).g) : Int), (↑(BitVec.toNat (rd x l x_2).h) : Int)].getD (↑x_3 : Int).toNat (0 : Int)))))) = some (Blk.fix (D.arr .u32 8 (mixL x l (IntKind.i64.wrap ((↑x_3 : Int) + (1 : Int))).toNat))) ∧ sm (some (Blk.fix (D.arr .u8 64 l))) ∧ sm (some (Blk.fix (D.arr .u32 8 [(0 : Int), (0 : Int), (0 : Int), (0 : Int), (0 : Int), (0 : Int), (0 : Int), (0 : Int)]))) ∧ sm (some (Blk.fix (D.arr .u32 64 (wl l x_1 ++ List.replicate (64 - x_1) (0 : Int))))) ∧ sm (some (Blk.fix (D.arr .u32 8 [(↑(BitVec.toNat (rd x l x_2).a) : Int), (↑(BitVec.toNat (rd x l x_2).b) : Int), (↑(BitVec.toNat (rd x l x_2).c) : Int), (↑(BitVec.toNat (rd x l x_2).d) : Int), (↑(BitVec.toNat (rd x l x_2).e) : Int), (↑(BitVec.toNat (rd x l x_2).f) : Int), (↑(BitVec.toNat (rd x l x_2).g) : Int), (↑(BitVec.toNat (rd x l x_2).h) : Int)]))) ∧ True) ∧ true = true) ∧ (IntKind.i64.wrap ((↑x_3 : Int) + (1 : Int))).toNat ≤ 8 ∧ 8 - (IntKind.i64.wrap ((↑x_3 : Int) + (1 : Int))).toNat < 8 - x_3
   | false => (8 ≠ 0 ∧ 8 = 8 ∧ true = true) ∧ (Sk.arr 8 = Sk.arr 8 ∧ 8 ≠ 0 ∧ 8 = 8 ∧ false = false) ∧ ((8 ≠ 0 ∧ 8 = 8 ∧ true = true) ∧ True) ∧ D.arr .u32 8 (mixL x l x_3) = F) := by kernel_rfl
end Go.Proofs.YtkicjckhkefnpaaDoor
namespace Go.Proofs.YtkicjckhkefnpaaDoor
open Go Go.Vg
theorem wsR_get (l : List Int) : ∀ t i, i < t → (wsR l t).getD i 0 = wn l (t - 1 - i)
 | 0, _, h => by omega
 | t + 1, 0, _ => rfl
 | t + 1, i + 1, h => by
  rw [wsR, List.getD_cons_succ, wsR_get l t i (by omega)]
  congr 1
  omega
theorem wn_lo (l : List Int) {t : Nat} (h : t < 16) : wn l t = wat l (4 * t) := by
 unfold wn
 rw [wsR, List.getD_cons_zero, if_pos h]
theorem wn_hi (l : List Int) {t : Nat} (h : 16 ≤ t) : wn l t = ((wn l (t - 16) + sA (wn l (t - 15))) + wn l (t - 7)) + sB (wn l (t - 2)) := by
 have e : wn l t = (wsR l (t + 1)).getD 0 0 := rfl
 rw [e, wsR, List.getD_cons_zero, if_neg (by omega), wsR_get l t 15 (by omega), wsR_get l t 14 (by omega), wsR_get l t 6 (by omega), wsR_get l t 1 (by omega)]
 rw [show t - 1 - 15 = t - 16 by omega, show t - 1 - 14 = t - 15 by omega, show t - 1 - 6 = t - 7 by omega, show t - 1 - 1 = t - 2 by omega]
theorem wl_len (l : List Int) (n : Nat) : (wl l n).length = n := by unfold wl; simp
theorem wl_get (l : List Int) {n j : Nat} (h : j < n) (r : List Int) : (wl l n ++ r).getD j 0 = ((wn l j).toNat : Int) := by
 rw [List.getD_eq_getElem?_getD, List.getElem?_append_left (by rw [wl_len]; exact h)]
 unfold wl
 simp [h]
theorem wl_succ (l : List Int) (n : Nat) : wl l (n + 1) = wl l n ++ [((wn l n).toNat : Int)] := by
 unfold wl
 rw [List.range_succ, List.map_append]
 rfl
theorem wl_set (l : List Int) {n : Nat} (h : n < 64) : (wl l n ++ List.replicate (64 - n) 0).set n ((wn l n).toNat : Int) = wl l (n + 1) ++ List.replicate (64 - (n + 1)) 0 := by
 have e : 64 - n = (64 - (n + 1)) + 1 := by omega
 rw [wl_succ, e, List.replicate_succ, List.set_append_right _ _ (by rw [wl_len]; omega), wl_len, Nat.sub_self, List.set_cons_zero, List.append_assoc]
 rfl
theorem gl_ok : (gl0.all fun n => decide (0 ≤ n) && decide (n < 4294967296)) = true ∧ gl0.length = 64 ∧ gl1 = gl0 := ⟨by decide +kernel, rfl, rfl⟩
theorem kW_eq {t : Nat} (h : t < 64) : gl0.getD t 0 = ((kW t).toNat : Int) := by
 have hl := gl_ok.2.1
 have hm : gl0.getD t 0 ∈ gl0 := by
  rw [List.getD_eq_getElem?_getD, List.getElem?_eq_getElem (by omega)]
  exact List.getElem_mem _
 have := List.all_eq_true.1 gl_ok.1 _ hm
 simp only [Bool.and_eq_true, decide_eq_true_eq] at this
 unfold kW
 generalize gl0.getD t 0 = z at *
 obtain ⟨n, rfl⟩ := Int.eq_ofNat_of_zero_le this.1
 rw [BitVec.ofInt_natCast, ofW _ (by omega)]
theorem shr3 (x : W) : ishr .u32 (x.toNat : Int) 3 = ((x >>> 3).toNat : Int) := shrW x (n := 3) (by decide)
theorem shr10 (x : W) : ishr .u32 (x.toNat : Int) 10 = ((x >>> 10).toNat : Int) := shrW x (n := 10) (by decide)
theorem notW' (x : W) : ixor .u32 IntKind.u32.max (x.toNat : Int) = ((~~~x).toNat : Int) := notW x
theorem mix_gen (x v : R8) {i : Nat} (h : i < 8) : ((add8 x v).l.take i ++ x.l.drop i).set i (IntKind.u32.wrap (((add8 x v).l.take i ++ x.l.drop i).getD i 0 + v.l.getD i 0)) = (add8 x v).l.take (i + 1) ++ x.l.drop (i + 1) := by
 rcases (by omega : i = 0 ∨ i = 1 ∨ i = 2 ∨ i = 3 ∨ i = 4 ∨ i = 5 ∨ i = 6 ∨ i = 7) with rfl | rfl | rfl | rfl | rfl | rfl | rfl | rfl <;>
  simp [R8.l, add8, addW]
theorem mix_step (x : R8) (l : List Int) {i : Nat} (h : i < 8) : (mixL x l i).set i (IntKind.u32.wrap ((mixL x l i).getD i 0 + (rd x l 64).l.getD i 0)) = mixL x l (i + 1) := by
 unfold mixL pr
 exact mix_gen _ _ h
theorem ofR_l (x : R8) : ofR x.l = x := by
 have h : ∀ y : W, BitVec.ofInt 32 (y.toNat : Int) = y := toW_wd
 show R8.mk (BitVec.ofInt 32 (x.a.toNat : Int)) (BitVec.ofInt 32 (x.b.toNat : Int)) (BitVec.ofInt 32 (x.c.toNat : Int)) (BitVec.ofInt 32 (x.d.toNat : Int)) (BitVec.ofInt 32 (x.e.toNat : Int)) (BitVec.ofInt 32 (x.f.toNat : Int)) (BitVec.ofInt 32 (x.g.toNat : Int)) (BitVec.ofInt 32 (x.h.toNat : Int)) = x
 simp only [h]
theorem fA (x : W) : (rr x 7 ^^^ rr x 18) ^^^ x >>> 3 = sA x := rfl
theorem fB (x : W) : (rr x 17 ^^^ rr x 19) ^^^ x >>> 10 = sB x := rfl
theorem fC (x : W) : (rr x 6 ^^^ rr x 11) ^^^ rr x 25 = sC x := rfl
theorem fD (x : W) : (rr x 2 ^^^ rr x 13) ^^^ rr x 22 = sD x := rfl
theorem fch (x y z : W) : (x &&& y) ^^^ (~~~x &&& z) = chW x y z := rfl
theorem fmj (x y z : W) : ((x &&& y) ^^^ (x &&& z)) ^^^ (y &&& z) = mjW x y z := rfl
theorem rd_succ (x : R8) (l : List Int) (t : Nat) : rd x l (t + 1) = rdS (rd x l t) (kW t) (wn l t) := rfl
set_option maxRecDepth 100000 in
theorem m117 : Meets Tryd.prog 117 sp117 := by
 refine meets_of_owed (C := c117) ⟨tab_ok, lkS_ok ⟨m129, m130, trivial⟩⟩ (by kernel_rfl) (by kernel_rfl : Tryd.prog.funcs[117]? = some Tryd.f117) (by kernel_rfl) (by kernel_rfl) (by kernel_rfl) _ ?_
 rintro _ ⟨x, l, rfl, hb, hl⟩
 refine ⟨fun _ => rfl, inv117 x l, ?_⟩
 show owed c117 (inv117 x l) Tryd.f117 [a8 x.l, .arr .u8 64 l] (a8 (prL x.l l))
 unfold prL
 rw [vc117, ofR_l]
 have hw0 : wl l 0 = [] := rfl
 have hm0 : mixL x l 0 = x.l := rfl
 have hr0 : rd x l 0 = x := rfl
 have hxl : [((x.a.toNat : Nat) : Int), ((x.b.toNat : Nat) : Int), ((x.c.toNat : Nat) : Int), ((x.d.toNat : Nat) : Int), ((x.e.toNat : Nat) : Int), ((x.f.toNat : Nat) : Int), ((x.g.toNat : Nat) : Int), ((x.h.toNat : Nat) : Int)] = x.l := rfl
 simp (decide := true) only [eq_self, true_and, and_true, ne_eq, not_false_eq_true, Int.toNat_natCast, hw0, List.nil_append, Int.toNat_zero, hm0, hr0, hxl]
 refine ⟨rfl, fun t ht => ?_⟩
 split
 ·rename_i h
  have h : t < 64 := by have := of_decide_eq_true h; omega
  have ew : IntKind.i64.wrap ((t : Int) + 1) = ((t + 1 : Nat) : Int) := by rw [wi (by omega) (by omega)]; omega
  split
  ·rename_i h2
   have h2 : t < 16 := by have := of_decide_eq_true h2; omega
   have e4 : IntKind.i64.wrap (4 * (t : Int)) = ((4 * t : Nat) : Int) := by rw [wi (by omega) (by omega)]; omega
   rw [e4, ew, Int.toNat_natCast, Int.toNat_natCast]
   simp only [List.drop_zero, Nat.sub_zero, List.take_of_length_le (Nat.le_of_eq hl), ← wn_lo l h2, wl_set l h]
   refine ⟨⟨l, 4 * t, rfl, hb, by omega, by omega⟩, ?_⟩
   and_intros <;> first | exact trivial | rfl | omega
  ·rename_i h2
   have h2 : 16 ≤ t := by have := of_decide_eq_false h2; omega
   have e15 : IntKind.i64.wrap ((t : Int) - 15) = ((t - 15 : Nat) : Int) := by rw [wi (by omega) (by omega)]; omega
   have e16 : IntKind.i64.wrap ((t : Int) - 16) = ((t - 16 : Nat) : Int) := by rw [wi (by omega) (by omega)]; omega
   have e7 : IntKind.i64.wrap ((t : Int) - 7) = ((t - 7 : Nat) : Int) := by rw [wi (by omega) (by omega)]; omega
   have e2 : IntKind.i64.wrap ((t : Int) - 2) = ((t - 2 : Nat) : Int) := by rw [wi (by omega) (by omega)]; omega
   have g15 := wl_get l (n := t) (j := t - 15) (by omega) (List.replicate (64 - t) 0)
   have g16 := wl_get l (n := t) (j := t - 16) (by omega) (List.replicate (64 - t) 0)
   have g7 := wl_get l (n := t) (j := t - 7) (by omega) (List.replicate (64 - t) 0)
   have g2 := wl_get l (n := t) (j := t - 2) (by omega) (List.replicate (64 - t) 0)
   simp only [e15, e16, e7, e2, ew, Int.toNat_natCast, g15, g16, g7, g2, toW_wd, xorW, shr3, shr10, addW, fA, fB, ← wn_hi l h2, wl_set l h]
   and_intros <;> first | exact trivial | rfl | omega | exact ⟨_, 7, rfl, by decide, by decide⟩ | exact ⟨_, 18, rfl, by decide, by decide⟩ | exact ⟨_, 17, rfl, by decide, by decide⟩ | exact ⟨_, 19, rfl, by decide, by decide⟩
 ·rename_i h
  obtain rfl : t = 64 := by have := of_decide_eq_false h; omega
  refine ⟨rfl, fun t ht => ?_⟩
  split
  ·rename_i h
   have h : t < 64 := by have := of_decide_eq_true h; omega
   have ew : IntKind.i64.wrap ((t : Int) + 1) = ((t + 1 : Nat) : Int) := by rw [wi (by omega) (by omega)]; omega
   have gt := wl_get l (n := 64) (j := t) h (List.replicate (64 - 64) 0)
   simp only [ew, Int.toNat_natCast, gt, kW_eq h, toW_wd, xorW, andW, notW', addW, fC, fD, fch, fmj, rd_succ]
   and_intros <;> first | exact trivial | rfl | omega | exact ⟨_, 6, rfl, by decide, by decide⟩ | exact ⟨_, 11, rfl, by decide, by decide⟩ | exact ⟨_, 25, rfl, by decide, by decide⟩ | exact ⟨_, 2, rfl, by decide, by decide⟩ | exact ⟨_, 13, rfl, by decide, by decide⟩ | exact ⟨_, 22, rfl, by decide, by decide⟩
  ·rename_i h
   obtain rfl : t = 64 := by have := of_decide_eq_false h; omega
   refine ⟨rfl, fun t ht => ?_⟩
   split
   ·rename_i h
    have h : t < 8 := by have := of_decide_eq_true h; omega
    have ew : IntKind.i64.wrap ((t : Int) + 1) = ((t + 1 : Nat) : Int) := by rw [wi (by omega) (by omega)]; omega
    have hs := mix_step x l h
    simp only [R8.l] at hs
    simp only [ew, Int.toNat_natCast, hs]
    and_intros <;> first | exact trivial | rfl | omega
   ·rename_i h
    obtain rfl : t = 8 := by have := of_decide_eq_false h; omega
    rfl
end Go.Proofs.YtkicjckhkefnpaaDoor
namespace Go.Proofs.YtkicjckhkefnpaaDoor
open Go Go.Vg
def pw (l : List Int) (i : Nat) : Nat → W
 | 0 => 0
 | k + 1 => pw l i k * 256 + BitVec.ofNat 32 (l.getD (i + k) 0).toNat
def inv128 (x : R8) (l : List Int) : Nat → Option Inv
 | 3 => some ⟨Nat, fun i => [(6, .d (i64 ((4 * i : Nat) : Int))), (5, .row 24), (24, .any)], fun i => [(24, .row 113 (.ints .u32 (wl l i)))], fun s => (slotN s 6).toNat / 4, fun _ i => i ≤ 16, fun i => 16 - i⟩
 | 7 => some ⟨Nat × Nat, fun i => [(29, .d (i64 (i.1 : Int))), (7, .d (wd (pw l i.2 i.1)))], fun _ => [], fun s => ((slotN s 29).toNat, (slotN s 6).toNat), fun s i => i.1 ≤ 4 ∧ (i.2 : Int) = slotN s 6, fun i => 4 - i.1⟩
 | 12 => some ⟨Nat, fun _ => [(5, .row 24)], fun i => [(24, .row 113 (.ints .u32 (wl l i)))], fun s => (rowD s 24).length, fun _ i => 16 ≤ i ∧ i ≤ 64, fun i => 64 - i⟩
 | 18 => some ⟨Nat, fun i => [(119, .d (i64 i)), (12, .d (wd (rd x l i).a)), (13, .d (wd (rd x l i).b)), (14, .d (wd (rd x l i).c)), (15, .d (wd (rd x l i).d)), (16, .d (wd (rd x l i).e)), (17, .d (wd (rd x l i).f)), (18, .d (wd (rd x l i).g)), (19, .d (wd (rd x l i).h))],
   fun _ => [], fun s => (slotN s 119).toNat, fun _ i => i ≤ 64, fun i => 64 - i⟩
 | _ => none
set_option maxRecDepth 100000 in
theorem vc128  (x : R8) (l : List Int) (F : D)  :
    (owed c128 (inv128 x l) Tryd.f128 [.ints .u32 x.l, .str l] F) = (
 True ∧ ((0 : Int) ≤ 0 ∧ (0 : Int) ≤ 64 ∧ (64 : Int) ≤ 281474976710656 ∧ (↑(4 : Nat) : Int) * (64 : Int) ≤ 281474976710656 ∧ 1 = 1) ∧ True ∧ True ∧ (((sm (AV.d (D.ints .u32 [(↑(BitVec.toNat x.a) : Int), (↑(BitVec.toNat x.b) : Int), (↑(BitVec.toNat x.c) : Int), (↑(BitVec.toNat x.d) : Int), (↑(BitVec.toNat x.e) : Int), (↑(BitVec.toNat x.f) : Int), (↑(BitVec.toNat x.g) : Int), (↑(BitVec.toNat x.h) : Int)])) ∧ sm (AV.d (D.str l)) ∧ sm (AV.d (D.val (Value.slice none 0 0))) ∧ sm (AV.row 24) ∧ AV.d (D.val (.int .i64 0)) = AV.d (D.val (.int .i64 (↑(0 : Nat) : Int))) ∧ True) ∧ (some (Blk.row (113 : TypeId) (D.ints .u32 [])) = some (Blk.row (113 : TypeId) (D.ints .u32 (wl l (0 / 4 : Nat)))) ∧ True) ∧ true = true) ∧ (0 / 4 : Nat) ≤ 16) ∧ ∀ (x_1 : Nat), x_1 ≤ 16 → true = true ∧ True ∧ True ∧ match decide ((↑(4 * x_1) : Int) < (64 : Int)) with
 | true => True ∧ True ∧ (((sm (AV.d (D.ints .u32 [(↑(BitVec.toNat x.a) : Int), (↑(BitVec.toNat x.b) : Int), (↑(BitVec.toNat x.c) : Int), (↑(BitVec.toNat x.d) : Int), (↑(BitVec.toNat x.e) : Int), (↑(BitVec.toNat x.f) : Int), (↑(BitVec.toNat x.g) : Int), (↑(BitVec.toNat x.h) : Int)])) ∧ sm (AV.d (D.str l)) ∧ sm (AV.d (D.val (Value.slice none 0 0))) ∧ sm (AV.row 24) ∧ sm (AV.d (D.val (.int .i64 (↑(4 * x_1) : Int)))) ∧ AV.d (D.val (.int .u32 0)) = AV.d (D.val (.int .u32 (↑(BitVec.toNat (pw l (↑(4 * x_1) : Int).toNat 0)) : Int))) ∧ sm (AV.d (D.val (.int .i64 (↑(4 * x_1) : Int)))) ∧ sm (AV.d (D.val (Value.bool (decide ((↑(4 * x_1) : Int) < (64 : Int)))))) ∧ AV.d (D.val (.int .i64 0)) = AV.d (D.val (.int .i64 (↑(0 : Nat) : Int))) ∧ True) ∧ (sm (some (Blk.row (113 : TypeId) (D.ints .u32 (wl l x_1)))) ∧ True) ∧ true = true) ∧ 0 ≤ 4 ∧ (↑(↑(4 * x_1) : Int).toNat : Int) = (↑(4 * x_1) : Int)) ∧ ∀ (x_2 : Nat × Nat), x_2.fst ≤ 4 ∧ (↑x_2.snd : Int) = (↑(4 * x_1) : Int) → true = true ∧ True ∧ match decide ((↑x_2.fst : Int) < (4 : Int)) with
  | true => True ∧ True ∧ True ∧ True ∧ True ∧ True ∧ True ∧ True ∧ ((0 : Int) ≤ IntKind.i64.wrap ((↑(4 * x_1) : Int) + (↑x_2.fst : Int)) ∧ IntKind.i64.wrap ((↑(4 * x_1) : Int) + (↑x_2.fst : Int)) < (↑l.length : Int)) ∧ True ∧ True ∧ True ∧ True ∧ True ∧ ((sm (AV.d (D.ints .u32 [(↑(BitVec.toNat x.a) : Int), (↑(BitVec.toNat x.b) : Int), (↑(BitVec.toNat x.c) : Int), (↑(BitVec.toNat x.d) : Int), (↑(BitVec.toNat x.e) : Int), (↑(BitVec.toNat x.f) : Int), (↑(BitVec.toNat x.g) : Int), (↑(BitVec.toNat x.h) : Int)])) ∧ sm (AV.d (D.str l)) ∧ sm (AV.d (D.val (Value.slice none 0 0))) ∧ sm (AV.row 24) ∧ sm (AV.d (D.val (.int .i64 (↑(4 * x_1) : Int)))) ∧ AV.d (D.val (.int .u32 (IntKind.u32.wrap (IntKind.u32.wrap ((↑(BitVec.toNat (pw l x_2.snd x_2.fst)) : Int) * (256 : Int)) + IntKind.u32.wrap (l.getD (IntKind.i64.wrap ((↑(4 * x_1) : Int) + (↑x_2.fst : Int))).toNat (0 : Int)))))) = AV.d (D.val (.int .u32 (↑(BitVec.toNat (pw l (↑(4 * x_1) : Int).toNat (IntKind.i64.wrap ((↑x_2.fst : Int) + (1 : Int))).toNat)) : Int))) ∧ sm (AV.d (D.val (.int .i64 (↑(4 * x_1) : Int)))) ∧ sm (AV.d (D.val (Value.bool (decide ((↑(4 * x_1) : Int) < (64 : Int)))))) ∧ AV.d (D.val (.int .i64 (IntKind.i64.wrap ((↑x_2.fst : Int) + (1 : Int))))) = AV.d (D.val (.int .i64 (↑(IntKind.i64.wrap ((↑x_2.fst : Int) + (1 : Int))).toNat : Int))) ∧ True) ∧ (sm (some (Blk.row (113 : TypeId) (D.ints .u32 (wl l x_1)))) ∧ True) ∧ true = true) ∧ ((IntKind.i64.wrap ((↑x_2.fst : Int) + (1 : Int))).toNat ≤ 4 ∧ (↑(↑(4 * x_1) : Int).toNat : Int) = (↑(4 * x_1) : Int)) ∧ 4 - (IntKind.i64.wrap ((↑x_2.fst : Int) + (1 : Int))).toNat < 4 - x_2.fst
  | false => True ∧ True ∧ (1 = 1 ∧ 1 ≤ 4096) ∧ ((113 : TypeId) = (113 : TypeId) ∧ 170 = 170 ∧ true = true ∧ (wl l x_1 ++ [(↑(BitVec.toNat (pw l x_2.snd x_2.fst)) : Int)]).length ≤ 140737488355328 ∧ (wl l x_1 ++ [(↑(BitVec.toNat (pw l x_2.snd x_2.fst)) : Int)]).length * 4 ≤ 140737488355328 ∧ 1 ≠ 0 ∧ 1 = 1) ∧ True ∧ True ∧ True ∧ True ∧ ((sm (AV.d (D.ints .u32 [(↑(BitVec.toNat x.a) : Int), (↑(BitVec.toNat x.b) : Int), (↑(BitVec.toNat x.c) : Int), (↑(BitVec.toNat x.d) : Int), (↑(BitVec.toNat x.e) : Int), (↑(BitVec.toNat x.f) : Int), (↑(BitVec.toNat x.g) : Int), (↑(BitVec.toNat x.h) : Int)])) ∧ sm (AV.d (D.str l)) ∧ sm (AV.d (D.val (Value.slice none 0 0))) ∧ sm (AV.row 24) ∧ AV.d (D.val (.int .i64 (IntKind.i64.wrap ((↑(4 * x_1) : Int) + (4 : Int))))) = AV.d (D.val (.int .i64 (↑(4 * ((IntKind.i64.wrap ((↑(4 * x_1) : Int) + (4 : Int))).toNat / 4)) : Int))) ∧ True) ∧ (some (Blk.row (113 : TypeId) (D.ints .u32 (wl l x_1 ++ [(↑(BitVec.toNat (pw l x_2.snd x_2.fst)) : Int)]))) = some (Blk.row (113 : TypeId) (D.ints .u32 (wl l ((IntKind.i64.wrap ((↑(4 * x_1) : Int) + (4 : Int))).toNat / 4)))) ∧ True) ∧ true = true) ∧ (IntKind.i64.wrap ((↑(4 * x_1) : Int) + (4 : Int))).toNat / 4 ≤ 16 ∧ 16 - (IntKind.i64.wrap ((↑(4 * x_1) : Int) + (4 : Int))).toNat / 4 < 16 - x_1
 | false => (((sm (AV.row 24) ∧ True) ∧ (some (Blk.row (113 : TypeId) (D.ints .u32 (wl l x_1))) = some (Blk.row (113 : TypeId) (D.ints .u32 (wl l (wl l x_1).length))) ∧ True) ∧ true = true) ∧ 16 ≤ (wl l x_1).length ∧ (wl l x_1).length ≤ 64) ∧ ∀ (x_2 : Nat), 16 ≤ x_2 ∧ x_2 ≤ 64 → true = true ∧ True ∧ True ∧ True ∧ match decide ((↑(wl l x_2).length : Int) < (64 : Int)) with
  | true => True ∧ True ∧ True ∧ True ∧ True ∧ True ∧ ((0 : Int) ≤ IntKind.i64.wrap ((↑(wl l x_2).length : Int) - (15 : Int)) ∧ IntKind.i64.wrap ((↑(wl l x_2).length : Int) - (15 : Int)) < (↑(wl l x_2).length : Int) ∧ 1 = 1) ∧ ((IntKind.i64.wrap ((↑(wl l x_2).length : Int) - (15 : Int))).toNat < (wl l x_2).length ∧ 1 = 1 ∧ false = false) ∧ True ∧ True ∧ True ∧ ((0 : Int) ≤ IntKind.i64.wrap ((↑(wl l x_2).length : Int) - (2 : Int)) ∧ IntKind.i64.wrap ((↑(wl l x_2).length : Int) - (2 : Int)) < (↑(wl l x_2).length : Int) ∧ 1 = 1) ∧ ((IntKind.i64.wrap ((↑(wl l x_2).length : Int) - (2 : Int))).toNat < (wl l x_2).length ∧ 1 = 1 ∧ false = false) ∧ True ∧ True ∧ True ∧ True ∧ True ∧ True ∧ ((0 : Int) ≤ IntKind.i64.wrap ((↑(wl l x_2).length : Int) - (16 : Int)) ∧ IntKind.i64.wrap ((↑(wl l x_2).length : Int) - (16 : Int)) < (↑(wl l x_2).length : Int) ∧ 1 = 1) ∧ ((IntKind.i64.wrap ((↑(wl l x_2).length : Int) - (16 : Int))).toNat < (wl l x_2).length ∧ 1 = 1 ∧ false = false) ∧ True ∧ True ∧ True ∧ ((0 : Int) ≤ IntKind.i64.wrap ((↑(wl l x_2).length : Int) - (7 : Int)) ∧ IntKind.i64.wrap ((↑(wl l x_2).length : Int) - (7 : Int)) < (↑(wl l x_2).length : Int) ∧ 1 = 1) ∧ ((IntKind.i64.wrap ((↑(wl l x_2).length : Int) - (7 : Int))).toNat < (wl l x_2).length ∧ 1 = 1 ∧ false = false) ∧ True ∧ True ∧ (∃ (x : W), ∃ (n : Nat), [D.val (.int .u32 ((wl l x_2).getD (IntKind.i64.wrap ((↑(wl l x_2).length : Int) - (15 : Int))).toNat (0 : Int))), D.val (.int .u64 7)] = [D.val (.int .u32 (↑(BitVec.toNat x) : Int)), D.val (.int .u64 (↑n : Int))] ∧ 1 ≤ n ∧ n ≤ 31) ∧ True ∧ (∃ (x : W), ∃ (n : Nat), [D.val (.int .u32 ((wl l x_2).getD (IntKind.i64.wrap ((↑(wl l x_2).length : Int) - (15 : Int))).toNat (0 : Int))), D.val (.int .u64 18)] = [D.val (.int .u32 (↑(BitVec.toNat x) : Int)), D.val (.int .u64 (↑n : Int))] ∧ 1 ≤ n ∧ n ≤ 31) ∧ True ∧ True ∧ (8 : Int) ≠ 0 ∧ True ∧ True ∧ True ∧ (∃ (x : W), ∃ (n : Nat), [D.val (.int .u32 ((wl l x_2).getD (IntKind.i64.wrap ((↑(wl l x_2).length : Int) - (2 : Int))).toNat (0 : Int))), D.val (.int .u64 17)] = [D.val (.int .u32 (↑(BitVec.toNat x) : Int)), D.val (.int .u64 (↑n : Int))] ∧ 1 ≤ n ∧ n ≤ 31) ∧ True ∧ (∃ (x : W), ∃ (n : Nat), [D.val (.int .u32 ((wl l x_2).getD (IntKind.i64.wrap ((↑(wl l x_2).length : Int) - (2 : Int))).toNat (0 : Int))), D.val (.int .u64 19)] = [D.val (.int .u32 (↑(BitVec.toNat x) : Int)), D.val (.int .u64 (↑n : Int))] ∧ 1 ≤ n ∧ n ≤ 31) ∧ True ∧ True ∧ (1024 : Int) ≠ 0 ∧ True ∧ True ∧ (1 = 1 ∧ 1 ≤ 4096) ∧ ((113 : TypeId) = (113 : TypeId) ∧ 170 = 170 ∧ true = true ∧ (wl l x_2 ++ [IntKind.u32.wrap (IntKind.u32.wrap (IntKind.u32.wrap ((wl l x_2).getD (IntKind.i64.wrap ((↑(wl l x_2).length : Int) - (16 : Int))).toNat (0 : Int) + (wl l x_2).getD (IntKind.i64.wrap ((↑(wl l x_2).length : Int) - (7 : Int))).toNat (0 : Int)) + ixor IntKind.u32 (ixor IntKind.u32 (↑(BitVec.toNat (rr (toW (D.val (.int .u32 ((wl l x_2).getD (IntKind.i64.wrap ((↑(wl l x_2).length : Int) - (15 : Int))).toNat (0 : Int))))) 7)) : Int) (↑(BitVec.toNat (rr (toW (D.val (.int .u32 ((wl l x_2).getD (IntKind.i64.wrap ((↑(wl l x_2).length : Int) - (15 : Int))).toNat (0 : Int))))) 18)) : Int))
   (IntKind.u32.wrap (((wl l x_2).getD (IntKind.i64.wrap ((↑(wl l x_2).length : Int) - (15 : Int))).toNat (0 : Int)).tdiv (8 : Int)))) + ixor IntKind.u32 (ixor IntKind.u32 (↑(BitVec.toNat (rr (toW (D.val (.int .u32 ((wl l x_2).getD (IntKind.i64.wrap ((↑(wl l x_2).length : Int) - (2 : Int))).toNat (0 : Int))))) 17)) : Int) (↑(BitVec.toNat (rr (toW (D.val (.int .u32 ((wl l x_2).getD (IntKind.i64.wrap ((↑(wl l x_2).length : Int) - (2 : Int))).toNat (0 : Int))))) 19)) : Int)) (IntKind.u32.wrap (((wl l x_2).getD (IntKind.i64.wrap ((↑(wl l x_2).length : Int) - (2 : Int))).toNat (0 : Int)).tdiv (1024 : Int))))]).length ≤ 140737488355328 ∧ (wl l x_2 ++ [IntKind.u32.wrap (IntKind.u32.wrap (IntKind.u32.wrap ((wl l x_2).getD (IntKind.i64.wrap ((↑(wl l x_2).length : Int) - (16 : Int))).toNat (0 : Int) + (wl l x_2).getD (IntKind.i64.wrap ((↑(wl l x_2).length : Int) - (7 : Int))).toNat (0 : Int)) + ixor IntKind.u32 (ixor IntKind.u32 (↑(BitVec.toNat (rr (toW (D.val (.int .u32 ((wl l x_2).getD (IntKind.i64.wrap ((↑(wl l x_2).length : Int) - (15 : Int))).toNat (0 : Int))))) 7)) : Int) (↑(BitVec.toNat (rr (toW (D.val (.int .u32 ((wl l x_2).getD (IntKind.i64.wrap ((↑(wl l x_2).length : Int) - (15 : Int))).toNat (0 : Int))))) 18)) : Int)) (IntKind.u32.wrap (((wl l x_2).getD (IntKind.i64.wrap ((↑(wl l x_2).length : Int) - (15 : Int))).toNat (0 : Int)).tdiv (8 : Int)))) + ixor IntKind.u32 (ixor IntKind.u32 (↑(BitVec.toNat (rr (toW (D.val (.int .u32 ((wl l x_2).getD (IntKind.i64.wrap ((↑(wl l x_2).length : Int) - (2 : Int))).toNat (0 : Int))))) 17)) : Int) (↑(BitVec.toNat (rr (toW (D.val (.int .u32 ((wl l x_2).getD (IntKind.i64.wrap ((↑(wl l x_2).length : Int) - (2 : Int))).toNat (0 : Int))))) 19)) : Int)) (IntKind.u32.wrap (((wl l x_2).getD (IntKind.i64.wrap ((↑(wl l x_2).length : Int) - (2 : Int))).toNat (0 : Int)).tdiv (1024 : Int))))]).length * 4 ≤ 140737488355328 ∧ 1 ≠ 0 ∧ 1 = 1) ∧ True ∧ ((sm (AV.row 24) ∧ True) ∧ (some (Blk.row (113 : TypeId) (D.ints .u32 (wl l x_2 ++ [IntKind.u32.wrap (IntKind.u32.wrap (IntKind.u32.wrap ((wl l x_2).getD (IntKind.i64.wrap ((↑(wl l x_2).length : Int) - (16 : Int))).toNat (0 : Int) + (wl l x_2).getD (IntKind.i64.wrap ((↑(wl l x_2).length : Int) - (7 : Int))).toNat (0 : Int)) + ixor IntKind.u32 (ixor IntKind.u32 (↑(BitVec.toNat (rr (toW (D.val (.int .u32 ((wl l x_2).getD (IntKind.i64.wrap ((↑(wl l x_2).length : Int) - (15 : Int))).toNat (0 : Int))))) 7)) : Int) (↑(BitVec.toNat (rr (toW (D.val (.int .u32 ((wl l x_2).getD (IntKind.i64.wrap ((↑(wl l x_2).length : Int) - (15 : Int))).toNat (0 : Int))))) 18)) : Int)) (IntKind.u32.wrap (((wl l x_2).getD (IntKind.i64.wrap ((↑(wl l x_2).length : Int) - (15 : Int))).toNat (0 : Int)).tdiv (8 : Int)))) + ixor IntKind.u32 (ixor IntKind.u32 (↑(BitVec.toNat (rr (toW (D.val (.int .u32 ((wl l x_2).getD (IntKind.i64.wrap ((↑(wl l x_2).length : Int) - (2 : Int))).toNat (0 : Int))))) 17)) : Int) (↑(BitVec.toNat (rr (toW (D.val (.int .u32 ((wl l x_2).getD (IntKind.i64.wrap ((↑(wl l x_2).length : Int) - (2 : Int))).toNat (0 : Int))))) 19)) : Int))
   (IntKind.u32.wrap (((wl l x_2).getD (IntKind.i64.wrap ((↑(wl l x_2).length : Int) - (2 : Int))).toNat (0 : Int)).tdiv (1024 : Int))))]))) = some (Blk.row (113 : TypeId) (D.ints .u32 (wl l (wl l x_2 ++ [IntKind.u32.wrap (IntKind.u32.wrap (IntKind.u32.wrap ((wl l x_2).getD (IntKind.i64.wrap ((↑(wl l x_2).length : Int) - (16 : Int))).toNat (0 : Int) + (wl l x_2).getD (IntKind.i64.wrap ((↑(wl l x_2).length : Int) - (7 : Int))).toNat (0 : Int)) + ixor IntKind.u32 (ixor IntKind.u32 (↑(BitVec.toNat (rr (toW (D.val (.int .u32 ((wl l x_2).getD (IntKind.i64.wrap ((↑(wl l x_2).length : Int) - (15 : Int))).toNat (0 : Int))))) 7)) : Int) (↑(BitVec.toNat (rr (toW (D.val (.int .u32 ((wl l x_2).getD (IntKind.i64.wrap ((↑(wl l x_2).length : Int) - (15 : Int))).toNat (0 : Int))))) 18)) : Int)) (IntKind.u32.wrap (((wl l x_2).getD (IntKind.i64.wrap ((↑(wl l x_2).length : Int) - (15 : Int))).toNat (0 : Int)).tdiv (8 : Int)))) + ixor IntKind.u32 (ixor IntKind.u32 (↑(BitVec.toNat (rr (toW (D.val (.int .u32 ((wl l x_2).getD (IntKind.i64.wrap ((↑(wl l x_2).length : Int) - (2 : Int))).toNat (0 : Int))))) 17)) : Int) (↑(BitVec.toNat (rr (toW (D.val (.int .u32 ((wl l x_2).getD (IntKind.i64.wrap ((↑(wl l x_2).length : Int) - (2 : Int))).toNat (0 : Int))))) 19)) : Int)) (IntKind.u32.wrap (((wl l x_2).getD (IntKind.i64.wrap ((↑(wl l x_2).length : Int) - (2 : Int))).toNat (0 : Int)).tdiv (1024 : Int))))]).length))) ∧ True) ∧ true = true) ∧ (16 ≤ (wl l x_2 ++ [IntKind.u32.wrap (IntKind.u32.wrap (IntKind.u32.wrap ((wl l x_2).getD (IntKind.i64.wrap ((↑(wl l x_2).length : Int) - (16 : Int))).toNat (0 : Int) + (wl l x_2).getD (IntKind.i64.wrap ((↑(wl l x_2).length : Int) - (7 : Int))).toNat (0 : Int)) + ixor IntKind.u32 (ixor IntKind.u32 (↑(BitVec.toNat (rr (toW (D.val (.int .u32 ((wl l x_2).getD (IntKind.i64.wrap ((↑(wl l x_2).length : Int) - (15 : Int))).toNat (0 : Int))))) 7)) : Int) (↑(BitVec.toNat (rr (toW (D.val (.int .u32 ((wl l x_2).getD (IntKind.i64.wrap ((↑(wl l x_2).length : Int) - (15 : Int))).toNat (0 : Int))))) 18)) : Int)) (IntKind.u32.wrap (((wl l x_2).getD (IntKind.i64.wrap ((↑(wl l x_2).length : Int) - (15 : Int))).toNat (0 : Int)).tdiv (8 : Int)))) + ixor IntKind.u32 (ixor IntKind.u32 (↑(BitVec.toNat (rr (toW (D.val (.int .u32 ((wl l x_2).getD (IntKind.i64.wrap ((↑(wl l x_2).length : Int) - (2 : Int))).toNat (0 : Int))))) 17)) : Int) (↑(BitVec.toNat (rr (toW (D.val (.int .u32 ((wl l x_2).getD (IntKind.i64.wrap ((↑(wl l x_2).length : Int) - (2 : Int))).toNat (0 : Int))))) 19)) : Int)) (IntKind.u32.wrap (((wl l x_2).getD (IntKind.i64.wrap ((↑(wl l x_2).length : Int) - (2 : Int))).toNat (0 : Int)).tdiv (1024 : Int))))]).length ∧ (wl l x_2 ++ [IntKind.u32.wrap (IntKind.u32.wrap (IntKind.u32.wrap ((wl l x_2).getD (IntKind.i64.wrap ((↑(wl l x_2).length : Int) - (16 : Int))).toNat (0 : Int) + (wl l x_2).getD (IntKind.i64.wrap ((↑(wl l x_2).length : Int) - (7 : Int))).toNat (0 : Int)) + ixor IntKind.u32 (ixor IntKind.u32 (↑(BitVec.toNat (rr (toW (D.val (.int .u32 ((wl l x_2).getD (IntKind.i64.wrap ((↑(wl l x_2).length : Int) - (15 : Int))).toNat (0 : Int))))) 7)) : Int)
   (↑(BitVec.toNat (rr (toW (D.val (.int .u32 ((wl l x_2).getD (IntKind.i64.wrap ((↑(wl l x_2).length : Int) - (15 : Int))).toNat (0 : Int))))) 18)) : Int)) (IntKind.u32.wrap (((wl l x_2).getD (IntKind.i64.wrap ((↑(wl l x_2).length : Int) - (15 : Int))).toNat (0 : Int)).tdiv (8 : Int)))) + ixor IntKind.u32 (ixor IntKind.u32 (↑(BitVec.toNat (rr (toW (D.val (.int .u32 ((wl l x_2).getD (IntKind.i64.wrap ((↑(wl l x_2).length : Int) - (2 : Int))).toNat (0 : Int))))) 17)) : Int) (↑(BitVec.toNat (rr (toW (D.val (.int .u32 ((wl l x_2).getD (IntKind.i64.wrap ((↑(wl l x_2).length : Int) - (2 : Int))).toNat (0 : Int))))) 19)) : Int)) (IntKind.u32.wrap (((wl l x_2).getD (IntKind.i64.wrap ((↑(wl l x_2).length : Int) - (2 : Int))).toNat (0 : Int)).tdiv (1024 : Int))))]).length ≤ 64) ∧ 64 - (wl l x_2 ++ [IntKind.u32.wrap (IntKind.u32.wrap (IntKind.u32.wrap ((wl l x_2).getD (IntKind.i64.wrap ((↑(wl l x_2).length : Int) - (16 : Int))).toNat (0 : Int) + (wl l x_2).getD (IntKind.i64.wrap ((↑(wl l x_2).length : Int) - (7 : Int))).toNat (0 : Int)) + ixor IntKind.u32 (ixor IntKind.u32 (↑(BitVec.toNat (rr (toW (D.val (.int .u32 ((wl l x_2).getD (IntKind.i64.wrap ((↑(wl l x_2).length : Int) - (15 : Int))).toNat (0 : Int))))) 7)) : Int) (↑(BitVec.toNat (rr (toW (D.val (.int .u32 ((wl l x_2).getD (IntKind.i64.wrap ((↑(wl l x_2).length : Int) - (15 : Int))).toNat (0 : Int))))) 18)) : Int)) (IntKind.u32.wrap (((wl l x_2).getD (IntKind.i64.wrap ((↑(wl l x_2).length : Int) - (15 : Int))).toNat (0 : Int)).tdiv (8 : Int)))) + ixor IntKind.u32 (ixor IntKind.u32 (↑(BitVec.toNat (rr (toW (D.val (.int .u32 ((wl l x_2).getD (IntKind.i64.wrap ((↑(wl l x_2).length : Int) - (2 : Int))).toNat (0 : Int))))) 17)) : Int) (↑(BitVec.toNat (rr (toW (D.val (.int .u32 ((wl l x_2).getD (IntKind.i64.wrap ((↑(wl l x_2).length : Int) - (2 : Int))).toNat (0 : Int))))) 19)) : Int)) (IntKind.u32.wrap (((wl l x_2).getD (IntKind.i64.wrap ((↑(wl l x_2).length : Int) - (2 : Int))).toNat (0 : Int)).tdiv (1024 : Int))))]).length < 64 - x_2
  | false => True ∧ ((0 : Int) ≤ 0 ∧ (0 : Int) < (↑(8 : Nat) : Int) ∧ 1 = 1) ∧ (1 ≠ 0 ∧ 1 = 1 ∧ false = false) ∧ True ∧ ((0 : Int) ≤ 1 ∧ (1 : Int) < (↑(8 : Nat) : Int) ∧ 1 = 1) ∧ (1 ≠ 0 ∧ 1 = 1 ∧ false = false) ∧ True ∧ ((0 : Int) ≤ 2 ∧ (2 : Int) < (↑(8 : Nat) : Int) ∧ 1 = 1) ∧ (1 ≠ 0 ∧ 1 = 1 ∧ false = false) ∧ True ∧ ((0 : Int) ≤ 3 ∧ (3 : Int) < (↑(8 : Nat) : Int) ∧ 1 = 1) ∧ (1 ≠ 0 ∧ 1 = 1 ∧ false = false) ∧ True ∧ ((0 : Int) ≤ 4 ∧ (4 : Int) < (↑(8 : Nat) : Int) ∧ 1 = 1) ∧ (1 ≠ 0 ∧ 1 = 1 ∧ false = false) ∧ True ∧ ((0 : Int) ≤ 5 ∧ (5 : Int) < (↑(8 : Nat) : Int) ∧ 1 = 1) ∧ (1 ≠ 0 ∧ 1 = 1 ∧ false = false) ∧ True ∧ ((0 : Int) ≤ 6 ∧ (6 : Int) < (↑(8 : Nat) : Int) ∧ 1 = 1) ∧ (1 ≠ 0 ∧ 1 = 1 ∧ false = false) ∧ True ∧ ((0 : Int) ≤ 7 ∧ (7 : Int) < (↑(8 : Nat) : Int) ∧ 1 = 1) ∧ (1 ≠ 0 ∧ 1 = 1 ∧ false = false) ∧ True ∧ True ∧ True ∧ True ∧ True ∧ True ∧ True ∧ True ∧ True ∧ True ∧ True ∧ (((sm (AV.d (D.ints .u32 [(↑(BitVec.toNat x.a) : Int), (↑(BitVec.toNat x.b) : Int), (↑(BitVec.toNat x.c) : Int), (↑(BitVec.toNat x.d) : Int), (↑(BitVec.toNat x.e) : Int), (↑(BitVec.toNat x.f) : Int), (↑(BitVec.toNat x.g) : Int), (↑(BitVec.toNat x.h) : Int)])) ∧ sm (AV.d (D.str l)) ∧ sm (AV.d (D.val (Value.slice none 0 0))) ∧ sm (AV.row 24) ∧ sm (AV.d (D.val (.int .i64 (↑(4 * x_1) : Int)))) ∧ AV.d (D.val (.int .u32 (↑(BitVec.toNat x.a) : Int))) = AV.d (D.val (.int .u32 (↑(BitVec.toNat (rd x l (Int.toNat (0 : Int))).a) : Int))) ∧ AV.d (D.val (.int .u32 (↑(BitVec.toNat x.b) : Int))) = AV.d (D.val (.int .u32 (↑(BitVec.toNat (rd x l (Int.toNat (0 : Int))).b) : Int))) ∧ AV.d (D.val (.int .u32 (↑(BitVec.toNat x.c) : Int))) = AV.d (D.val (.int .u32 (↑(BitVec.toNat (rd x l (Int.toNat (0 : Int))).c) : Int))) ∧ AV.d (D.val (.int .u32 (↑(BitVec.toNat x.d) : Int))) = AV.d (D.val (.int .u32 (↑(BitVec.toNat (rd x l (Int.toNat (0 : Int))).d) : Int))) ∧ AV.d (D.val (.int .u32 (↑(BitVec.toNat x.e) : Int))) = AV.d (D.val (.int .u32 (↑(BitVec.toNat (rd x l (Int.toNat (0 : Int))).e) : Int))) ∧ AV.d (D.val (.int .u32 (↑(BitVec.toNat x.f) : Int))) = AV.d (D.val (.int .u32 (↑(BitVec.toNat (rd x l (Int.toNat (0 : Int))).f) : Int))) ∧ AV.d (D.val (.int .u32 (↑(BitVec.toNat x.g) : Int))) = AV.d (D.val (.int .u32 (↑(BitVec.toNat (rd x l (Int.toNat (0 : Int))).g) : Int))) ∧ AV.d (D.val (.int .u32 (↑(BitVec.toNat x.h) : Int))) = AV.d (D.val (.int .u32 (↑(BitVec.toNat (rd x l (Int.toNat (0 : Int))).h) : Int))) ∧ sm (AV.d (D.val (.int .i64 (↑(4 * x_1) : Int)))) ∧ sm (AV.d (D.val (Value.bool (decide ((↑(4 * x_1) : Int) < (64 : Int)))))) ∧ sm (AV.row 24) ∧ sm (AV.d (D.val (.int .i64 (↑(wl l x_2).length : Int)))) ∧ sm (AV.d (D.val (Value.bool (decide ((↑(wl l x_2).length : Int) < (64 : Int)))))) ∧ sm (AV.d (D.ints .u32 [(↑(BitVec.toNat x.a) : Int), (↑(BitVec.toNat x.b) : Int), (↑(BitVec.toNat x.c) : Int), (↑(BitVec.toNat x.d) : Int), (↑(BitVec.toNat x.e) : Int), (↑(BitVec.toNat x.f) : Int), (↑(BitVec.toNat x.g) : Int), (↑(BitVec.toNat x.h) : Int)])) ∧ sm (AV.dat (D.val (.int .u32 (↑(BitVec.toNat x.a) : Int)))) ∧
   sm (AV.d (D.val (.int .u32 (↑(BitVec.toNat x.a) : Int)))) ∧ sm (AV.d (D.ints .u32 [(↑(BitVec.toNat x.a) : Int), (↑(BitVec.toNat x.b) : Int), (↑(BitVec.toNat x.c) : Int), (↑(BitVec.toNat x.d) : Int), (↑(BitVec.toNat x.e) : Int), (↑(BitVec.toNat x.f) : Int), (↑(BitVec.toNat x.g) : Int), (↑(BitVec.toNat x.h) : Int)])) ∧ sm (AV.dat (D.val (.int .u32 (↑(BitVec.toNat x.b) : Int)))) ∧ sm (AV.d (D.val (.int .u32 (↑(BitVec.toNat x.b) : Int)))) ∧ sm (AV.d (D.ints .u32 [(↑(BitVec.toNat x.a) : Int), (↑(BitVec.toNat x.b) : Int), (↑(BitVec.toNat x.c) : Int), (↑(BitVec.toNat x.d) : Int), (↑(BitVec.toNat x.e) : Int), (↑(BitVec.toNat x.f) : Int), (↑(BitVec.toNat x.g) : Int), (↑(BitVec.toNat x.h) : Int)])) ∧ sm (AV.dat (D.val (.int .u32 (↑(BitVec.toNat x.c) : Int)))) ∧ sm (AV.d (D.val (.int .u32 (↑(BitVec.toNat x.c) : Int)))) ∧ sm (AV.d (D.ints .u32 [(↑(BitVec.toNat x.a) : Int), (↑(BitVec.toNat x.b) : Int), (↑(BitVec.toNat x.c) : Int), (↑(BitVec.toNat x.d) : Int), (↑(BitVec.toNat x.e) : Int), (↑(BitVec.toNat x.f) : Int), (↑(BitVec.toNat x.g) : Int), (↑(BitVec.toNat x.h) : Int)])) ∧ sm (AV.dat (D.val (.int .u32 (↑(BitVec.toNat x.d) : Int)))) ∧ sm (AV.d (D.val (.int .u32 (↑(BitVec.toNat x.d) : Int)))) ∧ sm (AV.d (D.ints .u32 [(↑(BitVec.toNat x.a) : Int), (↑(BitVec.toNat x.b) : Int), (↑(BitVec.toNat x.c) : Int), (↑(BitVec.toNat x.d) : Int), (↑(BitVec.toNat x.e) : Int), (↑(BitVec.toNat x.f) : Int), (↑(BitVec.toNat x.g) : Int), (↑(BitVec.toNat x.h) : Int)])) ∧ sm (AV.dat (D.val (.int .u32 (↑(BitVec.toNat x.e) : Int)))) ∧ sm (AV.d (D.val (.int .u32 (↑(BitVec.toNat x.e) : Int)))) ∧ sm (AV.d (D.ints .u32 [(↑(BitVec.toNat x.a) : Int), (↑(BitVec.toNat x.b) : Int), (↑(BitVec.toNat x.c) : Int), (↑(BitVec.toNat x.d) : Int), (↑(BitVec.toNat x.e) : Int), (↑(BitVec.toNat x.f) : Int), (↑(BitVec.toNat x.g) : Int), (↑(BitVec.toNat x.h) : Int)])) ∧ sm (AV.dat (D.val (.int .u32 (↑(BitVec.toNat x.f) : Int)))) ∧ sm (AV.d (D.val (.int .u32 (↑(BitVec.toNat x.f) : Int)))) ∧ sm (AV.d (D.ints .u32 [(↑(BitVec.toNat x.a) : Int), (↑(BitVec.toNat x.b) : Int), (↑(BitVec.toNat x.c) : Int), (↑(BitVec.toNat x.d) : Int), (↑(BitVec.toNat x.e) : Int), (↑(BitVec.toNat x.f) : Int), (↑(BitVec.toNat x.g) : Int), (↑(BitVec.toNat x.h) : Int)])) ∧ sm (AV.dat (D.val (.int .u32 (↑(BitVec.toNat x.g) : Int)))) ∧ sm (AV.d (D.val (.int .u32 (↑(BitVec.toNat x.g) : Int)))) ∧ sm (AV.d (D.ints .u32 [(↑(BitVec.toNat x.a) : Int), (↑(BitVec.toNat x.b) : Int), (↑(BitVec.toNat x.c) : Int), (↑(BitVec.toNat x.d) : Int), (↑(BitVec.toNat x.e) : Int), (↑(BitVec.toNat x.f) : Int), (↑(BitVec.toNat x.g) : Int), (↑(BitVec.toNat x.h) : Int)])) ∧ sm (AV.dat (D.val (.int .u32 (↑(BitVec.toNat x.h) : Int)))) ∧ sm (AV.d (D.val (.int .u32 (↑(BitVec.toNat x.h) : Int)))) ∧ sm (AV.row 24) ∧ sm (AV.d (D.val (.int .i64 (↑(wl l x_2).length : Int)))) ∧ AV.d (D.val (.int .i64 0)) = AV.d (D.val (.int .i64 (↑(Int.toNat (0 : Int)) : Int))) ∧ True) ∧ (sm (some (Blk.row (113 : TypeId) (D.ints .u32 (wl l x_2)))) ∧ True) ∧ true = true) ∧ Int.toNat (0 : Int) ≤ 64) ∧
   ∀ (x_3 : Nat), x_3 ≤ 64 → true = true ∧ True ∧ match decide ((↑x_3 : Int) < (↑(wl l x_2).length : Int)) with
   | true => True ∧ ((0 : Int) ≤ (↑x_3 : Int) ∧ (↑x_3 : Int) < (↑(wl l x_2).length : Int) ∧ 1 = 1) ∧ ((↑x_3 : Int).toNat < (wl l x_2).length ∧ 1 = 1 ∧ false = false) ∧ True ∧ True ∧ True ∧ True ∧ (∃ (x_4 : W), ∃ (n : Nat), [D.val (.int .u32 (↑(BitVec.toNat (rd x l x_3).e) : Int)), D.val (.int .u64 6)] = [D.val (.int .u32 (↑(BitVec.toNat x_4) : Int)), D.val (.int .u64 (↑n : Int))] ∧ 1 ≤ n ∧ n ≤ 31) ∧ True ∧ (∃ (x_4 : W), ∃ (n : Nat), [D.val (.int .u32 (↑(BitVec.toNat (rd x l x_3).e) : Int)), D.val (.int .u64 11)] = [D.val (.int .u32 (↑(BitVec.toNat x_4) : Int)), D.val (.int .u64 (↑n : Int))] ∧ 1 ≤ n ∧ n ≤ 31) ∧ True ∧ True ∧ (∃ (x_4 : W), ∃ (n : Nat), [D.val (.int .u32 (↑(BitVec.toNat (rd x l x_3).e) : Int)), D.val (.int .u64 25)] = [D.val (.int .u32 (↑(BitVec.toNat x_4) : Int)), D.val (.int .u64 (↑n : Int))] ∧ 1 ≤ n ∧ n ≤ 31) ∧ True ∧ True ∧ True ∧ True ∧ True ∧ (∃ (x_4 : W), ∃ (y : W), ∃ (z : W), [D.val (.int .u32 (↑(BitVec.toNat (rd x l x_3).e) : Int)), D.val (.int .u32 (↑(BitVec.toNat (rd x l x_3).f) : Int)), D.val (.int .u32 (↑(BitVec.toNat (rd x l x_3).g) : Int))] = [D.val (.int .u32 (↑(BitVec.toNat x_4) : Int)), D.val (.int .u32 (↑(BitVec.toNat y) : Int)), D.val (.int .u32 (↑(BitVec.toNat z) : Int))]) ∧ True ∧ True ∧ ((0 : Int) ≤ (↑x_3 : Int) ∧ (↑x_3 : Int) < (↑(64 : Nat) : Int) ∧ 64 = 64 ∧ 1 = 1) ∧ (1 ≠ 0 ∧ 1 = 1 ∧ false = false) ∧ True ∧ True ∧ True ∧ True ∧ True ∧ (∃ (x_4 : W), ∃ (n : Nat), [D.val (.int .u32 (↑(BitVec.toNat (rd x l x_3).a) : Int)), D.val (.int .u64 2)] = [D.val (.int .u32 (↑(BitVec.toNat x_4) : Int)), D.val (.int .u64 (↑n : Int))] ∧ 1 ≤ n ∧ n ≤ 31) ∧ True ∧ (∃ (x_4 : W), ∃ (n : Nat), [D.val (.int .u32 (↑(BitVec.toNat (rd x l x_3).a) : Int)), D.val (.int .u64 13)] = [D.val (.int .u32 (↑(BitVec.toNat x_4) : Int)), D.val (.int .u64 (↑n : Int))] ∧ 1 ≤ n ∧ n ≤ 31) ∧ True ∧ True ∧ (∃ (x_4 : W), ∃ (n : Nat), [D.val (.int .u32 (↑(BitVec.toNat (rd x l x_3).a) : Int)), D.val (.int .u64 22)] = [D.val (.int .u32 (↑(BitVec.toNat x_4) : Int)), D.val (.int .u64 (↑n : Int))] ∧ 1 ≤ n ∧ n ≤ 31) ∧ True ∧ True ∧ True ∧ True ∧ (∃ (x_4 : W), ∃ (y : W), ∃ (z : W), [D.val (.int .u32 (↑(BitVec.toNat (rd x l x_3).a) : Int)), D.val (.int .u32 (↑(BitVec.toNat (rd x l x_3).b) : Int)), D.val (.int .u32 (↑(BitVec.toNat (rd x l x_3).c) : Int))] = [D.val (.int .u32 (↑(BitVec.toNat x_4) : Int)), D.val (.int .u32 (↑(BitVec.toNat y) : Int)), D.val (.int .u32 (↑(BitVec.toNat z) : Int))]) ∧ True ∧ True ∧ True ∧ True ∧ True ∧ True ∧ True ∧ True ∧ True ∧ True ∧ True ∧ True ∧ True ∧ True ∧ True ∧ True ∧ True ∧ True ∧ True ∧ True ∧ True ∧ True ∧ True ∧ True ∧ ((sm (AV.d (D.ints .u32 [(↑(BitVec.toNat x.a) : Int), (↑(BitVec.toNat x.b) : Int), (↑(BitVec.toNat x.c) : Int), (↑(BitVec.toNat x.d) : Int), (↑(BitVec.toNat x.e) : Int), (↑(BitVec.toNat x.f) : Int), (↑(BitVec.toNat x.g) : Int), (↑(BitVec.toNat x.h) : Int)])) ∧ sm (AV.d (D.str l)) ∧ sm (AV.d (D.val (Value.slice none 0 0))) ∧ sm (AV.row 24) ∧ sm (AV.d (D.val (.int .i64 (↑(4 * x_1) : Int)))) ∧ AV.d (D.val (Value.int IntKind.u32
    (IntKind.u32.wrap (IntKind.u32.wrap (IntKind.u32.wrap (IntKind.u32.wrap (IntKind.u32.wrap ((↑(BitVec.toNat (rd x l x_3).h) : Int) + ixor IntKind.u32 (ixor IntKind.u32 (↑(BitVec.toNat (rr (toW (D.val (.int .u32 (↑(BitVec.toNat (rd x l x_3).e) : Int)))) 6)) : Int) (↑(BitVec.toNat (rr (toW (D.val (.int .u32 (↑(BitVec.toNat (rd x l x_3).e) : Int)))) 11)) : Int)) (↑(BitVec.toNat (rr (toW (D.val (.int .u32 (↑(BitVec.toNat (rd x l x_3).e) : Int)))) 25)) : Int)) + (↑(BitVec.toNat (chW (toW (D.val (.int .u32 (↑(BitVec.toNat (rd x l x_3).e) : Int)))) (toW (D.val (.int .u32 (↑(BitVec.toNat (rd x l x_3).f) : Int)))) (toW (D.val (.int .u32 (↑(BitVec.toNat (rd x l x_3).g) : Int)))))) : Int)) + gl1.getD (↑x_3 : Int).toNat (0 : Int)) + (wl l x_2).getD (↑x_3 : Int).toNat (0 : Int)) + IntKind.u32.wrap (ixor IntKind.u32 (ixor IntKind.u32 (↑(BitVec.toNat (rr (toW (D.val (.int .u32 (↑(BitVec.toNat (rd x l x_3).a) : Int)))) 2)) : Int) (↑(BitVec.toNat (rr (toW (D.val (.int .u32 (↑(BitVec.toNat (rd x l x_3).a) : Int)))) 13)) : Int)) (↑(BitVec.toNat (rr (toW (D.val (.int .u32 (↑(BitVec.toNat (rd x l x_3).a) : Int)))) 22)) : Int) + (↑(BitVec.toNat (mjW (toW (D.val (.int .u32 (↑(BitVec.toNat (rd x l x_3).a) : Int)))) (toW (D.val (.int .u32 (↑(BitVec.toNat (rd x l x_3).b) : Int)))) (toW (D.val (.int .u32 (↑(BitVec.toNat (rd x l x_3).c) : Int)))))) : Int)))))) = AV.d (D.val (.int .u32 (↑(BitVec.toNat (rd x l (IntKind.i64.wrap ((↑x_3 : Int) + (1 : Int))).toNat).a) : Int))) ∧ AV.d (D.val (.int .u32 (↑(BitVec.toNat (rd x l x_3).a) : Int))) = AV.d (D.val (.int .u32 (↑(BitVec.toNat (rd x l (IntKind.i64.wrap ((↑x_3 : Int) + (1 : Int))).toNat).b) : Int))) ∧ AV.d (D.val (.int .u32 (↑(BitVec.toNat (rd x l x_3).b) : Int))) = AV.d (D.val (.int .u32 (↑(BitVec.toNat (rd x l (IntKind.i64.wrap ((↑x_3 : Int) + (1 : Int))).toNat).c) : Int))) ∧ AV.d (D.val (.int .u32 (↑(BitVec.toNat (rd x l x_3).c) : Int))) = AV.d (D.val (.int .u32 (↑(BitVec.toNat (rd x l (IntKind.i64.wrap ((↑x_3 : Int) + (1 : Int))).toNat).d) : Int))) ∧ AV.d (D.val (Value.int IntKind.u32 (IntKind.u32.wrap ((↑(BitVec.toNat (rd x l x_3).d) : Int) + IntKind.u32.wrap (IntKind.u32.wrap (IntKind.u32.wrap (IntKind.u32.wrap ((↑(BitVec.toNat (rd x l x_3).h) : Int) + ixor IntKind.u32 (ixor IntKind.u32 (↑(BitVec.toNat (rr (toW (D.val (.int .u32 (↑(BitVec.toNat (rd x l x_3).e) : Int)))) 6)) : Int) (↑(BitVec.toNat (rr (toW (D.val (.int .u32 (↑(BitVec.toNat (rd x l x_3).e) : Int)))) 11)) : Int)) (↑(BitVec.toNat (rr (toW (D.val (.int .u32 (↑(BitVec.toNat (rd x l x_3).e) : Int)))) 25)) : Int)) + (↑(BitVec.toNat (chW (toW (D.val (.int .u32 (↑(BitVec.toNat (rd x l x_3).e) : Int)))) (toW (D.val (.int .u32 (↑(BitVec.toNat (rd x l x_3).f) : Int)))) (toW (D.val (.int .u32 (↑(BitVec.toNat (rd x l x_3).g) : Int)))))) : Int)) + gl1.getD (↑x_3 : Int).toNat (0 : Int)) + (wl l x_2).getD (↑x_3 : Int).toNat (0 : Int)))))) = AV.d (D.val (.int .u32 (↑(BitVec.toNat (rd x l (IntKind.i64.wrap ((↑x_3 : Int) + (1 : Int))).toNat).e) : Int))) ∧ AV.d (D.val (.int .u32 (↑(BitVec.toNat (rd x l x_3).e) : Int))) =
    AV.d (D.val (.int .u32 (↑(BitVec.toNat (rd x l (IntKind.i64.wrap ((↑x_3 : Int) + (1 : Int))).toNat).f) : Int))) ∧ AV.d (D.val (.int .u32 (↑(BitVec.toNat (rd x l x_3).f) : Int))) = AV.d (D.val (.int .u32 (↑(BitVec.toNat (rd x l (IntKind.i64.wrap ((↑x_3 : Int) + (1 : Int))).toNat).g) : Int))) ∧ AV.d (D.val (.int .u32 (↑(BitVec.toNat (rd x l x_3).g) : Int))) = AV.d (D.val (Value.int IntKind.u32 (↑(BitVec.toNat (rd x l (IntKind.i64.wrap ((↑x_3 : Int) + (1 : Int))).toNat).h) : Int))) ∧ sm (AV.d (D.val (.int .i64 (↑(4 * x_1) : Int)))) ∧ sm (AV.d (D.val (Value.bool (decide ((↑(4 * x_1) : Int) < (64 : Int)))))) ∧ sm (AV.row 24) ∧ sm (AV.d (D.val (.int .i64 (↑(wl l x_2).length : Int)))) ∧ sm (AV.d (D.val (Value.bool (decide ((↑(wl l x_2).length : Int) < (64 : Int)))))) ∧ sm (AV.d (D.ints .u32 [(↑(BitVec.toNat x.a) : Int), (↑(BitVec.toNat x.b) : Int), (↑(BitVec.toNat x.c) : Int), (↑(BitVec.toNat x.d) : Int), (↑(BitVec.toNat x.e) : Int), (↑(BitVec.toNat x.f) : Int), (↑(BitVec.toNat x.g) : Int), (↑(BitVec.toNat x.h) : Int)])) ∧ sm (AV.dat (D.val (.int .u32 (↑(BitVec.toNat x.a) : Int)))) ∧ sm (AV.d (D.val (.int .u32 (↑(BitVec.toNat x.a) : Int)))) ∧ sm (AV.d (D.ints .u32 [(↑(BitVec.toNat x.a) : Int), (↑(BitVec.toNat x.b) : Int), (↑(BitVec.toNat x.c) : Int), (↑(BitVec.toNat x.d) : Int), (↑(BitVec.toNat x.e) : Int), (↑(BitVec.toNat x.f) : Int), (↑(BitVec.toNat x.g) : Int), (↑(BitVec.toNat x.h) : Int)])) ∧ sm (AV.dat (D.val (.int .u32 (↑(BitVec.toNat x.b) : Int)))) ∧ sm (AV.d (D.val (.int .u32 (↑(BitVec.toNat x.b) : Int)))) ∧ sm (AV.d (D.ints .u32 [(↑(BitVec.toNat x.a) : Int), (↑(BitVec.toNat x.b) : Int), (↑(BitVec.toNat x.c) : Int), (↑(BitVec.toNat x.d) : Int), (↑(BitVec.toNat x.e) : Int), (↑(BitVec.toNat x.f) : Int), (↑(BitVec.toNat x.g) : Int), (↑(BitVec.toNat x.h) : Int)])) ∧ sm (AV.dat (D.val (.int .u32 (↑(BitVec.toNat x.c) : Int)))) ∧ sm (AV.d (D.val (.int .u32 (↑(BitVec.toNat x.c) : Int)))) ∧ sm (AV.d (D.ints .u32 [(↑(BitVec.toNat x.a) : Int), (↑(BitVec.toNat x.b) : Int), (↑(BitVec.toNat x.c) : Int), (↑(BitVec.toNat x.d) : Int), (↑(BitVec.toNat x.e) : Int), (↑(BitVec.toNat x.f) : Int), (↑(BitVec.toNat x.g) : Int), (↑(BitVec.toNat x.h) : Int)])) ∧ sm (AV.dat (D.val (.int .u32 (↑(BitVec.toNat x.d) : Int)))) ∧ sm (AV.d (D.val (.int .u32 (↑(BitVec.toNat x.d) : Int)))) ∧ sm (AV.d (D.ints .u32 [(↑(BitVec.toNat x.a) : Int), (↑(BitVec.toNat x.b) : Int), (↑(BitVec.toNat x.c) : Int), (↑(BitVec.toNat x.d) : Int), (↑(BitVec.toNat x.e) : Int), (↑(BitVec.toNat x.f) : Int), (↑(BitVec.toNat x.g) : Int), (↑(BitVec.toNat x.h) : Int)])) ∧ sm (AV.dat (D.val (.int .u32 (↑(BitVec.toNat x.e) : Int)))) ∧ sm (AV.d (D.val (.int .u32 (↑(BitVec.toNat x.e) : Int)))) ∧ sm (AV.d (D.ints .u32 [(↑(BitVec.toNat x.a) : Int), (↑(BitVec.toNat x.b) : Int), (↑(BitVec.toNat x.c) : Int), (↑(BitVec.toNat x.d) : Int), (↑(BitVec.toNat x.e) : Int), (↑(BitVec.toNat x.f) : Int), (↑(BitVec.toNat x.g) : Int), (↑(BitVec.toNat x.h) : Int)])) ∧ sm (AV.dat (D.val (.int .u32 (↑(BitVec.toNat x.f) : Int)))) ∧
    sm (AV.d (D.val (.int .u32 (↑(BitVec.toNat x.f) : Int)))) ∧ sm (AV.d (D.ints .u32 [(↑(BitVec.toNat x.a) : Int), (↑(BitVec.toNat x.b) : Int), (↑(BitVec.toNat x.c) : Int), (↑(BitVec.toNat x.d) : Int), (↑(BitVec.toNat x.e) : Int), (↑(BitVec.toNat x.f) : Int), (↑(BitVec.toNat x.g) : Int), (↑(BitVec.toNat x.h) : Int)])) ∧ sm (AV.dat (D.val (.int .u32 (↑(BitVec.toNat x.g) : Int)))) ∧ sm (AV.d (D.val (.int .u32 (↑(BitVec.toNat x.g) : Int)))) ∧ sm (AV.d (D.ints .u32 [(↑(BitVec.toNat x.a) : Int), (↑(BitVec.toNat x.b) : Int), (↑(BitVec.toNat x.c) : Int), (↑(BitVec.toNat x.d) : Int), (↑(BitVec.toNat x.e) : Int), (↑(BitVec.toNat x.f) : Int), (↑(BitVec.toNat x.g) : Int), (↑(BitVec.toNat x.h) : Int)])) ∧ sm (AV.dat (D.val (.int .u32 (↑(BitVec.toNat x.h) : Int)))) ∧ sm (AV.d (D.val (Value.int IntKind.u32 (↑(BitVec.toNat x.h) : Int)))) ∧ sm (AV.row 24) ∧ sm (AV.d (D.val (Value.int IntKind.i64 (↑(wl l x_2).length : Int)))) ∧ AV.d (D.val (Value.int IntKind.i64 (IntKind.i64.wrap ((↑x_3 : Int) + (1 : Int))))) = AV.d (D.val (Value.int IntKind.i64 (↑(IntKind.i64.wrap ((↑x_3 : Int) + (1 : Int))).toNat : Int))) ∧ True) ∧ (sm (some (Blk.row (113 : TypeId) (D.ints .u32 (wl l x_2)))) ∧ True) ∧ true = true) ∧ (IntKind.i64.wrap ((↑x_3 : Int) + (1 : Int))).toNat ≤ 64 ∧ 64 - (IntKind.i64.wrap ((↑x_3 : Int) + (1 : Int))).toNat < 64 - x_3
   | false => True ∧ ((0 : Int) ≤ 0 ∧ (0 : Int) < (↑(8 : Nat) : Int) ∧ 1 = 1) ∧ (1 ≠ 0 ∧ 1 = 1 ∧ false = false) ∧ True ∧ True ∧ True ∧ ((0 : Int) ≤ 1 ∧ (1 : Int) < (↑(8 : Nat) : Int) ∧ 1 = 1) ∧ (1 ≠ 0 ∧ 1 = 1 ∧ false = false) ∧ True ∧ True ∧ True ∧ ((0 : Int) ≤ 2 ∧ (2 : Int) < (↑(8 : Nat) : Int) ∧ 1 = 1) ∧ (1 ≠ 0 ∧ 1 = 1 ∧ false = false) ∧ True ∧ True ∧ True ∧ ((0 : Int) ≤ 3 ∧ (3 : Int) < (↑(8 : Nat) : Int) ∧ 1 = 1) ∧ (1 ≠ 0 ∧ 1 = 1 ∧ false = false) ∧ True ∧ True ∧ True ∧ ((0 : Int) ≤ 4 ∧ (4 : Int) < (↑(8 : Nat) : Int) ∧ 1 = 1) ∧ (1 ≠ 0 ∧ 1 = 1 ∧ false = false) ∧ True ∧ True ∧ True ∧ ((0 : Int) ≤ 5 ∧ (5 : Int) < (↑(8 : Nat) : Int) ∧ 1 = 1) ∧ (1 ≠ 0 ∧ 1 = 1 ∧ false = false) ∧ True ∧ True ∧ True ∧ ((0 : Int) ≤ 6 ∧ (6 : Int) < (↑(8 : Nat) : Int) ∧ 1 = 1) ∧ (1 ≠ 0 ∧ 1 = 1 ∧ false = false) ∧ True ∧ True ∧ True ∧ ((0 : Int) ≤ 7 ∧ (7 : Int) < (↑(8 : Nat) : Int) ∧ 1 = 1) ∧ (1 ≠ 0 ∧ 1 = 1 ∧ false = false) ∧ True ∧ True ∧ (1 = 1 ∧ 8 ≤ 4096) ∧ True ∧ (false = false ∧ True) ∧ D.ints .u32 [IntKind.u32.wrap ((↑(BitVec.toNat x.a) : Int) + (↑(BitVec.toNat (rd x l x_3).a) : Int)), IntKind.u32.wrap ((↑(BitVec.toNat x.b) : Int) + (↑(BitVec.toNat (rd x l x_3).b) : Int)), IntKind.u32.wrap ((↑(BitVec.toNat x.c) : Int) + (↑(BitVec.toNat (rd x l x_3).c) : Int)), IntKind.u32.wrap ((↑(BitVec.toNat x.d) : Int) + (↑(BitVec.toNat (rd x l x_3).d) : Int)), IntKind.u32.wrap ((↑(BitVec.toNat x.e) : Int) + (↑(BitVec.toNat (rd x l x_3).e) : Int)), IntKind.u32.wrap ((↑(BitVec.toNat x.f) : Int) + (↑(BitVec.toNat (rd x l x_3).f) : Int)), IntKind.u32.wrap ((↑(BitVec.toNat x.g) : Int) + (↑(BitVec.toNat (rd x l x_3).g) : Int)), IntKind.u32.wrap ((↑(BitVec.toNat x.h) : Int) + (↑(BitVec.toNat (rd x l x_3).h) : Int))] = F) := by kernel_rfl
end Go.Proofs.YtkicjckhkefnpaaDoor
namespace Go.Proofs.YtkicjckhkefnpaaDoor
open Go Go.Vg
theorem mulW (x : W) : IntKind.u32.wrap ((x.toNat : Int) * 256) = ((x * 256).toNat : Int) := by
 rw [w32, BitVec.toNat_mul]
 have : (256 : W).toNat = 256 := rfl
 rw [this]
 omega
theorem bytW {l : List Int} (h : isBytes l) {i : Nat} (hi : i < l.length) : IntKind.u32.wrap (l.getD i 0) = ((BitVec.ofNat 32 (l.getD i 0).toNat).toNat : Int) := by
 obtain ⟨b, e, hb⟩ := byte_at h hi
 rw [e, Int.toNat_natCast, wN32, BitVec.toNat_ofNat]
theorem pw_wat {l : List Int} (h : isBytes l) {i : Nat} (hi : i + 3 < l.length) : pw l i 4 = wat l i := by
 obtain ⟨a, ea, ha⟩ := byte_at h (i := i) (by omega)
 obtain ⟨b, eb, hb⟩ := byte_at h (i := i + 1) (by omega)
 obtain ⟨c, ec, hc⟩ := byte_at h (i := i + 2) (by omega)
 obtain ⟨d, ed, hd⟩ := byte_at h (i := i + 3) (by omega)
 unfold wat
 simp only [pw, Nat.add_zero]
 rw [ea, eb, ec, ed]
 unfold w4
 simp only [Int.toNat_natCast]
 apply BitVec.eq_of_toNat_eq
 have h256 : (256 : W).toNat = 256 := rfl
 simp only [BitVec.toNat_add, BitVec.toNat_mul, BitVec.toNat_ofNat, h256]
 simp only [show (2 : Nat) ^ 32 = 4294967296 from rfl]
 omega
theorem quoW (x : W) (k : Nat) (hk : k ≤ 32) : IntKind.u32.wrap (((x.toNat : Nat) : Int).tdiv ((2 ^ k : Nat) : Int)) = ((x >>> k).toNat : Int) := by
 have hx := x.isLt
 have : x.toNat / 2 ^ k < 4294967296 := Nat.lt_of_le_of_lt (Nat.div_le_self _ _) hx
 rw [tdivN, wrapN .u32 (show _ < 4294967296 from this), BitVec.toNat_ushiftRight, Nat.shiftRight_eq_div_pow]
theorem quo8 (x : W) : IntKind.u32.wrap (((x.toNat : Nat) : Int).tdiv 8) = ((x >>> 3).toNat : Int) := quoW x 3 (by decide)
theorem quo1024 (x : W) : IntKind.u32.wrap (((x.toNat : Nat) : Int).tdiv 1024) = ((x >>> 10).toNat : Int) := quoW x 10 (by decide)
theorem sched (a b c d : W) : ((a + b) + c) + d = ((a + c) + b) + d := by
 rw [BitVec.add_assoc a b c, BitVec.add_comm b c, ← BitVec.add_assoc]
theorem wl_get' (l : List Int) {n j : Nat} (h : j < n) : (wl l n).getD j 0 = ((wn l j).toNat : Int) := by
 have := wl_get l h []
 rwa [List.append_nil] at this
set_option maxRecDepth 100000 in
theorem m128 : Meets Tryd.prog 128 sp128 := by
 refine meets_of_owed (C := c128) ⟨tab_ok, lkS_ok ⟨m133, m134, m135, trivial⟩⟩ (by kernel_rfl) (by kernel_rfl : Tryd.prog.funcs[128]? = some Tryd.f128) (by kernel_rfl) (by kernel_rfl) (by kernel_rfl) _ ?_
 rintro _ ⟨x, l, rfl, hb, hl⟩
 refine ⟨(fun h => by cases h), inv128 x l, ?_⟩
 show owed c128 (inv128 x l) Tryd.f128 [.ints .u32 x.l, .str l] (.ints .u32 (prL x.l l))
 unfold prL
 rw [vc128, ofR_l]
 have hw0 : wl l (0 / 4) = [] := rfl
 have hp0 : ∀ i, pw l i 0 = 0 := fun _ => rfl
 have hz : ((BitVec.toNat (0 : W) : Nat) : Int) = 0 := rfl
 have hr0 : rd x l 0 = x := rfl
 simp (decide := true) only [eq_self, true_and, and_true, ne_eq, not_false_eq_true, Int.toNat_natCast, hw0, hp0, hz, Int.toNat_zero, hr0]
 refine ⟨by and_intros <;> first | rfl | omega | decide | trivial, fun i hi => ?_⟩
 split
 ·rename_i h
  have h : i < 16 := by have := of_decide_eq_true h; omega
  refine ⟨by and_intros <;> first | rfl | omega | decide | trivial, ?_⟩
  rintro ⟨k, at_⟩ ⟨hk, hat⟩
  simp only at hk hat ⊢
  obtain rfl : at_ = 4 * i := by omega
  split
  ·rename_i h2
   have h2 : k < 4 := by have := of_decide_eq_true h2; omega
   have e1 : IntKind.i64.wrap (((4 * i : Nat) : Int) + (k : Int)) = ((4 * i + k : Nat) : Int) := by rw [wi (by omega) (by omega)]; omega
   have e2 : IntKind.i64.wrap ((k : Int) + 1) = ((k + 1 : Nat) : Int) := by rw [wi (by omega) (by omega)]; omega
   simp only [e1, e2, Int.toNat_natCast, mulW, bytW hb (i := 4 * i + k) (by omega), addW]
   and_intros <;> first | rfl | omega | trivial
  ·rename_i h2
   obtain rfl : k = 4 := by have := of_decide_eq_false h2; omega
   have e4 : IntKind.i64.wrap (((4 * i : Nat) : Int) + 4) = ((4 * i + 4 : Nat) : Int) := by rw [wi (by omega) (by omega)]; omega
   rw [e4, Int.toNat_natCast, show (4 * i + 4) / 4 = i + 1 by omega, pw_wat hb (by omega), ← wn_lo l h, ← wl_succ, wl_len]
   and_intros <;> first | rfl | omega | trivial
 ·rename_i h
  obtain rfl : i = 16 := by have := of_decide_eq_false h; omega
  simp only [wl_len]
  refine ⟨by and_intros <;> first | rfl | omega | decide | trivial, ?_⟩
  rintro n ⟨hn, hn2⟩
  split
  ·rename_i h
   have h : n < 64 := by have := of_decide_eq_true h; omega
   have e15 : IntKind.i64.wrap ((n : Int) - 15) = ((n - 15 : Nat) : Int) := by rw [wi (by omega) (by omega)]; omega
   have e16 : IntKind.i64.wrap ((n : Int) - 16) = ((n - 16 : Nat) : Int) := by rw [wi (by omega) (by omega)]; omega
   have e7 : IntKind.i64.wrap ((n : Int) - 7) = ((n - 7 : Nat) : Int) := by rw [wi (by omega) (by omega)]; omega
   have e2 : IntKind.i64.wrap ((n : Int) - 2) = ((n - 2 : Nat) : Int) := by rw [wi (by omega) (by omega)]; omega
   have g15 := wl_get' l (n := n) (j := n - 15) (by omega)
   have g16 := wl_get' l (n := n) (j := n - 16) (by omega)
   have g7 := wl_get' l (n := n) (j := n - 7) (by omega)
   have g2 := wl_get' l (n := n) (j := n - 2) (by omega)
   have hs : wn l (n - 16) + wn l (n - 7) + sA (wn l (n - 15)) + sB (wn l (n - 2)) = wn l n := by rw [sched, ← wn_hi l hn]
   simp only [e15, e16, e7, e2, Int.toNat_natCast, g15, g16, g7, g2, toW_wd, xorW, quo8, quo1024, addW, fA, fB, hs, ← wl_succ, wl_len]
   and_intros <;> first | exact trivial | rfl | omega | exact ⟨_, 7, rfl, by decide, by decide⟩ | exact ⟨_, 18, rfl, by decide, by decide⟩ | exact ⟨_, 17, rfl, by decide, by decide⟩ | exact ⟨_, 19, rfl, by decide, by decide⟩
  ·rename_i h
   obtain rfl : n = 64 := by have := of_decide_eq_false h; omega
   refine ⟨by and_intros <;> first | rfl | omega | decide | trivial, fun t ht => ?_⟩
   split
   ·rename_i h
    have h : t < 64 := by have := of_decide_eq_true h; omega
    have ew : IntKind.i64.wrap ((t : Int) + 1) = ((t + 1 : Nat) : Int) := by rw [wi (by omega) (by omega)]; omega
    have gt := wl_get' l (n := 64) (j := t) h
    simp only [ew, Int.toNat_natCast, gt, gl_ok.2.2, kW_eq h, toW_wd, xorW, addW, fC, fD, rd_succ]
    and_intros <;> first | exact trivial | rfl | omega | exact ⟨_, 6, rfl, by decide, by decide⟩ | exact ⟨_, 11, rfl, by decide, by decide⟩ | exact ⟨_, 25, rfl, by decide, by decide⟩ | exact ⟨_, 2, rfl, by decide, by decide⟩ | exact ⟨_, 13, rfl, by decide, by decide⟩ | exact ⟨_, 22, rfl, by decide, by decide⟩ | exact ⟨_, _, _, rfl⟩
   ·rename_i h
    obtain rfl : t = 64 := by have := of_decide_eq_false h; omega
    simp only [addW]
    and_intros <;> first | exact trivial | rfl | omega
end Go.Proofs.YtkicjckhkefnpaaDoor
namespace Go.Proofs.YtkicjckhkefnpaaDoor
open Go Go.Vg
structure HS where
 h : R8
 n : Nat
 l : List Int
abbrev stD (s : HS) : D := .st [a8 s.h.l, .val (.int .u64 (s.n : Int)), .arr .u8 64 s.l]
def stp (s : HS) (b : Int) : HS :=
 let l' := s.l.set (s.n % 64) b
 let n' := (s.n + 1) % 18446744073709551616
 if n' % 64 = 0 then ⟨pr s.h l', n', l'⟩ else ⟨s.h, n', l'⟩
def wrS (s : HS) (p : List Int) : HS := p.foldl stp s
def ofS (d : D) : HS := ⟨ofR (arrOf (fldOf d 0)), (numOf (fldOf d 1)).toNat, arrOf (fldOf d 2)⟩
def okS (s : HS) : Prop := s.l.length = 64 ∧ isBytes s.l ∧ s.n < 18446744073709551616
def sp76 : Go.Vg.Spec := ⟨fun ds => ∃ s p, ds = [stD s, .ints .u8 p] ∧ okS s ∧ isBytes p ∧ p.length ≤ 1000000000000000, fun ds => stD (wrS (ofS (ds.headD default)) (intsOf (ds.getD 1 default))), true, [117, 26]⟩
def zc (n : Nat) : Nat := (119 - n % 64) % 64
def tl (b : Nat) : Nat → List Int
 | 0 => []
 | k + 1 => ((b / 256 ^ k % 256 : Nat) : Int) :: tl b k
def padL (n : Nat) : List Int := 128 :: (List.replicate (zc n) 0 ++ tl (8 * n % 18446744073709551616) 8)
def sp118 : Go.Vg.Spec := ⟨fun ds => ∃ n, ds = [.val (.int .u64 ((n : Nat) : Int))] ∧ n < 18446744073709551616, fun ds => .ints .u8 (padL (numOf (ds.headD default)).toNat), false, [73]⟩
def sp127 : Go.Vg.Spec := ⟨fun ds => ∃ n, ds = [.val (.int .u64 ((n : Nat) : Int))] ∧ n < 18446744073709551616, fun ds => .str (padL (numOf (ds.headD default)).toNat), true, [73]⟩
def c76 : Ctx := ⟨tab, lkS [(117, sp117)], [], []⟩
def c118 : Ctx := ⟨tab, fun _ => none, [5], []⟩
def inv76 (s : HS) (p : List Int) : Nat → Option Inv
 | 2 => some ⟨Nat, fun i => [(9, .d (i64 i))], fun i => [(2, .fix (stD (wrS s (p.take i))))], fun s => (slotN s 9).toNat, fun _ i => i ≤ p.length, fun i => p.length - i⟩
 | _ => none
def pz (n i : Nat) : List Int := 128 :: List.replicate i 0
def pt (n i : Nat) : List Int := 128 :: (List.replicate (zc n) 0 ++ (tl (8 * n % 18446744073709551616) 8).take i)
def inv118 (n : Nat) : Nat → Option Inv
 | 2 => some ⟨Nat, fun _ => [(3, .row 5), (5, .any)], fun i => [(5, .row 5 (.ints .u8 (pz n i)))], fun s => (rowD s 5).length - 1, fun _ i => i ≤ zc n, fun i => zc n - i⟩
 | 5 => some ⟨Nat, fun i => [(16, .d (i64 i)), (3, .row 5), (7, .any)], fun i => [(5, .row 5 (.ints .u8 (pt n i)))], fun s => (slotN s 16).toNat, fun _ i => i ≤ 8, fun i => 8 - i⟩
 | _ => none
def inv127 (n : Nat) : Nat → Option Inv
 | 3 => some ⟨Nat, fun i => [(3, .d (.str (pz n i)))], fun _ => [], fun s => (strOf (slotD s 3)).length - 1, fun _ i => i ≤ zc n, fun i => zc n - i⟩
 | 8 => some ⟨Nat, fun i => [(21, .d (i64 i)), (5, .d (.val (.int .u64 ((8 * n % 18446744073709551616 / 256 ^ i : Nat) : Int)))), (6, .d (.str (tl (8 * n % 18446744073709551616) i)))], fun _ => [], fun s => (slotN s 21).toNat, fun _ i => i ≤ 8, fun i => 8 - i⟩
 | _ => none
set_option maxRecDepth 100000 in
theorem vc76  (s : HS) (p : List Int) (F : D)  :
    (owed c76 (inv76 s p) Tryd.f76 [stD s, .ints .u8 p] F) = (
 (True ∧ false = false) ∧ (True ∧ 73 ≠ 0) ∧ True ∧ True ∧ True ∧ (((AV.d (D.val (.int .i64 0)) = AV.d (D.val (.int .i64 (↑(Int.toNat (0 : Int)) : Int))) ∧ True) ∧ (some (Blk.fix (D.st [D.arr .u32 8 [(↑(BitVec.toNat s.h.a) : Int), (↑(BitVec.toNat s.h.b) : Int), (↑(BitVec.toNat s.h.c) : Int), (↑(BitVec.toNat s.h.d) : Int), (↑(BitVec.toNat s.h.e) : Int), (↑(BitVec.toNat s.h.f) : Int), (↑(BitVec.toNat s.h.g) : Int), (↑(BitVec.toNat s.h.h) : Int)], D.val (.int .u64 (↑s.n : Int)), D.arr .u8 64 s.l])) = some (Blk.fix (D.st [D.arr .u32 8 [(↑(BitVec.toNat (wrS s (List.take (Int.toNat (0 : Int)) p)).h.a) : Int), (↑(BitVec.toNat (wrS s (List.take (Int.toNat (0 : Int)) p)).h.b) : Int), (↑(BitVec.toNat (wrS s (List.take (Int.toNat (0 : Int)) p)).h.c) : Int), (↑(BitVec.toNat (wrS s (List.take (Int.toNat (0 : Int)) p)).h.d) : Int), (↑(BitVec.toNat (wrS s (List.take (Int.toNat (0 : Int)) p)).h.e) : Int), (↑(BitVec.toNat (wrS s (List.take (Int.toNat (0 : Int)) p)).h.f) : Int), (↑(BitVec.toNat (wrS s (List.take (Int.toNat (0 : Int)) p)).h.g) : Int), (↑(BitVec.toNat (wrS s (List.take (Int.toNat (0 : Int)) p)).h.h) : Int)], D.val (.int .u64 (↑(wrS s (List.take (Int.toNat (0 : Int)) p)).n : Int)), D.arr .u8 64 (wrS s (List.take (Int.toNat (0 : Int)) p)).l])) ∧ sm (some (Blk.fix (D.st [D.arr .u32 8 [(0 : Int), (0 : Int), (0 : Int), (0 : Int), (0 : Int), (0 : Int), (0 : Int), (0 : Int)], D.val (.int .u64 0), D.arr .u8 64 (List.replicate 64 (0 : Int))]))) ∧ True) ∧ true = true) ∧ Int.toNat (0 : Int) ≤ p.length) ∧ ∀ (x : Nat), x ≤ p.length → true = true ∧ True ∧ match decide ((↑x : Int) < (↑p.length : Int)) with
 | true => ((0 : Int) ≤ (↑x : Int) ∧ (↑x : Int) < (↑p.length : Int) ∧ 1 = 1) ∧ (1 ≠ 0 ∧ 1 = 1 ∧ false = false) ∧ True ∧ (Sk.st [Sk.arr 8, Sk.one, Sk.arr 64] = Sk.st [Sk.arr 8, Sk.one, Sk.arr 64] ∧ 1 < 3) ∧ (1 ≠ 0 ∧ 1 = 1 ∧ false = false) ∧ (64 : Int) ≠ 0 ∧ True ∧ (Sk.st [Sk.arr 8, Sk.one, Sk.arr 64] = Sk.st [Sk.arr 8, Sk.one, Sk.arr 64] ∧ 2 < 3) ∧ ((0 : Int) ≤ (↑(wrS s (List.take x p)).n : Int).tmod (64 : Int) ∧ (↑(wrS s (List.take x p)).n : Int).tmod (64 : Int) < (↑(64 : Nat) : Int) ∧ 64 = 64 ∧ 1 = 1) ∧ ((2 < 3 ∧ ((↑(wrS s (List.take x p)).n : Int).tmod (64 : Int)).toNat < 64 ∧ ([] : List Nat) = [] ∧ true = true) ∧ 1 ≠ 0 ∧ 1 = 1 ∧ false = false) ∧ (Sk.st [Sk.arr 8, Sk.one, Sk.arr 64] = Sk.st [Sk.arr 8, Sk.one, Sk.arr 64] ∧ 1 < 3) ∧ (1 ≠ 0 ∧ 1 = 1 ∧ false = false) ∧ True ∧ (Sk.st [Sk.arr 8, Sk.one, Sk.arr 64] = Sk.st [Sk.arr 8, Sk.one, Sk.arr 64] ∧ 1 < 3) ∧ ((1 < 3 ∧ Sk.one = Sk.one) ∧ 1 ≠ 0 ∧ 1 = 1 ∧ false = false) ∧ (Sk.st [Sk.arr 8, Sk.one, Sk.arr 64] = Sk.st [Sk.arr 8, Sk.one, Sk.arr 64] ∧ 1 < 3) ∧ (1 ≠ 0 ∧ 1 = 1 ∧ false = false) ∧ (64 : Int) ≠ 0 ∧ True ∧ match (IntKind.u64.wrap ((↑(wrS s (List.take x p)).n : Int) + (1 : Int))).tmod (64 : Int) == (0 : Int) with
  | true => (Sk.st [Sk.arr 8, Sk.one, Sk.arr 64] = Sk.st [Sk.arr 8, Sk.one, Sk.arr 64] ∧ 0 < 3) ∧ (8 ≠ 0 ∧ 8 = 8 ∧ true = true) ∧ (Sk.st [Sk.arr 8, Sk.one, Sk.arr 64] = Sk.st [Sk.arr 8, Sk.one, Sk.arr 64] ∧ 2 < 3) ∧ (64 ≠ 0 ∧ 64 = 64 ∧ true = true) ∧ (∃ (x_1 : R8), ∃ (l : List Int), [D.arr .u32 8 [(↑(BitVec.toNat (wrS s (List.take x p)).h.a) : Int), (↑(BitVec.toNat (wrS s (List.take x p)).h.b) : Int), (↑(BitVec.toNat (wrS s (List.take x p)).h.c) : Int), (↑(BitVec.toNat (wrS s (List.take x p)).h.d) : Int), (↑(BitVec.toNat (wrS s (List.take x p)).h.e) : Int), (↑(BitVec.toNat (wrS s (List.take x p)).h.f) : Int), (↑(BitVec.toNat (wrS s (List.take x p)).h.g) : Int), (↑(BitVec.toNat (wrS s (List.take x p)).h.h) : Int)], D.arr .u8 64 ((wrS s (List.take x p)).l.set ((↑(wrS s (List.take x p)).n : Int).tmod (64 : Int)).toNat (p.getD (↑x : Int).toNat (0 : Int)))] = [D.arr .u32 8 [(↑(BitVec.toNat x_1.a) : Int), (↑(BitVec.toNat x_1.b) : Int), (↑(BitVec.toNat x_1.c) : Int), (↑(BitVec.toNat x_1.d) : Int), (↑(BitVec.toNat x_1.e) : Int), (↑(BitVec.toNat x_1.f) : Int), (↑(BitVec.toNat x_1.g) : Int), (↑(BitVec.toNat x_1.h) : Int)], D.arr .u8 64 l] ∧ isBytes l ∧ l.length = 64) ∧ (Sk.st [Sk.arr 8, Sk.one, Sk.arr 64] = Sk.st [Sk.arr 8, Sk.one, Sk.arr 64] ∧ 0 < 3) ∧ ((0 < 3 ∧ Sk.arr 8 = Sk.arr 8) ∧ 8 ≠ 0 ∧ 8 = 8 ∧ false = false) ∧ True ∧ True ∧ ((AV.d (D.val (.int .i64 (IntKind.i64.wrap ((↑x : Int) + (1 : Int))))) = AV.d (D.val (.int .i64 (↑(IntKind.i64.wrap ((↑x : Int) + (1 : Int))).toNat : Int))) ∧ True) ∧ (some (Blk.fix (D.st [D.arr .u32 8 (prL [(↑(BitVec.toNat (wrS s (List.take x p)).h.a) : Int), (↑(BitVec.toNat (wrS s (List.take x p)).h.b) : Int), (↑(BitVec.toNat (wrS s (List.take x p)).h.c) : Int), (↑(BitVec.toNat (wrS s (List.take x p)).h.d) : Int), (↑(BitVec.toNat (wrS s (List.take x p)).h.e) : Int), (↑(BitVec.toNat (wrS s (List.take x p)).h.f) : Int), (↑(BitVec.toNat (wrS s (List.take x p)).h.g) : Int), (↑(BitVec.toNat (wrS s (List.take x p)).h.h) : Int)] ((wrS s (List.take x p)).l.set ((↑(wrS s (List.take x p)).n : Int).tmod (64 : Int)).toNat (p.getD (↑x : Int).toNat (0 : Int)))), D.val (.int .u64 (IntKind.u64.wrap ((↑(wrS s (List.take x p)).n : Int) + (1 : Int)))), D.arr .u8 64 ((wrS s (List.take x p)).l.set ((↑(wrS s (List.take x p)).n : Int).tmod (64 : Int)).toNat (p.getD (↑x : Int).toNat (0 : Int)))])) = some (Blk.fix (D.st [D.arr .u32 8 [(↑(BitVec.toNat (wrS s (List.take (IntKind.i64.wrap ((↑x : Int) + (1 : Int))).toNat p)).h.a) : Int), (↑(BitVec.toNat (wrS s (List.take (IntKind.i64.wrap ((↑x : Int) + (1 : Int))).toNat p)).h.b) : Int), (↑(BitVec.toNat (wrS s (List.take (IntKind.i64.wrap ((↑x : Int) + (1 : Int))).toNat p)).h.c) : Int), (↑(BitVec.toNat (wrS s (List.take (IntKind.i64.wrap ((↑x : Int) + (1 : Int))).toNat p)).h.d) : Int), (↑(BitVec.toNat (wrS s (List.take (IntKind.i64.wrap ((↑x : Int) + (1 : Int))).toNat p)).h.e) : Int), (↑(BitVec.toNat (wrS s (List.take (IntKind.i64.wrap ((↑x : Int) + (1 : Int))).toNat p)).h.f) : Int), (↑(BitVec.toNat (wrS s (List.take (IntKind.i64.wrap ((↑x : Int) + (1 : Int))).toNat p)).h.g) : Int), (↑(BitVec.toNat (wrS s (List.take (IntKind.i64.wrap ((↑x : Int) + (1 : Int))).toNat p)).h.h) : Int)],
   D.val (.int .u64 (↑(wrS s (List.take (IntKind.i64.wrap ((↑x : Int) + (1 : Int))).toNat p)).n : Int)), D.arr .u8 64 (wrS s (List.take (IntKind.i64.wrap ((↑x : Int) + (1 : Int))).toNat p)).l])) ∧ sm (some (Blk.fix (D.st [D.arr .u32 8 [(0 : Int), (0 : Int), (0 : Int), (0 : Int), (0 : Int), (0 : Int), (0 : Int), (0 : Int)], D.val (.int .u64 0), D.arr .u8 64 (List.replicate 64 (0 : Int))]))) ∧ True) ∧ true = true) ∧ (IntKind.i64.wrap ((↑x : Int) + (1 : Int))).toNat ≤ p.length ∧ p.length - (IntKind.i64.wrap ((↑x : Int) + (1 : Int))).toNat < p.length - x
  | false => True ∧ True ∧ ((AV.d (D.val (.int .i64 (IntKind.i64.wrap ((↑x : Int) + (1 : Int))))) = AV.d (D.val (.int .i64 (↑(IntKind.i64.wrap ((↑x : Int) + (1 : Int))).toNat : Int))) ∧ True) ∧ (some (Blk.fix (D.st [D.arr .u32 8 [(↑(BitVec.toNat (wrS s (List.take x p)).h.a) : Int), (↑(BitVec.toNat (wrS s (List.take x p)).h.b) : Int), (↑(BitVec.toNat (wrS s (List.take x p)).h.c) : Int), (↑(BitVec.toNat (wrS s (List.take x p)).h.d) : Int), (↑(BitVec.toNat (wrS s (List.take x p)).h.e) : Int), (↑(BitVec.toNat (wrS s (List.take x p)).h.f) : Int), (↑(BitVec.toNat (wrS s (List.take x p)).h.g) : Int), (↑(BitVec.toNat (wrS s (List.take x p)).h.h) : Int)], D.val (.int .u64 (IntKind.u64.wrap ((↑(wrS s (List.take x p)).n : Int) + (1 : Int)))), D.arr .u8 64 ((wrS s (List.take x p)).l.set ((↑(wrS s (List.take x p)).n : Int).tmod (64 : Int)).toNat (p.getD (↑x : Int).toNat (0 : Int)))])) = some (Blk.fix (D.st [D.arr .u32 8 [(↑(BitVec.toNat (wrS s (List.take (IntKind.i64.wrap ((↑x : Int) + (1 : Int))).toNat p)).h.a) : Int), (↑(BitVec.toNat (wrS s (List.take (IntKind.i64.wrap ((↑x : Int) + (1 : Int))).toNat p)).h.b) : Int), (↑(BitVec.toNat (wrS s (List.take (IntKind.i64.wrap ((↑x : Int) + (1 : Int))).toNat p)).h.c) : Int), (↑(BitVec.toNat (wrS s (List.take (IntKind.i64.wrap ((↑x : Int) + (1 : Int))).toNat p)).h.d) : Int), (↑(BitVec.toNat (wrS s (List.take (IntKind.i64.wrap ((↑x : Int) + (1 : Int))).toNat p)).h.e) : Int), (↑(BitVec.toNat (wrS s (List.take (IntKind.i64.wrap ((↑x : Int) + (1 : Int))).toNat p)).h.f) : Int), (↑(BitVec.toNat (wrS s (List.take (IntKind.i64.wrap ((↑x : Int) + (1 : Int))).toNat p)).h.g) : Int), (↑(BitVec.toNat (wrS s (List.take (IntKind.i64.wrap ((↑x : Int) + (1 : Int))).toNat p)).h.h) : Int)], D.val (.int .u64 (↑(wrS s (List.take (IntKind.i64.wrap ((↑x : Int) + (1 : Int))).toNat p)).n : Int)), D.arr .u8 64 (wrS s (List.take (IntKind.i64.wrap ((↑x : Int) + (1 : Int))).toNat p)).l])) ∧ sm (some (Blk.fix (D.st [D.arr .u32 8 [(0 : Int), (0 : Int), (0 : Int), (0 : Int), (0 : Int), (0 : Int), (0 : Int), (0 : Int)], D.val (.int .u64 0), D.arr .u8 64 (List.replicate 64 (0 : Int))]))) ∧ True) ∧ true = true) ∧ (IntKind.i64.wrap ((↑x : Int) + (1 : Int))).toNat ≤ p.length ∧ p.length - (IntKind.i64.wrap ((↑x : Int) + (1 : Int))).toNat < p.length - x
 | false => (73 ≠ 0 ∧ 73 = 73 ∧ true = true) ∧ (Sk.st [Sk.arr 8, Sk.one, Sk.arr 64] = Sk.st [Sk.arr 8, Sk.one, Sk.arr 64] ∧ 73 ≠ 0 ∧ 73 = 73 ∧ false = false) ∧ ((73 ≠ 0 ∧ 73 = 73 ∧ true = true) ∧ True) ∧ D.st [D.arr .u32 8 [(↑(BitVec.toNat (wrS s (List.take x p)).h.a) : Int), (↑(BitVec.toNat (wrS s (List.take x p)).h.b) : Int), (↑(BitVec.toNat (wrS s (List.take x p)).h.c) : Int), (↑(BitVec.toNat (wrS s (List.take x p)).h.d) : Int), (↑(BitVec.toNat (wrS s (List.take x p)).h.e) : Int), (↑(BitVec.toNat (wrS s (List.take x p)).h.f) : Int), (↑(BitVec.toNat (wrS s (List.take x p)).h.g) : Int), (↑(BitVec.toNat (wrS s (List.take x p)).h.h) : Int)], D.val (.int .u64 (↑(wrS s (List.take x p)).n : Int)), D.arr .u8 64 (wrS s (List.take x p)).l] = F) := by kernel_rfl
set_option maxRecDepth 100000 in
theorem vc118  (n : Nat) (F : D)  :
    (owed c118 (inv118 n) Tryd.f118 [.val (.int .u64 (n : Int))] F) = (
 True ∧ (1 = 1 ∧ 1 ≤ 4096) ∧ True ∧ (((sm (AV.d (D.val (.int .u64 (↑n : Int)))) ∧ sm (AV.d (D.val (Value.slice none 0 0))) ∧ sm (AV.row 5) ∧ True) ∧ (some (Blk.row (5 : TypeId) (D.ints .u8 [(128 : Int)])) = some (Blk.row (5 : TypeId) (D.ints .u8 (pz n (1 - 1)))) ∧ True) ∧ true = true) ∧ 1 - 1 ≤ zc n) ∧ ∀ (x : Nat), x ≤ zc n → true = true ∧ True ∧ True ∧ True ∧ True ∧ True ∧ (64 : Int) ≠ 0 ∧ True ∧ match (IntKind.u64.wrap ((↑n : Int) + IntKind.u64.wrap (↑(pz n x).length : Int))).tmod (64 : Int) != (56 : Int) with
 | true => True ∧ (1 = 1 ∧ 1 ≤ 4096) ∧ ((5 : TypeId) = (5 : TypeId) ∧ 26 = 26 ∧ true = true ∧ (pz n x ++ [(0 : Int)]).length ≤ 140737488355328 ∧ (pz n x ++ [(0 : Int)]).length * 1 ≤ 140737488355328 ∧ 1 ≠ 0 ∧ 1 = 1) ∧ True ∧ ((sm (AV.d (D.val (.int .u64 (↑n : Int)))) ∧ sm (AV.d (D.val (Value.slice none 0 0))) ∧ sm (AV.row 5) ∧ True) ∧ (some (Blk.row (5 : TypeId) (D.ints .u8 (pz n x ++ [(0 : Int)]))) = some (Blk.row (5 : TypeId) (D.ints .u8 (pz n ((pz n x ++ [(0 : Int)]).length - 1)))) ∧ True) ∧ true = true) ∧ (pz n x ++ [(0 : Int)]).length - 1 ≤ zc n ∧ zc n - ((pz n x ++ [(0 : Int)]).length - 1) < zc n - x
 | false => True ∧ (((sm (AV.d (D.val (.int .u64 (↑n : Int)))) ∧ sm (AV.d (D.val (Value.slice none 0 0))) ∧ sm (AV.row 5) ∧ sm (AV.d (D.val (.int .u64 (↑n : Int)))) ∧ sm (AV.d (D.val (.int .i64 (↑(pz n x).length : Int)))) ∧ sm (AV.d (D.val (.int .u64 (IntKind.u64.wrap (↑(pz n x).length : Int))))) ∧ sm (AV.d (D.val (.int .u64 (IntKind.u64.wrap ((↑n : Int) + IntKind.u64.wrap (↑(pz n x).length : Int)))))) ∧ sm (AV.d (D.val (.int .u64 ((IntKind.u64.wrap ((↑n : Int) + IntKind.u64.wrap (↑(pz n x).length : Int))).tmod (64 : Int))))) ∧ sm (AV.d (D.val (Value.bool ((IntKind.u64.wrap ((↑n : Int) + IntKind.u64.wrap (↑(pz n x).length : Int))).tmod (64 : Int) != (56 : Int))))) ∧ AV.d (D.val (.int .i64 0)) = AV.d (D.val (.int .i64 (↑(Int.toNat (0 : Int)) : Int))) ∧ True) ∧ (some (Blk.row (5 : TypeId) (D.ints .u8 (pz n x))) = some (Blk.row (5 : TypeId) (D.ints .u8 (pt n (Int.toNat (0 : Int))))) ∧ True) ∧ true = true) ∧ Int.toNat (0 : Int) ≤ 8) ∧ ∀ (x_1 : Nat), x_1 ≤ 8 → true = true ∧ True ∧ match decide ((↑x_1 : Int) < (8 : Int)) with
  | true => True ∧ True ∧ True ∧ True ∧ True ∧ True ∧ True ∧ True ∧ True ∧ (0 : Int) ≤ IntKind.u64.wrap (IntKind.i64.wrap ((56 : Int) - IntKind.i64.wrap ((8 : Int) * (↑x_1 : Int)))) ∧ True ∧ (1 = 1 ∧ 1 ≤ 4096) ∧ ((5 : TypeId) = (5 : TypeId) ∧ 26 = 26 ∧ true = true ∧ (pt n x_1 ++ [IntKind.u8.wrap (ishr IntKind.u64 (IntKind.u64.wrap ((8 : Int) * (↑n : Int))) (IntKind.u64.wrap (IntKind.i64.wrap ((56 : Int) - IntKind.i64.wrap ((8 : Int) * (↑x_1 : Int))))))]).length ≤ 140737488355328 ∧ (pt n x_1 ++ [IntKind.u8.wrap (ishr IntKind.u64 (IntKind.u64.wrap ((8 : Int) * (↑n : Int))) (IntKind.u64.wrap (IntKind.i64.wrap ((56 : Int) - IntKind.i64.wrap ((8 : Int) * (↑x_1 : Int))))))]).length * 1 ≤ 140737488355328 ∧ 1 ≠ 0 ∧ 1 = 1) ∧ True ∧ True ∧ True ∧ ((sm (AV.d (D.val (.int .u64 (↑n : Int)))) ∧ sm (AV.d (D.val (Value.slice none 0 0))) ∧ sm (AV.row 5) ∧ sm (AV.d (D.val (.int .u64 (↑n : Int)))) ∧ sm (AV.d (D.val (.int .i64 (↑(pz n x).length : Int)))) ∧ sm (AV.d (D.val (.int .u64 (IntKind.u64.wrap (↑(pz n x).length : Int))))) ∧ sm (AV.d (D.val (.int .u64 (IntKind.u64.wrap ((↑n : Int) + IntKind.u64.wrap (↑(pz n x).length : Int)))))) ∧ sm (AV.d (D.val (.int .u64 ((IntKind.u64.wrap ((↑n : Int) + IntKind.u64.wrap (↑(pz n x).length : Int))).tmod (64 : Int))))) ∧ sm (AV.d (D.val (Value.bool ((IntKind.u64.wrap ((↑n : Int) + IntKind.u64.wrap (↑(pz n x).length : Int))).tmod (64 : Int) != (56 : Int))))) ∧ AV.d (D.val (.int .i64 (IntKind.i64.wrap ((↑x_1 : Int) + (1 : Int))))) = AV.d (D.val (.int .i64 (↑(IntKind.i64.wrap ((↑x_1 : Int) + (1 : Int))).toNat : Int))) ∧ True) ∧ (some (Blk.row (5 : TypeId) (D.ints .u8 (pt n x_1 ++ [IntKind.u8.wrap (ishr IntKind.u64 (IntKind.u64.wrap ((8 : Int) * (↑n : Int))) (IntKind.u64.wrap (IntKind.i64.wrap ((56 : Int) - IntKind.i64.wrap ((8 : Int) * (↑x_1 : Int))))))]))) = some (Blk.row (5 : TypeId) (D.ints .u8 (pt n (IntKind.i64.wrap ((↑x_1 : Int) + (1 : Int))).toNat))) ∧ True) ∧ true = true) ∧ (IntKind.i64.wrap ((↑x_1 : Int) + (1 : Int))).toNat ≤ 8 ∧ 8 - (IntKind.i64.wrap ((↑x_1 : Int) + (1 : Int))).toNat < 8 - x_1
  | false => True ∧ True ∧ (false = false ∧ True) ∧ D.ints .u8 (pt n x_1) = F) := by kernel_rfl
set_option maxRecDepth 100000 in
theorem vc127  (n : Nat) (F : D)  :
    (owed c0 (inv127 n) Tryd.f127 [.val (.int .u64 (n : Int))] F) = (
 True ∧ True ∧ True ∧ (64 : Int) ≠ 0 ∧ True ∧ (((AV.d (D.str (ints { data := { toList := [128] } })) = AV.d (D.str (pz n ((ints { data := { toList := [128] } }).length - 1))) ∧ True) ∧ True ∧ true = true) ∧ (ints { data := { toList := [128] } }).length - 1 ≤ zc n) ∧ ∀ (x : Nat), x ≤ zc n → true = true ∧ True ∧ True ∧ True ∧ True ∧ True ∧ True ∧ (64 : Int) ≠ 0 ∧ True ∧ match (IntKind.u64.wrap (IntKind.u64.wrap ((↑n : Int).tmod (64 : Int) + IntKind.u64.wrap (↑(pz n x).length : Int)) + (8 : Int))).tmod (64 : Int) != (0 : Int) with
 | true => True ∧ (↑((pz n x).length + (ints { data := { toList := [0] } }).length) : Int) ≤ (9223372036854775807 : Int) ∧ True ∧ ((AV.d (D.str (pz n x ++ ints { data := { toList := [0] } })) = AV.d (D.str (pz n ((pz n x ++ ints { data := { toList := [0] } }).length - 1))) ∧ True) ∧ True ∧ true = true) ∧ (pz n x ++ ints { data := { toList := [0] } }).length - 1 ≤ zc n ∧ zc n - ((pz n x ++ ints { data := { toList := [0] } }).length - 1) < zc n - x
 | false => True ∧ True ∧ True ∧ True ∧ True ∧ (((AV.d (D.val (.int .i64 0)) = AV.d (D.val (.int .i64 (↑(Int.toNat (0 : Int)) : Int))) ∧ AV.d (D.val (.int .u64 (IntKind.u64.wrap ((↑n : Int) * (8 : Int))))) = AV.d (D.val (.int .u64 (↑(8 * n % 18446744073709551616 / 1) : Int))) ∧ AV.d (D.str (ints { data := { toList := [] } })) = AV.d (D.str (tl (8 * n % 18446744073709551616) (Int.toNat (0 : Int)))) ∧ True) ∧ True ∧ true = true) ∧ Int.toNat (0 : Int) ≤ 8) ∧ ∀ (x_1 : Nat), x_1 ≤ 8 → true = true ∧ True ∧ match decide ((↑x_1 : Int) < (8 : Int)) with
  | true => True ∧ (256 : Int) ≠ 0 ∧ True ∧ (1 = 1 ∧ 1 ≤ 4096) ∧ isBytes [IntKind.u8.wrap ((↑(8 * n % 18446744073709551616 / 256 ^ x_1) : Int).tmod (256 : Int))] ∧ True ∧ (↑(1 + (tl (8 * n % 18446744073709551616) x_1).length) : Int) ≤ (9223372036854775807 : Int) ∧ True ∧ True ∧ (256 : Int) ≠ 0 ∧ True ∧ True ∧ True ∧ ((AV.d (D.val (.int .i64 (IntKind.i64.wrap ((↑x_1 : Int) + (1 : Int))))) = AV.d (D.val (.int .i64 (↑(IntKind.i64.wrap ((↑x_1 : Int) + (1 : Int))).toNat : Int))) ∧ AV.d (D.val (.int .u64 (IntKind.u64.wrap ((↑(8 * n % 18446744073709551616 / 256 ^ x_1) : Int).tdiv (256 : Int))))) = AV.d (D.val (.int .u64 (↑(8 * n % 18446744073709551616 / 256 ^ (IntKind.i64.wrap ((↑x_1 : Int) + (1 : Int))).toNat) : Int))) ∧ AV.d (D.str (IntKind.u8.wrap ((↑(8 * n % 18446744073709551616 / 256 ^ x_1) : Int).tmod (256 : Int)) :: tl (8 * n % 18446744073709551616) x_1)) = AV.d (D.str (tl (8 * n % 18446744073709551616) (IntKind.i64.wrap ((↑x_1 : Int) + (1 : Int))).toNat)) ∧ True) ∧ True ∧ true = true) ∧ (IntKind.i64.wrap ((↑x_1 : Int) + (1 : Int))).toNat ≤ 8 ∧ 8 - (IntKind.i64.wrap ((↑x_1 : Int) + (1 : Int))).toNat < 8 - x_1
  | false => True ∧ True ∧ (↑((pz n x).length + (tl (8 * n % 18446744073709551616) x_1).length) : Int) ≤ (9223372036854775807 : Int) ∧ True ∧ (false = false ∧ True) ∧ D.str (pz n x ++ tl (8 * n % 18446744073709551616) x_1) = F) := by kernel_rfl
end Go.Proofs.YtkicjckhkefnpaaDoor
namespace Go.Proofs.YtkicjckhkefnpaaDoor
open Go Go.Vg
theorem prL_mk (x : R8) (l : List Int) : prL [(x.a.toNat : Int), (x.b.toNat : Int), (x.c.toNat : Int), (x.d.toNat : Int), (x.e.toNat : Int), (x.f.toNat : Int), (x.g.toNat : Int), (x.h.toNat : Int)] l =
  [((pr x l).a.toNat : Int), ((pr x l).b.toNat : Int), ((pr x l).c.toNat : Int), ((pr x l).d.toNat : Int), ((pr x l).e.toNat : Int), ((pr x l).f.toNat : Int), ((pr x l).g.toNat : Int), ((pr x l).h.toNat : Int)] := by
 show prL x.l l = (pr x l).l
 unfold prL
 rw [ofR_l]
theorem bytes_set {l : List Int} (h : isBytes l) {b : Int} (hb : 0 ≤ b ∧ b < 256) (i : Nat) : isBytes (l.set i b) := by
 intro x hx
 rcases List.mem_or_eq_of_mem_set hx with h1 | rfl
 ·exact h x h1
 ·exact hb
theorem stp_ok {s : HS} (h : okS s) {b : Int} (hb : 0 ≤ b ∧ b < 256) : okS (stp s b) := by
 unfold stp
 obtain ⟨h1, h2, h3⟩ := h
 have : (s.n + 1) % 18446744073709551616 < 18446744073709551616 := Nat.mod_lt _ (by decide)
 simp only
 split
 ·exact ⟨by simp [h1], bytes_set h2 hb _, this⟩
 ·exact ⟨by simp [h1], bytes_set h2 hb _, this⟩
theorem wr_ok : ∀ (p : List Int) {s : HS}, okS s → isBytes p → okS (wrS s p)
 | [], _, h, _ => h
 | b :: p, s, h, hp => by
  show okS (wrS (stp s b) p)
  exact wr_ok p (stp_ok h (hp b (by simp))) fun x hx => hp x (by simp [hx])
theorem wr_app (s : HS) (p q : List Int) : wrS s (p ++ q) = wrS (wrS s p) q := List.foldl_append
theorem take_snoc {p : List Int} {i : Nat} (h : i < p.length) : p.take (i + 1) = p.take i ++ [p.getD i 0] := by
 rw [List.take_add_one, List.getElem?_eq_getElem h, List.getD_eq_getElem?_getD, List.getElem?_eq_getElem h]
 rfl
theorem wr_snoc (s : HS) {p : List Int} {i : Nat} (h : i < p.length) : wrS s (p.take (i + 1)) = stp (wrS s (p.take i)) (p.getD i 0) := by
 rw [take_snoc h, wr_app]
 rfl
theorem bytes_take {l : List Int} (h : isBytes l) (n : Nat) : isBytes (l.take n) := fun x hx => h x (List.mem_of_mem_take hx)
theorem ofS_eq (s : HS) : ofS (stD s) = s := by
 show HS.mk (ofR s.h.l) ((s.n : Int)).toNat s.l = s
 rw [ofR_l, Int.toNat_natCast]
set_option maxRecDepth 100000 in
theorem m76 : Meets Tryd.prog 76 sp76 := by
 refine meets_of_owed (C := c76) ⟨tab_ok, lkS_ok ⟨m117, trivial⟩⟩ (by kernel_rfl) (by kernel_rfl : Tryd.prog.funcs[76]? = some Tryd.f76) (by kernel_rfl) (by kernel_rfl) (by kernel_rfl) _ ?_
 rintro _ ⟨s, p, rfl, hs, hp, hl⟩
 refine ⟨fun _ => rfl, inv76 s p, ?_⟩
 show owed c76 (inv76 s p) Tryd.f76 [stD s, .ints .u8 p] (stD (wrS (ofS (stD s)) p))
 rw [vc76, ofS_eq]
 have h0 : wrS s (List.take (Int.toNat 0) p) = s := rfl
 rw [h0]
 simp (decide := true) only [eq_self, true_and, and_true, ne_eq, not_false_eq_true]
 refine ⟨⟨rfl, Nat.zero_le _⟩, fun x hx => ?_⟩
 have hy := wr_ok (p.take x) hs (bytes_take hp x)
 split
 ·rename_i h
  have h : x < p.length := by have := of_decide_eq_true h; omega
  have es := wr_snoc s h
  have ew : IntKind.i64.wrap ((x : Int) + 1) = ((x + 1 : Nat) : Int) := by rw [wi (by omega) (by omega)]; omega
  obtain ⟨b, eb, hb⟩ := byte_at hp h
  rw [ew]
  simp only [Int.toNat_natCast, es, eb]
  generalize wrS s (p.take x) = y at *
  obtain ⟨y1, y2, y3⟩ := hy
  have em : ((y.n : Nat) : Int).tmod 64 = ((y.n % 64 : Nat) : Int) := tmodN _ 64
  have en : IntKind.u64.wrap ((y.n : Int) + 1) = (((y.n + 1) % 18446744073709551616 : Nat) : Int) := by rw [w64]; omega
  have em2 : (((y.n + 1) % 18446744073709551616 : Nat) : Int).tmod 64 = (((y.n + 1) % 18446744073709551616 % 64 : Nat) : Int) := tmodN _ 64
  rw [em, en, em2, Int.toNat_natCast]
  have hlt : y.n % 64 < 64 := Nat.mod_lt _ (by decide)
  unfold stp
  simp only
  split
  ·rename_i h2
   have h2 : (y.n + 1) % 18446744073709551616 % 64 = 0 := by have := eq_of_beq h2; omega
   rw [if_pos h2]
   refine ⟨by omega, by omega, by omega, ⟨_, _, rfl, bytes_set y2 (by omega) _, by simp [y1]⟩, ?_⟩
   rw [prL_mk]
   and_intros <;> first | trivial | rfl | omega
  ·rename_i h2
   have h2 : ¬ (y.n + 1) % 18446744073709551616 % 64 = 0 := fun h3 => by rw [h3] at h2; cases h2
   rw [if_neg h2]
   and_intros <;> first | trivial | rfl | omega
 ·rename_i h
  have h := of_decide_eq_false h
  rw [List.take_of_length_le (by omega)]
  rfl
theorem pz_len (n i : Nat) : (pz n i).length = i + 1 := by simp [pz]
theorem pz_succ (n i : Nat) : pz n i ++ [0] = pz n (i + 1) := by
 unfold pz
 rw [List.replicate_succ', List.cons_append]
theorem pz_end (n : Nat) : pz n (zc n) = pt n 0 := by unfold pz pt; simp
theorem zc_lt (n : Nat) : zc n < 64 := Nat.mod_lt _ (by decide)
theorem tl_len (b : Nat) : ∀ k, (tl b k).length = k
 | 0 => rfl
 | k + 1 => by rw [tl, List.length_cons, tl_len b k]
theorem tl_get (b : Nat) : ∀ k i, i < k → (tl b k).getD i 0 = ((b / 256 ^ (k - 1 - i) % 256 : Nat) : Int)
 | 0, _, h => by omega
 | k + 1, 0, _ => rfl
 | k + 1, i + 1, h => by
  rw [tl, List.getD_cons_succ, tl_get b k i (by omega), show k + 1 - 1 - (i + 1) = k - 1 - i by omega]
theorem pt_succ (n : Nat) {i : Nat} (h : i < 8) : pt n (i + 1) = pt n i ++ [((8 * n % 18446744073709551616 / 256 ^ (7 - i) % 256 : Nat) : Int)] := by
 unfold pt
 rw [take_snoc (by rw [tl_len]; exact h), tl_get _ 8 i h, show 8 - 1 - i = 7 - i by omega]
 simp
theorem pt_end (n : Nat) : pt n 8 = padL n := by
 unfold pt padL
 rw [List.take_of_length_le (by rw [tl_len]; exact Nat.le_refl _)]
theorem pt_len (n : Nat) {i : Nat} (h : i ≤ 8) : (pt n i).length ≤ 100 := by
 unfold pt
 have := zc_lt n
 simp
 omega
set_option maxRecDepth 100000 in
theorem m118 : Meets Tryd.prog 118 sp118 := by
 refine meets_of_owed (C := c118) ⟨tab_ok, fun f s h => by cases h⟩ (by kernel_rfl) (by kernel_rfl : Tryd.prog.funcs[118]? = some Tryd.f118) (by kernel_rfl) (by kernel_rfl) (by kernel_rfl) _ ?_
 rintro _ ⟨n, rfl, hn⟩
 refine ⟨(fun h => by cases h), inv118 n, ?_⟩
 show owed c118 (inv118 n) Tryd.f118 [.val (.int .u64 (n : Int))] (.ints .u8 (padL ((n : Int)).toNat))
 rw [vc118, Int.toNat_natCast]
 simp (decide := true) only [eq_self, true_and, and_true, ne_eq, not_false_eq_true, Nat.sub_self, pz_len]
 refine ⟨⟨rfl, Nat.zero_le _⟩, fun x hx => ?_⟩
 have hz := zc_lt n
 have e1 : IntKind.u64.wrap ((n : Int) + IntKind.u64.wrap ((x + 1 : Nat) : Int)) = (((n + x + 1) % 18446744073709551616 : Nat) : Int) := by
  rw [w64, w64]; omega
 have e2 : (((n + x + 1) % 18446744073709551616 : Nat) : Int).tmod 64 = (((n + x + 1) % 18446744073709551616 % 64 : Nat) : Int) := tmodN _ 64
 rw [e1, e2]
 have ez : zc n = (119 - n % 64) % 64 := rfl
 split
 ·rename_i h
  have h : (n + x + 1) % 18446744073709551616 % 64 ≠ 56 := by
   intro h3
   rw [h3] at h
   cases h
  rw [pz_succ, pz_len, Nat.add_sub_cancel]
  and_intros <;> first | rfl | omega
 ·rename_i h
  have h : (n + x + 1) % 18446744073709551616 % 64 = 56 := by
   have h3 := bne_eq_false_iff_eq.1 h
   omega
  obtain rfl : x = zc n := by omega
  rw [pz_end]
  refine ⟨⟨rfl, rfl⟩, fun i hi => ?_⟩
  split
  ·rename_i h4
   have h4 : i < 8 := by have := of_decide_eq_true h4; omega
   have ew : IntKind.i64.wrap ((i : Int) + 1) = ((i + 1 : Nat) : Int) := by rw [wi (by omega) (by omega)]; omega
   have e8 : IntKind.i64.wrap (8 * (i : Int)) = ((8 * i : Nat) : Int) := by rw [wi (by omega) (by omega)]; omega
   have e56 : IntKind.u64.wrap (IntKind.i64.wrap (56 - ((8 * i : Nat) : Int))) = ((8 * (7 - i) : Nat) : Int) := by
    rw [wi (by omega) (by omega), w64]; omega
   have en : IntKind.u64.wrap (8 * (n : Int)) = ((8 * n % 18446744073709551616 : Nat) : Int) := by rw [w64]; omega
   rw [ew, e8, e56, en, ishrN .u64 (show _ ≤ 64 by omega), wN8, Nat.pow_mul, show (2 : Nat) ^ 8 = 256 from rfl, ← pt_succ n h4, Int.toNat_natCast]
   have := pt_len n (i := i + 1) (by omega)
   and_intros <;> first | rfl | omega
  ·rename_i h4
   obtain rfl : i = 8 := by have := of_decide_eq_false h4; omega
   rw [pt_end]
set_option maxRecDepth 100000 in
theorem m127 : Meets Tryd.prog 127 sp127 := by
 refine meets_of_owed (C := c0) ⟨tab_ok, fun f s h => by cases h⟩ (by kernel_rfl) (by kernel_rfl : Tryd.prog.funcs[127]? = some Tryd.f127) (by kernel_rfl) (by kernel_rfl) (by kernel_rfl) _ ?_
 rintro _ ⟨n, rfl, hn⟩
 refine ⟨fun _ => rfl, inv127 n, ?_⟩
 show owed c0 (inv127 n) Tryd.f127 [.val (.int .u64 (n : Int))] (.str (padL ((n : Int)).toNat))
 rw [vc127, Int.toNat_natCast]
 have i0 : ints { data := { toList := [(0 : UInt8)] } } = [0] := rfl
 have i128 : ints { data := { toList := [(128 : UInt8)] } } = [128] := rfl
 have ie : ints { data := { toList := [] } } = [] := rfl
 rw [i0, i128, ie]
 simp (decide := true) only [eq_self, true_and, and_true, ne_eq, not_false_eq_true, Nat.sub_self, pz_len, List.length_cons, List.length_nil]
 refine ⟨⟨rfl, Nat.zero_le _⟩, fun x hx => ?_⟩
 have hz := zc_lt n
 have ez : zc n = (119 - n % 64) % 64 := rfl
 have e0 : ((n : Nat) : Int).tmod 64 = ((n % 64 : Nat) : Int) := tmodN _ 64
 have e1 : IntKind.u64.wrap (IntKind.u64.wrap (((n % 64 : Nat) : Int) + IntKind.u64.wrap ((x + 1 : Nat) : Int)) + 8) = ((n % 64 + x + 9 : Nat) : Int) := by
  rw [w64, w64, w64]; omega
 have e2 : ((n % 64 + x + 9 : Nat) : Int).tmod 64 = (((n % 64 + x + 9) % 64 : Nat) : Int) := tmodN _ 64
 rw [e0, e1, e2]
 split
 ·rename_i h
  have h : (n % 64 + x + 9) % 64 ≠ 0 := by
   intro h3
   rw [h3] at h
   cases h
  rw [pz_succ, pz_len, Nat.add_sub_cancel]
  and_intros <;> first | rfl | omega
 ·rename_i h
  have h : (n % 64 + x + 9) % 64 = 0 := by
   have h3 := bne_eq_false_iff_eq.1 h
   omega
  obtain rfl : x = zc n := by omega
  have en : IntKind.u64.wrap ((n : Int) * 8) = ((8 * n % 18446744073709551616 : Nat) : Int) := by rw [w64]; omega
  rw [en]
  refine ⟨⟨rfl, by rw [Nat.div_one], rfl⟩, fun i hi => ?_⟩
  have hb2 : 8 * n % 18446744073709551616 < 18446744073709551616 := Nat.mod_lt _ (by decide)
  generalize hb : 8 * n % 18446744073709551616 = b at *
  split
  ·rename_i h4
   have h4 : i < 8 := by have := of_decide_eq_true h4; omega
   have ew : IntKind.i64.wrap ((i : Int) + 1) = ((i + 1 : Nat) : Int) := by rw [wi (by omega) (by omega)]; omega
   have q1 : ((b / 256 ^ i : Nat) : Int).tmod 256 = ((b / 256 ^ i % 256 : Nat) : Int) := tmodN _ 256
   have q2 : ((b / 256 ^ i : Nat) : Int).tdiv 256 = ((b / 256 ^ i / 256 : Nat) : Int) := tdivN _ 256
   have q3 : b / 256 ^ (i + 1) = b / 256 ^ i / 256 := by rw [Nat.pow_succ, Nat.div_div_eq_div_mul]
   have q4 : b / 256 ^ i ≤ b := Nat.div_le_self _ _
   have ht : tl b (i + 1) = ((b / 256 ^ i % 256 : Nat) : Int) :: tl b i := rfl
   have q5 : IntKind.u8.wrap ((b / 256 ^ i % 256 : Nat) : Int) = ((b / 256 ^ i % 256 : Nat) : Int) := by rw [w8]; omega
   have q6 : IntKind.u64.wrap ((b / 256 ^ i / 256 : Nat) : Int) = ((b / 256 ^ i / 256 : Nat) : Int) := wrapN .u64 (show _ < 18446744073709551616 from Nat.lt_of_le_of_lt (Nat.le_trans (Nat.div_le_self _ _) q4) hb2)
   rw [ew, q1, q2, q5, q6, Int.toNat_natCast, q3, ht, tl_len]
   refine ⟨?_, by omega, ⟨rfl, rfl, rfl⟩, by omega, by omega⟩
   intro y hy
   rw [List.mem_singleton] at hy
   omega
  ·rename_i h4
   obtain rfl : i = 8 := by have := of_decide_eq_false h4; omega
   rw [tl_len]
   refine ⟨by omega, ?_⟩
   unfold padL pz
   rw [hb]
   rfl
end Go.Proofs.YtkicjckhkefnpaaDoor
