/- The types, as the steps ask of them; checked against the program by the kernel. Written by a program of this session. -/
import Derived.Test.YtpkcmjfmoemekaaZb7
import Derived.Test.YtpkcmjfmoemekaaProg
import Derived.KernelRfl
import Derived.Test.YtpkcmjfmoemekaaZb9
namespace Go.Proofs.Ytpkcmjfmoemekaa
open Go Go.Vg
def tab : Tab := [
 ⟨.other, 0, 0, .val (.bool false), false⟩,
 ⟨.other, 1, 8, .val .nilFunc, false⟩,
 ⟨.int .i64, 1, 8, .val (.int .i64 0), false⟩,
 ⟨.int .i64, 1, 8, .val (.int .i64 0), false⟩,
 ⟨.bool, 1, 1, .val (.bool false), false⟩,
 ⟨.int .u8, 1, 1, .val (.int .u8 0), false⟩,
 ⟨.int .u8, 1, 1, .val (.int .u8 0), false⟩,
 ⟨.st [(0, 2), (1, 3), (2, 4), (3, 6)], 4, 24, .st [.val (.int .i64 0), .val (.int .i64 0), .val (.bool false), .val (.int .u8 0)], true⟩,
 ⟨.st [(0, 2), (1, 3), (2, 4), (3, 6)], 4, 24, .st [.val (.int .i64 0), .val (.int .i64 0), .val (.bool false), .val (.int .u8 0)], true⟩,
 ⟨.str, 1, 16, .str [], false⟩,
 ⟨.str, 1, 16, .str [], false⟩,
 ⟨.str, 1, 16, .str [], false⟩,
 ⟨.int .u64, 1, 8, .val (.int .u64 0), false⟩,
 ⟨.st [(0, 9), (1, 12)], 2, 24, .st [.str [], .val (.int .u64 0)], false⟩,
 ⟨.st [(0, 9), (1, 12)], 2, 24, .st [.str [], .val (.int .u64 0)], false⟩,
 ⟨.ptr 85, 1, 8, .val (.pointer none), false⟩,
 ⟨.ptr 88, 1, 8, .val (.pointer none), false⟩,
 ⟨.ptr 98, 1, 8, .val (.pointer none), false⟩,
 ⟨.st [(0, 17)], 1, 8, .st [.val (.pointer none)], false⟩,
 ⟨.st [(0, 17)], 1, 8, .st [.val (.pointer none)], false⟩,
 ⟨.other, 1, 16, .val .nilIface, false⟩,
 ⟨.int .i32, 1, 4, .val (.int .i32 0), false⟩,
 ⟨.int .u64, 1, 8, .val (.int .u64 0), false⟩,
 ⟨.arr 4 22, 4, 32, .arr .u64 4 (List.replicate 4 0), false⟩,
 ⟨.arr 4 22, 4, 32, .arr .u64 4 (List.replicate 4 0), false⟩,
 ⟨.st [(0, 24), (4, 24)], 8, 64, .st [.arr .u64 4 (List.replicate 4 0), .arr .u64 4 (List.replicate 4 0)], true⟩,
 ⟨.st [(0, 24), (4, 24)], 8, 64, .st [.arr .u64 4 (List.replicate 4 0), .arr .u64 4 (List.replicate 4 0)], true⟩,
 ⟨.int .i64, 1, 8, .val (.int .i64 0), false⟩,
 ⟨.other, 0, 0, .val (.bool false), false⟩,
 ⟨.other, 1, 8, .val .nilFunc, false⟩,
 ⟨.other, 1, 8, .val .nilFunc, false⟩,
 ⟨.arr 16 3, 16, 128, .arr .i64 16 (List.replicate 16 0), false⟩,
 ⟨.arr 16 3, 16, 128, .arr .i64 16 (List.replicate 16 0), false⟩,
 ⟨.st [(0, 32), (16, 32), (32, 32)], 48, 384, .st [.arr .i64 16 (List.replicate 16 0), .arr .i64 16 (List.replicate 16 0), .arr .i64 16 (List.replicate 16 0)], true⟩,
 ⟨.st [(0, 32), (16, 32), (32, 32)], 48, 384, .st [.arr .i64 16 (List.replicate 16 0), .arr .i64 16 (List.replicate 16 0), .arr .i64 16 (List.replicate 16 0)], true⟩,
 ⟨.other, 1, 8, .val .nilFunc, false⟩,
 ⟨.other, 1, 8, .val .nilFunc, false⟩,
 ⟨.slice 3, 1, 24, .ints .i64 [], false⟩,
 ⟨.other, 1, 8, .val .nilFunc, false⟩,
 ⟨.other, 1, 8, .val .nilFunc, false⟩,
 ⟨.other, 1, 8, .val .nilFunc, false⟩,
 ⟨.st [(0, 24), (4, 24), (8, 24), (12, 24)], 16, 128, .st [.arr .u64 4 (List.replicate 4 0), .arr .u64 4 (List.replicate 4 0), .arr .u64 4 (List.replicate 4 0), .arr .u64 4 (List.replicate 4 0)], true⟩,
 ⟨.st [(0, 24), (4, 24), (8, 24), (12, 24)], 16, 128, .st [.arr .u64 4 (List.replicate 4 0), .arr .u64 4 (List.replicate 4 0), .arr .u64 4 (List.replicate 4 0), .arr .u64 4 (List.replicate 4 0)], true⟩,
 ⟨.other, 1, 8, .val .nilFunc, false⟩,
 ⟨.other, 1, 8, .val .nilFunc, false⟩,
 ⟨.other, 1, 8, .val .nilFunc, false⟩,
 ⟨.other, 1, 8, .val .nilFunc, false⟩,
 ⟨.other, 1, 8, .val .nilFunc, false⟩,
 ⟨.other, 1, 8, .val .nilFunc, false⟩,
 ⟨.other, 1, 8, .val .nilFunc, false⟩,
 ⟨.other, 1, 8, .val .nilFunc, false⟩,
 ⟨.other, 1, 8, .val .nilFunc, false⟩,
 ⟨.other, 1, 8, .val .nilFunc, false⟩,
 ⟨.other, 1, 8, .val .nilFunc, false⟩,
 ⟨.other, 1, 8, .val .nilFunc, false⟩,
 ⟨.other, 1, 8, .val .nilFunc, false⟩,
 ⟨.other, 1, 8, .val .nilFunc, false⟩,
 ⟨.other, 1, 8, .val .nilFunc, false⟩,
 ⟨.int .u64, 1, 8, .val (.int .u64 0), false⟩,
 ⟨.other, 1, 8, .val .nilFunc, false⟩,
 ⟨.other, 1, 8, .val .nilFunc, false⟩,
 ⟨.other, 1, 8, .val .nilFunc, false⟩,
 ⟨.other, 1, 8, .val .nilFunc, false⟩,
 ⟨.arr 32 3, 32, 256, .arr .i64 32 (List.replicate 32 0), false⟩,
 ⟨.arr 17 3, 17, 136, .arr .i64 17 (List.replicate 17 0), false⟩,
 ⟨.other, 1, 8, .val .nilFunc, false⟩,
 ⟨.other, 1, 8, .val .nilFunc, false⟩,
 ⟨.slice 22, 1, 24, .ints .u64 [], false⟩,
 ⟨.other, 1, 8, .val .nilFunc, false⟩,
 ⟨.other, 0, 0, .val (.bool false), false⟩,
 ⟨.other, 1, 8, .val .nilFunc, false⟩,
 ⟨.arr 8 22, 8, 64, .arr .u64 8 (List.replicate 8 0), false⟩,
 ⟨.arr 8 22, 8, 64, .arr .u64 8 (List.replicate 8 0), false⟩,
 ⟨.other, 1, 8, .val .nilFunc, false⟩,
 ⟨.other, 0, 0, .val (.bool false), false⟩,
 ⟨.other, 1, 8, .val .nilFunc, false⟩,
 ⟨.other, 1, 8, .val .nilFunc, false⟩,
 ⟨.other, 0, 0, .val (.bool false), false⟩,
 ⟨.other, 1, 8, .val .nilFunc, false⟩,
 ⟨.other, 1, 8, .val .nilFunc, false⟩,
 ⟨.other, 1, 8, .val .nilFunc, false⟩,
 ⟨.other, 1, 8, .val .nilFunc, false⟩,
 ⟨.other, 1, 8, .val .nilFunc, false⟩,
 ⟨.other, 1, 8, .val .nilFunc, false⟩,
 ⟨.st [(0, 17), (1, 17), (2, 17), (3, 9)], 4, 40, .st [.val (.pointer none), .val (.pointer none), .val (.pointer none), .str []], false⟩,
 ⟨.st [(0, 17), (1, 17), (2, 17), (3, 9)], 4, 40, .st [.val (.pointer none), .val (.pointer none), .val (.pointer none), .str []], false⟩,
 ⟨.other, 0, 0, .val (.bool false), false⟩,
 ⟨.other, 0, 0, .val (.bool false), false⟩,
 ⟨.other, 0, 0, .val (.bool false), false⟩,
 ⟨.other, 1, 8, .val .nilFunc, false⟩,
 ⟨.int .u32, 1, 4, .val (.int .u32 0), false⟩,
 ⟨.int .u8, 1, 1, .val (.int .u8 0), false⟩,
 ⟨.int .u8, 1, 1, .val (.int .u8 0), false⟩,
 ⟨.other, 1, 8, .val .nilFunc, false⟩,
 ⟨.ptr 5, 1, 8, .val (.pointer none), false⟩,
 ⟨.int .i32, 1, 4, .val (.int .i32 0), false⟩,
 ⟨.int .i32, 1, 4, .val (.int .i32 0), false⟩,
 ⟨.st [(0, 12), (1, 12), (2, 90), (3, 91), (4, 5), (5, 5), (6, 92), (7, 93), (8, 94), (9, 95), (10, 96)], 11, 48, .st [.val (.int .u64 0), .val (.int .u64 0), .val (.int .u32 0), .val (.int .u8 0), .val (.int .u8 0), .val (.int .u8 0), .val (.int .u8 0), .val .nilFunc, .val (.pointer none), .val (.int .i32 0), .val (.int .i32 0)], false⟩,
 ⟨.st [(0, 12), (1, 12), (2, 90), (3, 91), (4, 5), (5, 5), (6, 92), (7, 93), (8, 94), (9, 95), (10, 96)], 11, 48, .st [.val (.int .u64 0), .val (.int .u64 0), .val (.int .u32 0), .val (.int .u8 0), .val (.int .u8 0), .val (.int .u8 0), .val (.int .u8 0), .val .nilFunc, .val (.pointer none), .val (.int .i32 0), .val (.int .i32 0)], false⟩,
 ⟨.other, 1, 8, .val .nilFunc, false⟩,
 ⟨.other, 0, 0, .val (.bool false), false⟩]
theorem tab_ok : TabOk Try.prog tab := tabB_ok (by kernel_rfl)
end Go.Proofs.Ytpkcmjfmoemekaa
namespace Go.Proofs.Ytpkcmjfmoemekaa
open Go Go.Vg
abbrev dgs (l : List Int) : D := .ints .i64 l
abbrev num4 (l : List Int) : D := .arr .u64 4 l
abbrev num8 (l : List Int) : D := .arr .u64 8 l
def lenOk (l : List Int) : Prop := l.length ≤ 1048576
def sp39 : Go.Vg.Spec := ⟨fun ds => ∃ l i, ds = [dgs l, i64 i] ∧ lenOk l, fun ds => i64 (dig (intsOf (ds.headD default)) (numOf (ds.getD 1 default))), true, [37, 3]⟩
def sp41 : Go.Vg.Spec := ⟨fun ds => ∃ l, ds = [dgs l] ∧ lenOk l, fun ds => dgs (trimL (intsOf (ds.headD default))), false, [37]⟩
def sp25 : Go.Vg.Spec := ⟨fun ds => ∃ l, ds = [.ints .u64 l] ∧ okw l ∧ l.length ≤ 100, fun ds => dgs (dg (vB 18446744073709551616 (intsOf (ds.headD default)))), false, [67]⟩
def sp53 : Go.Vg.Spec := ⟨fun ds => ∃ l n, ds = [dgs l, i64 n] ∧ okd l ∧ lenOk l ∧ 0 ≤ n ∧ n ≤ 100, fun ds => .ints .u64 (nB 18446744073709551616 (numOf (ds.getD 1 default)).toNat (vB 65536 (intsOf (ds.headD default)))), false, [37, 3]⟩
def c39 : Ctx := ⟨tab, fun _ => none, [], []⟩
set_option maxRecDepth 100000 in
theorem vc39  (l : List Int) (i : Int) (F : D)  :
    (owed c39 (fun _ => none) Try.f39 [dgs l, i64 i] F) = (
 True ∧ True ∧ True ∧ True ∧ match decide (i < (0 : Int)) with
 | true => True ∧ True ∧ (false = false ∧ True) ∧ D.val (.int .i64 0) = F
 | false => True ∧ True ∧ True ∧ True ∧ True ∧ match decide (i ≥ (↑l.length : Int)) with
  | true => True ∧ (false = false ∧ True) ∧ D.val (.int .i64 0) = F
  | false => True ∧ True ∧ ((0 : Int) ≤ i ∧ i < (↑l.length : Int) ∧ 1 = 1) ∧ (1 ≠ 0 ∧ 1 = 1 ∧ false = false) ∧ True ∧ (false = false ∧ True) ∧ D.val (.int .i64 (l.getD i.toNat (0 : Int))) = F) := by kernel_rfl
def inv41 : Nat → Option Inv
 | 1 => some ⟨List Int, fun l => [(0, .d (dgs l))], fun _ => [], fun s => intsOf (slotD s 0), fun s l => trimL l = trimL (intsOf (slotD s 0)) ∧ lenOk l, fun l => l.length⟩
 | _ => none
set_option maxRecDepth 100000 in
theorem vc41  (l : List Int) (F : D)  :
    (owed c39 inv41 Try.f41 [dgs l] F) = (
 True ∧ (((sm (AV.d (D.ints .i64 l)) ∧ True) ∧ True ∧ true = true) ∧ trimL l = trimL l ∧ lenOk l) ∧ ∀ (x : List Int), trimL x = trimL l ∧ lenOk x → true = true ∧ True ∧ True ∧ True ∧ True ∧ match decide ((↑x.length : Int) > (0 : Int)) with
 | true => True ∧ True ∧ True ∧ True ∧ ((0 : Int) ≤ IntKind.i64.wrap ((↑x.length : Int) - (1 : Int)) ∧ IntKind.i64.wrap ((↑x.length : Int) - (1 : Int)) < (↑x.length : Int) ∧ 1 = 1) ∧ (1 ≠ 0 ∧ 1 = 1 ∧ false = false) ∧ True ∧ True ∧ match x.getD (IntKind.i64.wrap ((↑x.length : Int) - (1 : Int))).toNat (0 : Int) == (0 : Int) with
  | true => True ∧ True ∧ True ∧ True ∧ ((0 : Int) ≤ 0 ∧ (0 : Int) ≤ IntKind.i64.wrap ((↑x.length : Int) - (1 : Int)) ∧ IntKind.i64.wrap ((↑x.length : Int) - (1 : Int)) ≤ (↑x.length : Int) ∧ 1 = 1) ∧ True ∧ ((sm (AV.d (D.ints .i64 (List.drop 0 (List.take (IntKind.i64.wrap ((↑x.length : Int) - (1 : Int))).toNat x)))) ∧ True) ∧ True ∧ true = true) ∧ (trimL (List.drop 0 (List.take (IntKind.i64.wrap ((↑x.length : Int) - (1 : Int))).toNat x)) = trimL l ∧ lenOk (List.drop 0 (List.take (IntKind.i64.wrap ((↑x.length : Int) - (1 : Int))).toNat x))) ∧ (List.drop 0 (List.take (IntKind.i64.wrap ((↑x.length : Int) - (1 : Int))).toNat x)).length < x.length
  | false => True ∧ True ∧ (false = false ∧ True) ∧ D.ints .i64 x = F
 | false => True ∧ True ∧ True ∧ (false = false ∧ True) ∧ D.ints .i64 x = F) := by kernel_rfl
def c25 : Ctx := ⟨tab, lkS [(41, sp41)], [3], [25]⟩
def inv25 (l : List Int) : Nat → Option Inv
 | 3 => some ⟨Int, fun i => [(8, .d (i64 i)), (3, .row 3)], fun i => [(3, .row 3 (dgs (outW (l.take i.toNat))))], fun s => slotN s 8, fun _ i => 0 ≤ i ∧ i ≤ l.length, fun i => (l.length - i).toNat⟩
 | 6 => some ⟨Int × Int × List Int, fun x => [(12, .d (i64 x.1)), (5, .d (u64 x.2.1)), (3, .row 3)], fun x => [(3, .row 3 (dgs x.2.2))], fun s => (slotN s 12, slotN s 5, rowD s 3),
   fun s x => (0 ≤ x.1 ∧ x.1 ≤ 4) ∧ x.2.1 = (((slotN s 5).toNat / 65536 ^ x.1.toNat : Nat) : Int) ∧ x.2.2 = rowD s 3 ++ nB 65536 x.1.toNat (slotN s 5).toNat, fun x => (4 - x.1).toNat⟩
 | _ => none
set_option maxRecDepth 100000 in
theorem vc25  (l : List Int) (F : D)  :
    (owed c25 (inv25 l) Try.f25 [.ints .u64 l] F) = (
 True ∧ 1 ≠ 0 ∧ True ∧ True ∧ True ∧ (((sm (AV.d (D.val (.int .i64 0))) ∧ sm (AV.row 3) ∧ True) ∧ (some (Blk.row (3 : TypeId) (D.ints .i64 [])) = some (Blk.row (3 : TypeId) (D.ints .i64 (outW (List.take 0 l)))) ∧ True) ∧ true = true) ∧ (0 : Int) ≤ 0 ∧ (0 : Int) ≤ (↑l.length : Int)) ∧ ∀ (x : Int), (0 : Int) ≤ x ∧ x ≤ (↑l.length : Int) → true = true ∧ True ∧ match decide (x < (↑l.length : Int)) with
 | true => ((0 : Int) ≤ x ∧ x < (↑l.length : Int) ∧ 1 = 1) ∧ (1 ≠ 0 ∧ 1 = 1 ∧ false = false) ∧ True ∧ True ∧ (((sm (AV.d (D.val (.int .i64 0))) ∧ sm (AV.d (D.val (.int .u64 (l.getD x.toNat (0 : Int))))) ∧ sm (AV.row 3) ∧ True) ∧ (sm (some (Blk.row (3 : TypeId) (D.ints .i64 (outW (List.take x.toNat l))))) ∧ True) ∧ true = true) ∧ ((0 : Int) ≤ 0 ∧ (0 : Int) ≤ 4) ∧ l.getD x.toNat (0 : Int) = (↑((l.getD x.toNat (0 : Int)).toNat / 1) : Int) ∧ outW (List.take x.toNat l) = outW (List.take x.toNat l) ++ nB 65536 0 (l.getD x.toNat (0 : Int)).toNat) ∧ ∀ (x_1 : Int × Int × List Int), ((0 : Int) ≤ x_1.fst ∧ x_1.fst ≤ (4 : Int)) ∧ x_1.snd.fst = (↑((l.getD x.toNat (0 : Int)).toNat / 65536 ^ x_1.fst.toNat) : Int) ∧ x_1.snd.snd = outW (List.take x.toNat l) ++ nB 65536 x_1.fst.toNat (l.getD x.toNat (0 : Int)).toNat → true = true ∧ True ∧ match decide (x_1.fst < (4 : Int)) with
  | true => True ∧ True ∧ (65536 : Int) ≠ 0 ∧ True ∧ (1 = 1 ∧ 1 ≤ 4096) ∧ ((3 : TypeId) = (3 : TypeId) ∧ 37 = 37 ∧ true = true ∧ (x_1.snd.snd ++ [IntKind.i64.wrap (x_1.snd.fst.tmod (65536 : Int))]).length ≤ 140737488355328 ∧ (x_1.snd.snd ++ [IntKind.i64.wrap (x_1.snd.fst.tmod (65536 : Int))]).length * 8 ≤ 140737488355328 ∧ 1 ≠ 0 ∧ 1 = 1) ∧ True ∧ True ∧ (65536 : Int) ≠ 0 ∧ True ∧ True ∧ True ∧ ((sm (AV.d (D.val (.int .i64 (IntKind.i64.wrap (x_1.fst + (1 : Int)))))) ∧ sm (AV.d (D.val (.int .u64 (IntKind.u64.wrap (x_1.snd.fst.tdiv (65536 : Int)))))) ∧ sm (AV.row 3) ∧ True) ∧ (sm (some (Blk.row (3 : TypeId) (D.ints .i64 (x_1.snd.snd ++ [IntKind.i64.wrap (x_1.snd.fst.tmod (65536 : Int))])))) ∧ True) ∧ true = true) ∧ (((0 : Int) ≤ IntKind.i64.wrap (x_1.fst + (1 : Int)) ∧ IntKind.i64.wrap (x_1.fst + (1 : Int)) ≤ (4 : Int)) ∧ IntKind.u64.wrap (x_1.snd.fst.tdiv (65536 : Int)) = (↑((l.getD x.toNat (0 : Int)).toNat / 65536 ^ (IntKind.i64.wrap (x_1.fst + (1 : Int))).toNat) : Int) ∧ x_1.snd.snd ++ [IntKind.i64.wrap (x_1.snd.fst.tmod (65536 : Int))] = outW (List.take x.toNat l) ++ nB 65536 (IntKind.i64.wrap (x_1.fst + (1 : Int))).toNat (l.getD x.toNat (0 : Int)).toNat) ∧ ((4 : Int) - IntKind.i64.wrap (x_1.fst + (1 : Int))).toNat < ((4 : Int) - x_1.fst).toNat
  | false => True ∧ True ∧ ((sm (AV.d (D.val (.int .i64 (IntKind.i64.wrap (x + (1 : Int)))))) ∧ sm (AV.row 3) ∧ True) ∧ (some (Blk.row (3 : TypeId) (D.ints .i64 x_1.snd.snd)) = some (Blk.row (3 : TypeId) (D.ints .i64 (outW (List.take (IntKind.i64.wrap (x + (1 : Int))).toNat l)))) ∧ True) ∧ true = true) ∧ ((0 : Int) ≤ IntKind.i64.wrap (x + (1 : Int)) ∧ IntKind.i64.wrap (x + (1 : Int)) ≤ (↑l.length : Int)) ∧ ((↑l.length : Int) - IntKind.i64.wrap (x + (1 : Int))).toNat < ((↑l.length : Int) - x).toNat
 | false => True ∧ (∃ (l_1 : List Int), [D.ints .i64 (outW (List.take x.toNat l))] = [D.ints .i64 l_1] ∧ lenOk l_1) ∧ True ∧ (false = false ∧ True) ∧ D.ints .i64 (trimL (outW (List.take x.toNat l))) = F) := by kernel_rfl
def inv53 (l : List Int) (n : Int) : Nat → Option Inv
 | 3 => some ⟨Int, fun i => [(6, .d (i64 i))], fun i => [(8, .fix (.arr .u64 n.toNat (wl n.toNat l (i + 1).toNat)))], fun s => slotN s 6, fun _ i => -1 ≤ i ∧ i < l.length, fun i => (i + 1).toNat⟩
 | _ => none
set_option maxRecDepth 100000 in
theorem vc53  (l : List Int) (n : Int) (F : D)  :
    (owed c39 (inv53 l n) Try.f53 [dgs l, i64 n] F) = (
 True ∧ True ∧ ((0 : Int) ≤ n ∧ n = n ∧ n ≤ (281474976710656 : Int) ∧ (↑(8 : Nat) : Int) * n ≤ (281474976710656 : Int) ∧ 1 = 1) ∧ True ∧ True ∧ True ∧ True ∧ True ∧ (((sm (AV.d (D.val (.int .i64 (IntKind.i64.wrap ((↑l.length : Int) - (1 : Int)))))) ∧ True) ∧ (some (Blk.fix (D.arr .u64 n.toNat (List.replicate n.toNat (0 : Int)))) = some (Blk.fix (D.arr .u64 n.toNat (wl n.toNat l (IntKind.i64.wrap ((↑l.length : Int) - (1 : Int)) + (1 : Int)).toNat))) ∧ True) ∧ true = true) ∧ (-1 : Int) ≤ IntKind.i64.wrap ((↑l.length : Int) - (1 : Int)) ∧ IntKind.i64.wrap ((↑l.length : Int) - (1 : Int)) < (↑l.length : Int)) ∧ ∀ (x : Int), (-1 : Int) ≤ x ∧ x < (↑l.length : Int) → true = true ∧ True ∧ True ∧ match decide (x ≥ (0 : Int)) with
 | true => True ∧ True ∧ True ∧ True ∧ match decide (x < IntKind.i64.wrap ((4 : Int) * n)) with
  | true => True ∧ True ∧ (4 : Int) ≠ 0 ∧ True ∧ True ∧ (4 : Int) ≠ 0 ∧ ((0 : Int) ≤ IntKind.i64.wrap (x.tdiv (4 : Int)) ∧ IntKind.i64.wrap (x.tdiv (4 : Int)) < (↑n.toNat : Int) ∧ 1 = 1) ∧ (1 ≠ 0 ∧ 1 = 1 ∧ false = false) ∧ True ∧ True ∧ True ∧ ((0 : Int) ≤ x ∧ x < (↑l.length : Int) ∧ 1 = 1) ∧ (1 ≠ 0 ∧ 1 = 1 ∧ false = false) ∧ True ∧ True ∧ ((0 : Int) ≤ IntKind.i64.wrap (x.tdiv (4 : Int)) ∧ IntKind.i64.wrap (x.tdiv (4 : Int)) < (↑n.toNat : Int) ∧ 1 = 1) ∧ ((0 + (IntKind.i64.wrap (x.tdiv (4 : Int))).toNat < n.toNat ∧ ([] : List Nat) = [] ∧ true = true) ∧ 1 ≠ 0 ∧ 1 = 1 ∧ false = false) ∧ True ∧ True ∧ True ∧ ((sm (AV.d (D.val (.int .i64 (IntKind.i64.wrap (x - (1 : Int)))))) ∧ True) ∧ (some (Blk.fix (D.arr .u64 n.toNat ((wl n.toNat l (x + (1 : Int)).toNat).set (0 + (IntKind.i64.wrap (x.tdiv (4 : Int))).toNat) (IntKind.u64.wrap (IntKind.u64.wrap ((wl n.toNat l (x + (1 : Int)).toNat).getD (0 + (IntKind.i64.wrap (x.tdiv (4 : Int))).toNat) (0 : Int) * (65536 : Int)) + IntKind.u64.wrap (l.getD x.toNat (0 : Int))))))) = some (Blk.fix (D.arr .u64 n.toNat (wl n.toNat l (IntKind.i64.wrap (x - (1 : Int)) + (1 : Int)).toNat))) ∧ True) ∧ true = true) ∧ ((-1 : Int) ≤ IntKind.i64.wrap (x - (1 : Int)) ∧ IntKind.i64.wrap (x - (1 : Int)) < (↑l.length : Int)) ∧ (IntKind.i64.wrap (x - (1 : Int)) + (1 : Int)).toNat < (x + (1 : Int)).toNat
  | false => True ∧ True ∧ True ∧ ((sm (AV.d (D.val (.int .i64 (IntKind.i64.wrap (x - (1 : Int)))))) ∧ True) ∧ (some (Blk.fix (D.arr .u64 n.toNat (wl n.toNat l (x + (1 : Int)).toNat))) = some (Blk.fix (D.arr .u64 n.toNat (wl n.toNat l (IntKind.i64.wrap (x - (1 : Int)) + (1 : Int)).toNat))) ∧ True) ∧ true = true) ∧ ((-1 : Int) ≤ IntKind.i64.wrap (x - (1 : Int)) ∧ IntKind.i64.wrap (x - (1 : Int)) < (↑l.length : Int)) ∧ (IntKind.i64.wrap (x - (1 : Int)) + (1 : Int)).toNat < (x + (1 : Int)).toNat
 | false => True ∧ True ∧ (false = false ∧ True) ∧ D.ints .u64 (List.take n.toNat (List.drop 0 (wl n.toNat l (x + (1 : Int)).toNat))) = F) := by kernel_rfl
def sp8 : Go.Vg.Spec := ⟨fun ds => ∃ l, ds = [num4 l] ∧ okw l ∧ l.length = 4, fun ds => dgs (dg (vB 18446744073709551616 (arrOf (ds.headD default)))), false, [24]⟩
def sp37 : Go.Vg.Spec := ⟨fun ds => ∃ l, ds = [dgs l] ∧ okd l ∧ lenOk l, fun ds => num4 (nB 18446744073709551616 4 (vB 65536 (intsOf (ds.headD default)))), true, [37]⟩
def c8 : Ctx := ⟨tab, lkS [(25, sp25)], [], [12]⟩
def c37 : Ctx := ⟨tab, lkS [(53, sp53)], [], []⟩
set_option maxRecDepth 100000 in
theorem vc8  (l : List Int) (F : D)  :
    (owed c8 (fun _ => none) Try.f8 [num4 l] F) = (
 (True ∧ false = false) ∧ True ∧ ((0 : Int) ≤ 0 ∧ (0 : Int) < (↑(4 : Nat) : Int) ∧ 4 = 4 ∧ 1 = 1) ∧ (1 ≠ 0 ∧ 1 = 1 ∧ false = false) ∧ ((0 : Int) ≤ 1 ∧ (1 : Int) < (↑(4 : Nat) : Int) ∧ 4 = 4 ∧ 1 = 1) ∧ (1 ≠ 0 ∧ 1 = 1 ∧ false = false) ∧ ((0 : Int) ≤ 2 ∧ (2 : Int) < (↑(4 : Nat) : Int) ∧ 4 = 4 ∧ 1 = 1) ∧ (1 ≠ 0 ∧ 1 = 1 ∧ false = false) ∧ ((0 : Int) ≤ 3 ∧ (3 : Int) < (↑(4 : Nat) : Int) ∧ 4 = 4 ∧ 1 = 1) ∧ (1 ≠ 0 ∧ 1 = 1 ∧ false = false) ∧ (1 = 1 ∧ 4 ≤ 4096) ∧ (∃ (l_1 : List Int), [D.ints .u64 [l.getD 0 (0 : Int), l.getD 1 (0 : Int), l.getD 2 (0 : Int), l.getD 3 (0 : Int)]] = [D.ints .u64 l_1] ∧ okw l_1 ∧ l_1.length ≤ 100) ∧ True ∧ (false = false ∧ True) ∧ D.ints .i64 (dg (vB 18446744073709551616 [l.getD 0 (0 : Int), l.getD 1 (0 : Int), l.getD 2 (0 : Int), l.getD 3 (0 : Int)])) = F) := by kernel_rfl
set_option maxRecDepth 100000 in
theorem vc37  (l : List Int) (F : D)  :
    (owed c37 (fun _ => none) Try.f37 [dgs l] F) = (
 (True ∧ 4 ≠ 0) ∧ True ∧ (∃ (l_1 : List Int), ∃ (n : Int), [D.ints .i64 l, D.val (.int .i64 4)] = [D.ints .i64 l_1, D.val (Value.int IntKind.i64 n)] ∧ okd l_1 ∧ lenOk l_1 ∧ (0 : Int) ≤ n ∧ n ≤ (100 : Int)) ∧ True ∧ True ∧ ((0 : Int) ≤ 0 ∧ (0 : Int) < (↑(nB 18446744073709551616 4 (vB 65536 l)).length : Int) ∧ 1 = 1) ∧ (1 ≠ 0 ∧ 1 = 1 ∧ false = false) ∧ True ∧ ((0 : Int) ≤ 1 ∧ (1 : Int) < (↑(nB 18446744073709551616 4 (vB 65536 l)).length : Int) ∧ 1 = 1) ∧ (1 ≠ 0 ∧ 1 = 1 ∧ false = false) ∧ True ∧ ((0 : Int) ≤ 2 ∧ (2 : Int) < (↑(nB 18446744073709551616 4 (vB 65536 l)).length : Int) ∧ 1 = 1) ∧ (1 ≠ 0 ∧ 1 = 1 ∧ false = false) ∧ True ∧ ((0 : Int) ≤ 3 ∧ (3 : Int) < (↑(nB 18446744073709551616 4 (vB 65536 l)).length : Int) ∧ 1 = 1) ∧ (1 ≠ 0 ∧ 1 = 1 ∧ false = false) ∧ (1 = 1 ∧ false = false ∧ (0 < 4 ∧ ([] : List Nat) = [] ∧ true = true) ∧ false = false ∧ (1 < 4 ∧ ([] : List Nat) = [] ∧ true = true) ∧ false = false ∧ (2 < 4 ∧ ([] : List Nat) = [] ∧ true = true) ∧ false = false ∧ (3 < 4 ∧ ([] : List Nat) = [] ∧ true = true) ∧ True) ∧ (Sk.arr 4 = Sk.arr 4 ∧ 4 ≠ 0 ∧ 4 = 4 ∧ false = false) ∧ ((4 ≠ 0 ∧ 4 = 4 ∧ true = true) ∧ True) ∧ D.arr .u64 4 [(nB 18446744073709551616 4 (vB 65536 l)).getD 0 (0 : Int), (nB 18446744073709551616 4 (vB 65536 l)).getD 1 (0 : Int), (nB 18446744073709551616 4 (vB 65536 l)).getD 2 (0 : Int), (nB 18446744073709551616 4 (vB 65536 l)).getD 3 (0 : Int)] = F) := by kernel_rfl
def sp23 : Go.Vg.Spec := ⟨fun ds => ∃ l n, ds = [dgs l, i64 n] ∧ okd l ∧ lenOk l ∧ 0 ≤ n ∧ n ≤ 16777216, fun ds => dgs (nB 2 (numOf (ds.getD 1 default)).toNat (vB 65536 (intsOf (ds.headD default)))), false, [37, 3]⟩
def c23 : Ctx := ⟨tab, lkS [(39, sp39)], [], []⟩
def inv23 (l : List Int) (n : Int) : Nat → Option Inv
 | 3 => some ⟨Int, fun i => [(11, .d (i64 i))], fun i => [(8, .fix (.arr .i64 n.toNat (nB 2 i.toNat (vB 65536 l) ++ List.replicate (n - i).toNat 0)))], fun s => slotN s 11, fun _ i => 0 ≤ i ∧ i ≤ n, fun i => (n - i).toNat⟩
 | _ => none
set_option maxRecDepth 100000 in
theorem vc23  (l : List Int) (n : Int) (F : D)  :
    (owed c23 (inv23 l n) Try.f23 [dgs l, i64 n] F) = (
 True ∧ True ∧ ((0 : Int) ≤ n ∧ n = n ∧ n ≤ (281474976710656 : Int) ∧ (↑(8 : Nat) : Int) * n ≤ (281474976710656 : Int) ∧ 1 = 1) ∧ True ∧ True ∧ True ∧ True ∧ (((sm (AV.d (D.val (.int .i64 0))) ∧ True) ∧ (some (Blk.fix (D.arr .i64 n.toNat (List.replicate n.toNat (0 : Int)))) = some (Blk.fix (D.arr .i64 n.toNat (nB 2 0 (vB 65536 l) ++ List.replicate (n - (0 : Int)).toNat (0 : Int)))) ∧ True) ∧ true = true) ∧ (0 : Int) ≤ 0 ∧ (0 : Int) ≤ n) ∧ ∀ (x : Int), (0 : Int) ≤ x ∧ x ≤ n → true = true ∧ True ∧ match decide (x < (↑n.toNat : Int)) with
 | true => True ∧ True ∧ True ∧ True ∧ True ∧ True ∧ (16 : Int) ≠ 0 ∧ (∃ (l_1 : List Int), ∃ (i : Int), [D.ints .i64 l, D.val (.int .i64 (IntKind.i64.wrap (x.tdiv (16 : Int))))] = [D.ints .i64 l_1, D.val (Value.int IntKind.i64 i)] ∧ lenOk l_1) ∧ True ∧ (16 : Int) ≠ 0 ∧ (0 : Int) ≤ x.tmod (16 : Int) ∧ True ∧ ((0 : Int) ≤ x ∧ x < (↑n.toNat : Int) ∧ 1 = 1) ∧ ((0 + x.toNat < n.toNat ∧ ([] : List Nat) = [] ∧ true = true) ∧ 1 ≠ 0 ∧ 1 = 1 ∧ false = false) ∧ True ∧ True ∧ ((sm (AV.d (D.val (.int .i64 (IntKind.i64.wrap (x + (1 : Int)))))) ∧ True) ∧ (some (Blk.fix (D.arr .i64 n.toNat ((nB 2 x.toNat (vB 65536 l) ++ List.replicate (n - x).toNat (0 : Int)).set (0 + x.toNat) (iand IntKind.i64 (ishr IntKind.i64 (dig l (IntKind.i64.wrap (x.tdiv (16 : Int)))) (x.tmod (16 : Int))) (1 : Int))))) = some (Blk.fix (D.arr .i64 n.toNat (nB 2 (IntKind.i64.wrap (x + (1 : Int))).toNat (vB 65536 l) ++ List.replicate (n - IntKind.i64.wrap (x + (1 : Int))).toNat (0 : Int)))) ∧ True) ∧ true = true) ∧ ((0 : Int) ≤ IntKind.i64.wrap (x + (1 : Int)) ∧ IntKind.i64.wrap (x + (1 : Int)) ≤ n) ∧ (n - IntKind.i64.wrap (x + (1 : Int))).toNat < (n - x).toNat
 | false => True ∧ True ∧ (false = false ∧ True) ∧ D.ints .i64 (List.take n.toNat (List.drop 0 (nB 2 x.toNat (vB 65536 l) ++ List.replicate (n - x).toNat (0 : Int)))) = F) := by kernel_rfl
def lenS (l : List Int) : Prop := l.length ≤ 65536
noncomputable def dgP (n : Nat) : List Int := opq (dg (2 ^ n))
noncomputable def sp52 : Go.Vg.Spec := ⟨fun ds => ∃ n, ds = [i64 n] ∧ 0 ≤ n ∧ n ≤ 1048576, fun ds => dgs (dgP (numOf (ds.headD default)).toNat), false, [3]⟩
def sp57 : Go.Vg.Spec := ⟨fun ds => ∃ l m, ds = [dgs l, dgs m] ∧ (okd l ∧ lenS l) ∧ okd m ∧ lenS m, fun ds => dgs (dg (vB 65536 (intsOf (ds.headD default)) * vB 65536 (intsOf (ds.getD 1 default)))), false, [37, 37]⟩
def c57 : Ctx := ⟨tab, lkS [(41, sp41)], [], [65]⟩
structure TimesI (l m : List Int) (i : Nat) (out : List Int) : Prop where
 len : out.length = l.length + m.length
 ok : okd out
 zero : ∀ j, i + m.length ≤ j → out.getD j 0 = 0
 val : vB 65536 out = vB 65536 (l.take i) * vB 65536 m
structure TimesJ (l m : List Int) (i k : Nat) (carry : Int) (out : List Int) : Prop where
 len : out.length = l.length + m.length
 ok : okd out
 zero : ∀ j, i + m.length ≤ j → out.getD j 0 = 0
 car : 0 ≤ carry ∧ carry < 65536
 val : vB 65536 out + 65536 ^ (i + k) * carry.toNat = vB 65536 (l.take i) * vB 65536 m + 65536 ^ i * ((l.getD i 0).toNat * vB 65536 (m.take k))
def inv57 (l m : List Int) : Nat → Option Inv
 | 3 => some ⟨Nat × List Int, fun x => [(17, .d (i64 x.1))], fun x => [(14, .fix (.arr .i64 (l.length + m.length) x.2))], fun s => ((slotN s 17).toNat, rowD s 14), fun _ x => x.1 ≤ l.length ∧ TimesI l m x.1 x.2, fun x => l.length - x.1⟩
 | 7 => some ⟨Nat × Int × List Int, fun x => [(22, .d (i64 x.1)), (7, .d (i64 x.2.1))], fun x => [(14, .fix (.arr .i64 (l.length + m.length) x.2.2))], fun s => ((slotN s 22).toNat, slotN s 7, rowD s 14), fun s x => x.1 ≤ m.length ∧ TimesJ l m (slotN s 17).toNat x.1 x.2.1 x.2.2, fun x => m.length - x.1⟩
 | _ => none
set_option maxRecDepth 100000 in
theorem vc57  (l m : List Int) (F : D)  :
    (owed c57 (inv57 l m) Try.f57 [dgs l, dgs m] F) = (
 True ∧ True ∧ True ∧ True ∧ True ∧ True ∧ ((0 : Int) ≤ IntKind.i64.wrap ((↑l.length : Int) + (↑m.length : Int)) ∧ IntKind.i64.wrap ((↑l.length : Int) + (↑m.length : Int)) = IntKind.i64.wrap ((↑l.length : Int) + (↑m.length : Int)) ∧ IntKind.i64.wrap ((↑l.length : Int) + (↑m.length : Int)) ≤ (281474976710656 : Int) ∧ (↑(8 : Nat) : Int) * IntKind.i64.wrap ((↑l.length : Int) + (↑m.length : Int)) ≤ (281474976710656 : Int) ∧ 1 = 1) ∧ True ∧ True ∧ True ∧ True ∧ (((AV.d (D.val (.int .i64 0)) = AV.d (D.val (.int .i64 (↑(0 : Nat) : Int))) ∧ True) ∧ (some (Blk.fix (D.arr .i64 (IntKind.i64.wrap ((↑l.length : Int) + (↑m.length : Int))).toNat (List.replicate (IntKind.i64.wrap ((↑l.length : Int) + (↑m.length : Int))).toNat (0 : Int)))) = some (Blk.fix (D.arr .i64 (l.length + m.length) (List.replicate (IntKind.i64.wrap ((↑l.length : Int) + (↑m.length : Int))).toNat (0 : Int)))) ∧ True) ∧ true = true) ∧ 0 ≤ l.length ∧ TimesI l m 0 (List.replicate (IntKind.i64.wrap ((↑l.length : Int) + (↑m.length : Int))).toNat (0 : Int))) ∧ ∀ (x : Nat × List Int), x.fst ≤ l.length ∧ TimesI l m x.fst x.snd → true = true ∧ True ∧ match decide ((↑x.fst : Int) < (↑l.length : Int)) with
 | true => True ∧ True ∧ True ∧ True ∧ True ∧ True ∧ (((AV.d (D.val (.int .i64 0)) = AV.d (D.val (.int .i64 (↑(0 : Nat) : Int))) ∧ sm (AV.d (D.val (.int .i64 0))) ∧ True) ∧ (sm (some (Blk.fix (D.arr .i64 (l.length + m.length) x.snd))) ∧ True) ∧ true = true) ∧ 0 ≤ m.length ∧ TimesJ l m (↑x.fst : Int).toNat 0 (0 : Int) x.snd) ∧ ∀ (x_1 : Nat × Int × List Int), x_1.fst ≤ m.length ∧ TimesJ l m (↑x.fst : Int).toNat x_1.fst x_1.snd.fst x_1.snd.snd → true = true ∧ True ∧ match decide ((↑x_1.fst : Int) < (↑m.length : Int)) with
  | true => True ∧ True ∧ True ∧ True ∧ True ∧ True ∧ True ∧ ((0 : Int) ≤ IntKind.i64.wrap ((↑x.fst : Int) + (↑x_1.fst : Int)) ∧ IntKind.i64.wrap ((↑x.fst : Int) + (↑x_1.fst : Int)) < (↑(IntKind.i64.wrap ((↑l.length : Int) + (↑m.length : Int))).toNat : Int) ∧ 1 = 1) ∧ (1 ≠ 0 ∧ 1 = 1 ∧ false = false) ∧ True ∧ True ∧ ((0 : Int) ≤ (↑x.fst : Int) ∧ (↑x.fst : Int) < (↑l.length : Int) ∧ 1 = 1) ∧ (1 ≠ 0 ∧ 1 = 1 ∧ false = false) ∧ True ∧ True ∧ ((0 : Int) ≤ (↑x_1.fst : Int) ∧ (↑x_1.fst : Int) < (↑m.length : Int) ∧ 1 = 1) ∧ (1 ≠ 0 ∧ 1 = 1 ∧ false = false) ∧ True ∧ True ∧ True ∧ True ∧ True ∧ True ∧ True ∧ True ∧ True ∧ (65536 : Int) ≠ 0 ∧ ((0 : Int) ≤ IntKind.i64.wrap ((↑x.fst : Int) + (↑x_1.fst : Int)) ∧ IntKind.i64.wrap ((↑x.fst : Int) + (↑x_1.fst : Int)) < (↑(IntKind.i64.wrap ((↑l.length : Int) + (↑m.length : Int))).toNat : Int) ∧ 1 = 1) ∧ ((0 + (IntKind.i64.wrap ((↑x.fst : Int) + (↑x_1.fst : Int))).toNat < l.length + m.length ∧ ([] : List Nat) = [] ∧ true = true) ∧ 1 ≠ 0 ∧ 1 = 1 ∧ false = false) ∧ True ∧ (65536 : Int) ≠ 0 ∧ True ∧ True ∧ True ∧ ((AV.d (D.val (.int .i64 (IntKind.i64.wrap ((↑x_1.fst : Int) + (1 : Int))))) = AV.d (D.val (.int .i64 (↑(IntKind.i64.wrap ((↑x_1.fst : Int) + (1 : Int))).toNat : Int))) ∧ sm (AV.d (D.val (Value.int IntKind.i64 (IntKind.i64.wrap ((IntKind.i64.wrap (x_1.snd.fst + IntKind.i64.wrap (x_1.snd.snd.getD (0 + (IntKind.i64.wrap ((↑x.fst : Int) + (↑x_1.fst : Int))).toNat) (0 : Int) + IntKind.i64.wrap (l.getD (↑x.fst : Int).toNat (0 : Int) * m.getD (↑x_1.fst : Int).toNat (0 : Int))))).tdiv (65536 : Int)))))) ∧ True) ∧ (sm (some (Blk.fix (D.arr .i64 (l.length + m.length) (x_1.snd.snd.set (0 + (IntKind.i64.wrap ((↑x.fst : Int) + (↑x_1.fst : Int))).toNat) ((IntKind.i64.wrap (x_1.snd.fst + IntKind.i64.wrap (x_1.snd.snd.getD (0 + (IntKind.i64.wrap ((↑x.fst : Int) + (↑x_1.fst : Int))).toNat) (0 : Int) + IntKind.i64.wrap (l.getD (↑x.fst : Int).toNat (0 : Int) * m.getD (↑x_1.fst : Int).toNat (0 : Int))))).tmod (65536 : Int)))))) ∧ True) ∧ true = true) ∧ ((IntKind.i64.wrap ((↑x_1.fst : Int) + (1 : Int))).toNat ≤ m.length ∧ TimesJ l m (↑x.fst : Int).toNat (IntKind.i64.wrap ((↑x_1.fst : Int) + (1 : Int))).toNat (IntKind.i64.wrap ((IntKind.i64.wrap (x_1.snd.fst + IntKind.i64.wrap (x_1.snd.snd.getD (0 + (IntKind.i64.wrap ((↑x.fst : Int) + (↑x_1.fst : Int))).toNat) (0 : Int) + IntKind.i64.wrap (l.getD (↑x.fst : Int).toNat (0 : Int) * m.getD (↑x_1.fst : Int).toNat (0 : Int))))).tdiv (65536 : Int))) (x_1.snd.snd.set (0 + (IntKind.i64.wrap ((↑x.fst : Int) + (↑x_1.fst : Int))).toNat) ((IntKind.i64.wrap (x_1.snd.fst + IntKind.i64.wrap (x_1.snd.snd.getD (0 + (IntKind.i64.wrap ((↑x.fst : Int) + (↑x_1.fst : Int))).toNat) (0 : Int) + IntKind.i64.wrap (l.getD (↑x.fst : Int).toNat (0 : Int) * m.getD (↑x_1.fst : Int).toNat (0 : Int))))).tmod (65536 : Int)))) ∧ m.length - (IntKind.i64.wrap ((↑x_1.fst : Int) + (1 : Int))).toNat < m.length - x_1.fst
  | false => True ∧ True ∧ True ∧ True ∧ True ∧ ((0 : Int) ≤ IntKind.i64.wrap ((↑x.fst : Int) + (↑m.length : Int)) ∧ IntKind.i64.wrap ((↑x.fst : Int) + (↑m.length : Int)) < (↑(IntKind.i64.wrap ((↑l.length : Int) + (↑m.length : Int))).toNat : Int) ∧ 1 = 1) ∧ (1 ≠ 0 ∧ 1 = 1 ∧ false = false) ∧ True ∧ True ∧ ((0 : Int) ≤ IntKind.i64.wrap ((↑x.fst : Int) + (↑m.length : Int)) ∧ IntKind.i64.wrap ((↑x.fst : Int) + (↑m.length : Int)) < (↑(IntKind.i64.wrap ((↑l.length : Int) + (↑m.length : Int))).toNat : Int) ∧ 1 = 1) ∧ ((0 + (IntKind.i64.wrap ((↑x.fst : Int) + (↑m.length : Int))).toNat < l.length + m.length ∧ ([] : List Nat) = [] ∧ true = true) ∧ 1 ≠ 0 ∧ 1 = 1 ∧ false = false) ∧ True ∧ True ∧ ((AV.d (D.val (.int .i64 (IntKind.i64.wrap ((↑x.fst : Int) + (1 : Int))))) = AV.d (D.val (.int .i64 (↑(IntKind.i64.wrap ((↑x.fst : Int) + (1 : Int))).toNat : Int))) ∧ True) ∧ (sm (some (Blk.fix (D.arr .i64 (l.length + m.length) (x_1.snd.snd.set (0 + (IntKind.i64.wrap ((↑x.fst : Int) + (↑m.length : Int))).toNat) (IntKind.i64.wrap (x_1.snd.snd.getD (0 + (IntKind.i64.wrap ((↑x.fst : Int) + (↑m.length : Int))).toNat) (0 : Int) + x_1.snd.fst)))))) ∧ True) ∧ true = true) ∧ ((IntKind.i64.wrap ((↑x.fst : Int) + (1 : Int))).toNat ≤ l.length ∧ TimesI l m (IntKind.i64.wrap ((↑x.fst : Int) + (1 : Int))).toNat (x_1.snd.snd.set (0 + (IntKind.i64.wrap ((↑x.fst : Int) + (↑m.length : Int))).toNat) (IntKind.i64.wrap (x_1.snd.snd.getD (0 + (IntKind.i64.wrap ((↑x.fst : Int) + (↑m.length : Int))).toNat) (0 : Int) + x_1.snd.fst)))) ∧ l.length - (IntKind.i64.wrap ((↑x.fst : Int) + (1 : Int))).toNat < l.length - x.fst
 | false => True ∧ (∃ (l_1 : List Int), [D.ints .i64 (List.take (IntKind.i64.wrap ((↑l.length : Int) + (↑m.length : Int))).toNat (List.drop 0 x.snd))] = [D.ints .i64 l_1] ∧ lenOk l_1) ∧ True ∧ (false = false ∧ True) ∧ D.ints .i64 (trimL (List.take (IntKind.i64.wrap ((↑l.length : Int) + (↑m.length : Int))).toNat (List.drop 0 x.snd))) = F) := by kernel_rfl
set_option maxRecDepth 100000 in
theorem vc52  (n : Int) (F : D)  :
    (owed c39 (fun _ => none) Try.f52 [i64 n] F) = (
 True ∧ True ∧ (16 : Int) ≠ 0 ∧ True ∧ ((0 : Int) ≤ IntKind.i64.wrap (IntKind.i64.wrap (n.tdiv (16 : Int)) + (1 : Int)) ∧ IntKind.i64.wrap (IntKind.i64.wrap (n.tdiv (16 : Int)) + (1 : Int)) = IntKind.i64.wrap (IntKind.i64.wrap (n.tdiv (16 : Int)) + (1 : Int)) ∧ IntKind.i64.wrap (IntKind.i64.wrap (n.tdiv (16 : Int)) + (1 : Int)) ≤ (281474976710656 : Int) ∧ (↑(8 : Nat) : Int) * IntKind.i64.wrap (IntKind.i64.wrap (n.tdiv (16 : Int)) + (1 : Int)) ≤ (281474976710656 : Int) ∧ 1 = 1) ∧ True ∧ True ∧ True ∧ (16 : Int) ≠ 0 ∧ True ∧ (16 : Int) ≠ 0 ∧ (0 : Int) ≤ n.tmod (16 : Int) ∧ ((0 : Int) ≤ IntKind.i64.wrap (n.tdiv (16 : Int)) ∧ IntKind.i64.wrap (n.tdiv (16 : Int)) < (↑(IntKind.i64.wrap (IntKind.i64.wrap (n.tdiv (16 : Int)) + (1 : Int))).toNat : Int) ∧ 1 = 1) ∧ ((0 + (IntKind.i64.wrap (n.tdiv (16 : Int))).toNat < (IntKind.i64.wrap (IntKind.i64.wrap (n.tdiv (16 : Int)) + (1 : Int))).toNat ∧ ([] : List Nat) = [] ∧ true = true) ∧ 1 ≠ 0 ∧ 1 = 1 ∧ false = false) ∧ True ∧ True ∧ (false = false ∧ True) ∧ D.ints .i64 (List.take (IntKind.i64.wrap (IntKind.i64.wrap (n.tdiv (16 : Int)) + (1 : Int))).toNat (List.drop 0 ((List.replicate (IntKind.i64.wrap (IntKind.i64.wrap (n.tdiv (16 : Int)) + (1 : Int))).toNat (0 : Int)).set (0 + (IntKind.i64.wrap (n.tdiv (16 : Int))).toNat) (ishl IntKind.i64 (1 : Int) (n.tmod (16 : Int)))))) = F) := by kernel_rfl
theorem iand_nat {a b : Nat} (ha : a < 9223372036854775808) (hb : b < 9223372036854775808) : iand .i64 (a : Int) (b : Int) = ((a &&& b : Nat) : Int) := by
 unfold iand
 have h1 : (BitVec.ofInt IntKind.i64.bits (a : Int) &&& BitVec.ofInt IntKind.i64.bits (b : Int)).toNat = a &&& b := by
  rw [BitVec.toNat_and, BitVec.ofInt_natCast, BitVec.ofInt_natCast, BitVec.toNat_ofNat, BitVec.toNat_ofNat]
  show a % 2 ^ 64 &&& b % 2 ^ 64 = a &&& b
  rw [Nat.mod_eq_of_lt (by omega), Nat.mod_eq_of_lt (by omega)]
 rw [h1]
 have := Nat.and_le_left (n := a) (m := b)
 exact wi (by omega) (by omega)
theorem wu {n : Int} (h : 0 ≤ n) (h2 : n < 18446744073709551616) : IntKind.u64.wrap n = n := by rw [w64]; omega
set_option maxRecDepth 100000 in
theorem m39 : Meets Try.prog 39 sp39 := by
 refine meets_of_owed (C := c39) ⟨tab_ok, fun f s h => by cases h⟩ (by kernel_rfl) (by kernel_rfl : Try.prog.funcs[39]? = some Try.f39) (by kernel_rfl) (by kernel_rfl) (by kernel_rfl) _ ?_
 rintro _ ⟨l, i, rfl, hl⟩
 refine ⟨fun _ => rfl, fun _ => none, ?_⟩
 show owed c39 (fun _ => none) Try.f39 [dgs l, i64 i] (i64 (dig l i))
 rw [vc39]
 simp (decide := true) only [eq_self, true_and, and_true, ne_eq, not_false_eq_true]
 unfold dig
 split
 ·rename_i h
  have h := of_decide_eq_true h
  rw [if_neg (by omega)]
 ·rename_i h
  have h := of_decide_eq_false h
  split
  ·rename_i h1
   have h1 := of_decide_eq_true h1
   rw [if_neg (by omega)]
  ·rename_i h1
   have h1 := of_decide_eq_false h1
   rw [if_pos (by omega)]
   and_intros <;> first | omega | trivial | rfl
set_option maxRecDepth 100000 in
theorem m41 : Meets Try.prog 41 sp41 := by
 refine meets_of_owed (C := c39) ⟨tab_ok, fun f s h => by cases h⟩ (by kernel_rfl) (by kernel_rfl : Try.prog.funcs[41]? = some Try.f41) (by kernel_rfl) (by kernel_rfl) (by kernel_rfl) _ ?_
 rintro _ ⟨l, rfl, hl⟩
 refine ⟨fun h => (by cases h), inv41, ?_⟩
 show owed c39 inv41 Try.f41 [dgs l] (dgs (trimL l))
 rw [vc41]
 simp (decide := true) only [eq_self, true_and, and_true, ne_eq, not_false_eq_true, List.drop_zero]
 refine ⟨hl, fun x hx => ?_⟩
 have hx2 := hx.2
 unfold lenOk at hx2
 split
 ·rename_i h
  have h := of_decide_eq_true h
  have hne : x ≠ [] := fun e => by subst e; simp at h
  obtain ⟨m, z, rfl⟩ : ∃ m z, x = m ++ [z] := ⟨x.dropLast, x.getLast hne, (List.dropLast_concat_getLast hne).symm⟩
  rw [List.length_append, List.length_singleton] at h hx2 ⊢
  have e1 : ((m.length + 1 : Nat) : Int) - 1 = m.length := by omega
  rw [e1, wi (by omega) (by omega)]
  have e2 : (m ++ [z]).getD (m.length : Int).toNat 0 = z := by
   rw [Int.toNat_natCast]
   simp [List.getD_eq_getElem?_getD]
  have e3 : (m ++ [z]).take (m.length : Int).toNat = m := by
   rw [Int.toNat_natCast]
   simp
  rw [e2, e3]
  have hm : lenOk m := by unfold lenOk; omega
  refine ⟨by omega, ?_⟩
  split
  ·rename_i hz
   have hz : z = 0 := by simpa using hz
   subst hz
   have ht := hx.1
   rw [trim_last] at ht
   and_intros <;> first | omega | exact ht | exact hm | trivial
  ·rename_i hz
   have hz : z ≠ 0 := by simpa using hz
   rw [← hx.1, trim_keep m hz]
 ·rename_i h
  have h := of_decide_eq_false h
  have : x = [] := List.length_eq_zero_iff.1 (by omega)
  subst this
  rw [← hx.1]
  rfl
theorem take_push {l : List Int} {n : Nat} (h : n < l.length) : l.take (n + 1) = l.take n ++ [l.getD n 0] := by
 rw [List.take_add_one]
 simp [List.getD_eq_getElem?_getD, h]
theorem getD_memN {l : List Int} {n : Nat} (h : n < l.length) : l.getD n 0 ∈ l := by
 simp [List.getD_eq_getElem?_getD, h]
theorem outW_push {l : List Int} {n : Nat} (h : n < l.length) : outW (l.take (n + 1)) = outW (l.take n) ++ nB 65536 4 (l.getD n 0).toNat := by
 rw [take_push h]
 simp [outW]
set_option maxRecDepth 100000 in
theorem m25 : Meets Try.prog 25 sp25 := by
 refine meets_of_owed (C := c25) ⟨tab_ok, lkS_ok ⟨m41, trivial⟩⟩ (by kernel_rfl) (by kernel_rfl : Try.prog.funcs[25]? = some Try.f25) (by kernel_rfl) (by kernel_rfl) (by kernel_rfl) _ ?_
 rintro _ ⟨l, rfl, hw, hl⟩
 refine ⟨fun h => (by cases h), inv25 l, ?_⟩
 show owed c25 (inv25 l) Try.f25 [.ints .u64 l] (dgs (dg (vB 18446744073709551616 l)))
 rw [vc25]
 simp (decide := true) only [eq_self, true_and, and_true, ne_eq, not_false_eq_true]
 and_intros <;> try (first | omega | rfl | trivial)
 intro x hx
 obtain ⟨n, rfl⟩ := Int.eq_ofNat_of_zero_le hx.1
 rw [Int.toNat_natCast]
 split
 ·rename_i h
  have h := of_decide_eq_true h
  have hn : n < l.length := by omega
  have hz := hw _ (getD_memN hn)
  generalize hzz : l.getD n 0 = z at hz
  rw [show ((n : Int) + 1) = ((n + 1 : Nat) : Int) by omega, wi (n := ((n + 1 : Nat) : Int)) (by omega) (by omega), Int.toNat_natCast, outW_push hn, hzz]
  have ho := outW_len (l.take n)
  have ho2 : (l.take n).length ≤ 100 := by rw [List.length_take]; omega
  and_intros <;> try (first | omega | rfl | trivial | (simp [nB]; done) | (simp [nB]; omega))
  rintro ⟨k, w, out⟩ ⟨hk, hw1, ho1⟩
  simp only at hk hw1 ho1 ⊢
  obtain ⟨k, rfl⟩ := Int.eq_ofNat_of_zero_le hk.1
  rw [Int.toNat_natCast] at hw1 ho1
  subst hw1 ho1
  split
  ·rename_i h2
   have h2 := of_decide_eq_true h2
   have hlt : z.toNat / 65536 ^ k ≤ z.toNat := Nat.div_le_self _ _
   rw [show ((k : Int) + 1) = ((k + 1 : Nat) : Int) by omega, wi (n := ((k + 1 : Nat) : Int)) (by omega) (by omega), Int.toNat_natCast, nB_push, ← List.append_assoc, Nat.pow_succ, ← Nat.div_div_eq_div_mul]
   generalize z.toNat / 65536 ^ k = q at hlt ⊢
   rw [show (65536 : Int) = (65536 : Nat) from rfl, tmodN, tdivN, wi (by omega) (by omega), wu (by omega) (by omega)]
   simp only [List.length_append, nB_length, List.length_singleton]
   and_intros <;> first | omega | rfl | trivial
  ·rename_i h2
   have h2 := of_decide_eq_false h2
   obtain rfl : k = 4 := by omega
   and_intros <;> first | omega | rfl | trivial
 ·rename_i h
  have h := of_decide_eq_false h
  rw [List.take_of_length_le (by omega)]
  refine ⟨⟨outW l, rfl, ?_⟩, ?_⟩
  ·unfold lenOk
   rw [outW_len]
   omega
  ·rw [trim_eq (outW_ok l), outW_val hw]
set_option maxRecDepth 100000 in
theorem m53 : Meets Try.prog 53 sp53 := by
 refine meets_of_owed (C := c39) ⟨tab_ok, fun f s h => by cases h⟩ (by kernel_rfl) (by kernel_rfl : Try.prog.funcs[53]? = some Try.f53) (by kernel_rfl) (by kernel_rfl) (by kernel_rfl) _ ?_
 rintro _ ⟨l, n, rfl, hd, hl, hn0, hn⟩
 refine ⟨fun h => (by cases h), inv53 l n, ?_⟩
 show owed c39 (inv53 l n) Try.f53 [dgs l, i64 n] (.ints .u64 (nB 18446744073709551616 n.toNat (vB 65536 l)))
 rw [vc53]
 unfold lenOk at hl
 obtain ⟨n, rfl⟩ := Int.eq_ofNat_of_zero_le hn0
 simp (decide := true) only [eq_self, true_and, and_true, ne_eq, not_false_eq_true, Int.toNat_natCast]
 rw [wi (n := (l.length : Int) - 1) (by omega) (by omega), show ((l.length : Int) - 1 + 1).toNat = l.length by omega, wl_end n l _ (Nat.le_refl _)]
 and_intros <;> try (first | omega | rfl | trivial)
 intro x hx
 have hx1 := hx.1
 rw [wi (n := 4 * (n : Int)) (by omega) (by omega), wi (n := x - 1) (by omega) (by omega), show x - 1 + 1 = x by omega]
 split
 ·rename_i h
  have h := of_decide_eq_true h
  obtain ⟨i, rfl⟩ := Int.eq_ofNat_of_zero_le h
  rw [show ((i : Int) + 1) = ((i + 1 : Nat) : Int) by omega]
  simp only [Int.toNat_natCast]
  have hi : i < l.length := by omega
  split
  ·rename_i h2
   have h2 := of_decide_eq_true h2
   rw [show (4 : Int) = (4 : Nat) from rfl, tdivN, wi (n := ((i / 4 : Nat) : Int)) (by omega) (by omega)]
   simp only [Int.toNat_natCast, Nat.zero_add]
   have hd1 := hd _ (getD_memN hi)
   have w1 := wl_lt (n := n) hd (i + 1) (i / 4) (by omega) (by omega)
   have w2 := wl_nonneg n l (i + 1) (i / 4)
   rw [wu (n := l.getD i 0) (by omega) (by omega), wu (n := _ * _) (by omega) (by omega), wu (by omega) (by omega), ← wl_step n l i hi (by omega) hd1.1]
   and_intros <;> first | omega | trivial | rfl
  ·rename_i h2
   have h2 := of_decide_eq_false h2
   rw [← wl_past n l i (by omega)]
   and_intros <;> first | omega | trivial | rfl
 ·rename_i h
  have h := of_decide_eq_false h
  rw [show (x + 1).toNat = 0 by omega, List.drop_zero, List.take_of_length_le (by rw [wl_length]; omega), wl_zero hd]
set_option maxRecDepth 100000 in
theorem m8 : Meets Try.prog 8 sp8 := by
 refine meets_of_owed (C := c8) ⟨tab_ok, lkS_ok ⟨m25, trivial⟩⟩ (by kernel_rfl) (by kernel_rfl : Try.prog.funcs[8]? = some Try.f8) (by kernel_rfl) (by kernel_rfl) (by kernel_rfl) _ ?_
 rintro _ ⟨l, rfl, hw, hl⟩
 refine ⟨fun h => (by cases h), fun _ => none, ?_⟩
 show owed c8 (fun _ => none) Try.f8 [num4 l] (dgs (dg (vB 18446744073709551616 l)))
 rw [vc8]
 match l, hl with
 | [a, b, c, d], _ =>
  simp (decide := true) only [eq_self, true_and, and_true, ne_eq, not_false_eq_true, List.getD_cons_zero, List.getD_cons_succ]
  exact ⟨_, rfl, hw, by simp⟩
set_option maxRecDepth 100000 in
theorem m37 : Meets Try.prog 37 sp37 := by
 refine meets_of_owed (C := c37) ⟨tab_ok, lkS_ok ⟨m53, trivial⟩⟩ (by kernel_rfl) (by kernel_rfl : Try.prog.funcs[37]? = some Try.f37) (by kernel_rfl) (by kernel_rfl) (by kernel_rfl) _ ?_
 rintro _ ⟨l, rfl, hd, hl⟩
 refine ⟨fun _ => rfl, fun _ => none, ?_⟩
 show owed c37 (fun _ => none) Try.f37 [dgs l] (num4 (nB 18446744073709551616 4 (vB 65536 l)))
 rw [vc37]
 simp (decide := true) only [eq_self, true_and, and_true, ne_eq, not_false_eq_true, nB_length]
 exact ⟨⟨l, 4, rfl, hd, hl, by omega, by omega⟩, rfl⟩
theorem bit_at (v x : Nat) : v / 65536 ^ (x / 16) % 65536 / 2 ^ (x % 16) % 2 = v / 2 ^ x % 2 := by
 have hr : x % 16 < 16 := Nat.mod_lt _ (by decide)
 have e1 : (65536 : Nat) = 2 ^ (x % 16) * 2 ^ (16 - x % 16) := by rw [← Nat.pow_add, show x % 16 + (16 - x % 16) = 16 by omega]
 have e2 : v / 65536 ^ (x / 16) / 2 ^ (x % 16) = v / 2 ^ x := by
  rw [Nat.div_div_eq_div_mul, show (65536 : Nat) = 2 ^ 16 from rfl, ← Nat.pow_mul, ← Nat.pow_add, show 16 * (x / 16) + x % 16 = x by omega]
 generalize v / 65536 ^ (x / 16) = w at e2 ⊢
 have e3 : w % 65536 / 2 ^ (x % 16) = w / 2 ^ (x % 16) % 2 ^ (16 - x % 16) := by
  rw [show w % 65536 = w % (2 ^ (x % 16) * 2 ^ (16 - x % 16)) by rw [← e1], Nat.mod_mul_right_div_self]
 rw [e3, e2, Nat.mod_mod_of_dvd]
 exact Nat.dvd_of_pow_dvd (k := 1) (by omega) (Nat.pow_dvd_pow 2 (by omega) : 2 ^ 1 ∣ 2 ^ (16 - x % 16)) |> fun h => by simpa using h
theorem bitI {l : List Int} (h : okd l) (x : Nat) (hx : x < 4611686018427387904) : iand .i64 (ishr .i64 (dig l (IntKind.i64.wrap ((x : Int).tdiv 16))) ((x : Int).tmod 16)) 1 = ((vB 65536 l / 2 ^ x % 2 : Nat) : Int) := by
 rw [show (16 : Int) = (16 : Nat) from rfl, tdivN, tmodN, wi (by omega) (by omega), dig_nat h, ishr_eq _ _ _ (by simp only [IntKind.bits]; omega)]
 have e : (((vB 65536 l / 65536 ^ (x / 16) % 65536 : Nat) : Int) / 2 ^ (x % 16)) = ((vB 65536 l / 65536 ^ (x / 16) % 65536 / 2 ^ (x % 16) : Nat) : Int) := by simp
 have hlt : vB 65536 l / 65536 ^ (x / 16) % 65536 / 2 ^ (x % 16) ≤ vB 65536 l / 65536 ^ (x / 16) % 65536 := Nat.div_le_self _ _
 have hlt2 : vB 65536 l / 65536 ^ (x / 16) % 65536 < 65536 := Nat.mod_lt _ (by decide)
 rw [e, show (1 : Int) = ((1 : Nat) : Int) from rfl, iand_nat (by omega) (by decide), Nat.and_one_is_mod, bit_at]
theorem set_rep (A : List Int) (k : Nat) (z : Int) : (A ++ List.replicate (k + 1) 0).set A.length z = A ++ [z] ++ List.replicate k 0 := by
 rw [List.set_append_right _ _ (Nat.le_refl _), Nat.sub_self, List.replicate_succ, List.set_cons_zero]
 simp
set_option maxRecDepth 100000 in
theorem m23 : Meets Try.prog 23 sp23 := by
 refine meets_of_owed (C := c23) ⟨tab_ok, lkS_ok ⟨m39, trivial⟩⟩ (by kernel_rfl) (by kernel_rfl : Try.prog.funcs[23]? = some Try.f23) (by kernel_rfl) (by kernel_rfl) (by kernel_rfl) _ ?_
 rintro _ ⟨l, n, rfl, hd, hl, hn0, hn⟩
 refine ⟨fun h => (by cases h), inv23 l n, ?_⟩
 show owed c23 (inv23 l n) Try.f23 [dgs l, i64 n] (dgs (nB 2 n.toNat (vB 65536 l)))
 rw [vc23]
 obtain ⟨n, rfl⟩ := Int.eq_ofNat_of_zero_le hn0
 simp (decide := true) only [eq_self, true_and, and_true, ne_eq, not_false_eq_true, Int.toNat_natCast, Nat.zero_add]
 and_intros <;> try (first | omega | rfl | trivial | (simp [nB]; done))
 intro x hx
 obtain ⟨x, rfl⟩ := Int.eq_ofNat_of_zero_le hx.1
 rw [show ((x : Int) + 1) = ((x + 1 : Nat) : Int) by omega, wi (n := ((x + 1 : Nat) : Int)) (by omega) (by omega)]
 simp only [Int.toNat_natCast]
 split
 ·rename_i h
  have h := of_decide_eq_true h
  rw [bitI hd x (by omega), show ((n : Int) - (x : Int)).toNat = (n - (x + 1)) + 1 by omega, show ((n : Int) - ((x + 1 : Nat) : Int)).toNat = n - (x + 1) by omega]
  have e := set_rep (nB 2 x (vB 65536 l)) (n - (x + 1)) ((vB 65536 l / 2 ^ x % 2 : Nat) : Int)
  rw [nB_length, ← nB_push] at e
  rw [e]
  have ht : (x : Int).tmod 16 = ((x % 16 : Nat) : Int) := tmodN x 16
  and_intros <;> first | omega | rfl | trivial | exact ⟨_, _, rfl, hl⟩
 ·rename_i h
  have h := of_decide_eq_false h
  obtain rfl : x = n := by omega
  rw [show ((x : Int) - (x : Int)).toNat = 0 by omega]
  simp only [List.replicate_zero, List.append_nil, List.drop_zero]
  rw [List.take_of_length_le (by rw [nB_length]; omega)]
theorem vB_rep (b : Nat) : ∀ k, vB b (List.replicate k 0) = 0
 | 0 => rfl
 | k + 1 => by simp [List.replicate_succ, vB, vB_rep b k]
theorem dg_eq {l : List Int} (h : okd l) (hz : ∀ m, l ≠ m ++ [0]) : dg (vB 65536 l) = l := by
 rw [← trim_eq h]
 rcases List.eq_nil_or_concat l with rfl | ⟨m, z, rfl⟩
 ·rfl
 ·have : z ≠ 0 := fun e => hz m (by rw [e, List.concat_eq_append])
  rw [List.concat_eq_append, trim_keep m this]
set_option maxRecDepth 100000 in
theorem m52 : Meets Try.prog 52 sp52 := by
 refine meets_of_owed (C := c39) ⟨tab_ok, fun f s h => by cases h⟩ (by kernel_rfl) (by kernel_rfl : Try.prog.funcs[52]? = some Try.f52) (by kernel_rfl) (by kernel_rfl) (by kernel_rfl) _ ?_
 rintro _ ⟨n, rfl, hn0, hn⟩
 refine ⟨fun h => (by cases h), fun _ => none, ?_⟩
 show owed c39 (fun _ => none) Try.f52 [i64 n] (dgs (opq (dg (2 ^ n.toNat))))
 rw [opq_eq, vc52]
 obtain ⟨n, rfl⟩ := Int.eq_ofNat_of_zero_le hn0
 rw [show (16 : Int) = (16 : Nat) from rfl, tdivN, tmodN, wi (n := ((n / 16 : Nat) : Int)) (by omega) (by omega), show ((n / 16 : Nat) : Int) + 1 = ((n / 16 + 1 : Nat) : Int) by omega, wi (n := ((n / 16 + 1 : Nat) : Int)) (by omega) (by omega)]
 simp (decide := true) only [eq_self, true_and, and_true, ne_eq, not_false_eq_true, Int.toNat_natCast, Nat.zero_add, List.drop_zero]
 have hr : n % 16 < 16 := Nat.mod_lt _ (by decide)
 have e1 : ishl .i64 1 ((n % 16 : Nat) : Int) = ((2 ^ (n % 16) : Nat) : Int) := by
  unfold ishl
  rw [Int.toNat_natCast, show min (n % 16) IntKind.i64.bits = n % 16 by simp only [IntKind.bits]; omega, Int.one_mul]
  have : 2 ^ (n % 16) < 2 ^ 16 := Nat.pow_lt_pow_right (by decide) hr
  have e : ((2 : Int) ^ (n % 16)) = ((2 ^ (n % 16) : Nat) : Int) := by simp
  rw [e]
  generalize 2 ^ (n % 16) = q at this ⊢
  exact wi (by omega) (by omega)
 have e2 := set_rep (List.replicate (n / 16) 0) 0 ((2 ^ (n % 16) : Nat) : Int)
 rw [List.replicate_append_replicate, List.length_replicate] at e2
 rw [e1, e2, List.replicate_zero, List.append_nil, List.take_of_length_le (by simp)]
 have hlt : 2 ^ (n % 16) < 65536 := Nat.lt_of_lt_of_le (Nat.pow_lt_pow_right (by decide) hr) (by decide : 2 ^ 16 ≤ 65536)
 have hpos : 0 < 2 ^ (n % 16) := Nat.pow_pos (by decide)
 have hok : okd (List.replicate (n / 16) (0 : Int) ++ [((2 ^ (n % 16) : Nat) : Int)]) := by
  intro y hy
  simp only [List.mem_append, List.mem_replicate, List.mem_singleton] at hy
  rcases hy with ⟨_, rfl⟩ | rfl
  ·decide
  ·exact ⟨by omega, by omega⟩
 have hval : vB 65536 (List.replicate (n / 16) (0 : Int) ++ [((2 ^ (n % 16) : Nat) : Int)]) = 2 ^ n := by
  rw [vB_append, vB_rep, List.length_replicate, Nat.zero_add]
  simp only [vB, Int.toNat_natCast, Nat.mul_zero, Nat.add_zero]
  rw [show (65536 : Nat) = 2 ^ 16 from rfl, ← Nat.pow_mul, ← Nat.pow_add, show 16 * (n / 16) + n % 16 = n by omega]
 rw [← hval, dg_eq hok]
 ·and_intros <;> first | omega | rfl | trivial
 ·intro m hm
  have := List.append_inj_right' hm rfl
  simp only [List.cons.injEq, and_true] at this
  omega
theorem vB_take1 {b : Nat} {l : List Int} (n : Nat) (h : n < l.length) : vB b (l.take (n + 1)) = vB b (l.take n) + b ^ n * (l.getD n 0).toNat := by
 rw [take_push h, vB_append, List.length_take, show min n l.length = n by omega]
 simp [vB]
theorem getD_set (l : List Int) (i j : Nat) (x : Int) : (l.set i x).getD j 0 = if i = j ∧ i < l.length then x else l.getD j 0 := by
 simp only [List.getD_eq_getElem?_getD, List.getElem?_set]
 by_cases h : i = j
 ·subst h
  by_cases h2 : i < l.length
  ·simp [h2]
  ·simp [h2]
 ·simp [h]
theorem okd_set {l : List Int} (h : okd l) {i : Nat} {x : Int} (hx : 0 ≤ x ∧ x < 65536) : okd (l.set i x) := by
 intro y hy
 rcases List.mem_or_eq_of_mem_set hy with h1 | rfl
 ·exact h y h1
 ·exact hx
theorem times_step {l m : List Int} (hl : okd l) (hm : okd m) {i k : Nat} {c : Int} {out : List Int} (h : TimesJ l m i k c out) (hi : i < l.length) (hk : k < m.length) :
  (0 ≤ out.getD (i + k) 0 ∧ out.getD (i + k) 0 < 65536) ∧ (0 ≤ l.getD i 0 * m.getD k 0 ∧ l.getD i 0 * m.getD k 0 ≤ 4294836225) ∧
  TimesJ l m i (k + 1) ((c + (out.getD (i + k) 0 + l.getD i 0 * m.getD k 0)) / 65536) (out.set (i + k) ((c + (out.getD (i + k) 0 + l.getD i 0 * m.getD k 0)) % 65536)) := by
 have ho := h.ok _ (getD_memN (l := out) (n := i + k) (by have := h.len; omega))
 have h1 := hl _ (getD_memN hi)
 have h2 := hm _ (getD_memN hk)
 have hv := vB_set (b := 65536) out (i + k) ((c + (out.getD (i + k) 0 + l.getD i 0 * m.getD k 0)) % 65536) (by have := h.len; omega)
 have ht := vB_take1 (b := 65536) k hk
 have hval := h.val
 have hc := h.car
 obtain ⟨o, ho3⟩ := Int.eq_ofNat_of_zero_le ho.1
 obtain ⟨a, ha⟩ := Int.eq_ofNat_of_zero_le h1.1
 obtain ⟨b, hb⟩ := Int.eq_ofNat_of_zero_le h2.1
 obtain ⟨d, rfl⟩ := Int.eq_ofNat_of_zero_le hc.1
 have hab : a * b ≤ 65535 * 65535 := Nat.mul_le_mul (by omega) (by omega)
 have hprod : l.getD i 0 * m.getD k 0 = ((a * b : Nat) : Int) := by rw [ha, hb]; simp
 rw [hprod] at hv ⊢
 rw [ho3] at hv ho ⊢
 generalize hq : a * b = q at hab hv hprod ⊢
 refine ⟨ho, ⟨by omega, by omega⟩, ⟨by simp [h.len], okd_set h.ok ⟨by omega, by omega⟩, fun j hj => ?_, ⟨by omega, by omega⟩, ?_⟩⟩
 ·rw [getD_set, if_neg (by omega)]
  exact h.zero j hj
 ·rw [ht, Nat.mul_add, ← Nat.mul_assoc (l.getD i 0).toNat, Nat.mul_comm (l.getD i 0).toNat (65536 ^ k), Nat.mul_assoc, Nat.mul_add, ← Nat.mul_assoc (65536 ^ i) (65536 ^ k), ← Nat.pow_add]
  rw [show (l.getD i 0).toNat * (m.getD k 0).toNat = q by rw [ha, hb, ← hq]; simp]
  rw [show i + (k + 1) = (i + k) + 1 by omega, Nat.pow_succ]
  generalize 65536 ^ (i + k) = B at hv hval ⊢
  rw [show ((d : Int) + ((o : Int) + (q : Int))) = ((d + (o + q) : Nat) : Int) by omega] at hv ⊢
  rw [show (((d + (o + q) : Nat) : Int) % 65536).toNat = (d + (o + q)) % 65536 by omega, Int.toNat_natCast] at hv
  rw [show (((d + (o + q) : Nat) : Int) / 65536).toNat = (d + (o + q)) / 65536 by omega]
  rw [Int.toNat_natCast] at hval
  have e : B * ((d + (o + q)) % 65536) + B * 65536 * ((d + (o + q)) / 65536) = B * d + (B * o + B * q) := by
   rw [Nat.mul_assoc, ← Nat.mul_add, Nat.mod_add_div, Nat.mul_add, Nat.mul_add]
  omega
theorem times_start {l m : List Int} {i : Nat} {out : List Int} (h : TimesI l m i out) : TimesJ l m i 0 0 out :=
 ⟨h.len, h.ok, h.zero, ⟨by omega, by omega⟩, by have := h.val; simp [vB]; exact this⟩
theorem times_next {l m : List Int} {i : Nat} {c : Int} {out : List Int} (h : TimesJ l m i m.length c out) (hi : i < l.length) :
  out.getD (i + m.length) 0 = 0 ∧ TimesI l m (i + 1) (out.set (i + m.length) (0 + c)) := by
 have hz := h.zero (i + m.length) (Nat.le_refl _)
 have hv := vB_set (b := 65536) out (i + m.length) (0 + c) (by have := h.len; omega)
 have ht := vB_take1 (b := 65536) i hi
 have hval := h.val
 refine ⟨hz, ⟨by simp [h.len], okd_set h.ok (by have := h.car; exact ⟨by omega, by omega⟩), fun j hj => ?_, ?_⟩⟩
 ·rw [getD_set, if_neg (by omega)]
  exact h.zero j (by omega)
 ·rw [hz, Int.zero_add] at hv
  rw [ht, Nat.add_mul, Int.zero_add, Nat.mul_assoc]
  rw [List.take_of_length_le (Nat.le_refl _)] at hval
  simpa [hval] using hv
theorem times_zero (l m : List Int) : TimesI l m 0 (List.replicate (l.length + m.length) 0) :=
 ⟨by simp, fun x hx => by rw [List.mem_replicate] at hx; rw [hx.2]; decide, fun j _ => by simp only [List.getD_eq_getElem?_getD, List.getElem?_replicate]; split <;> rfl, by rw [vB_rep]; simp [vB]⟩
set_option maxRecDepth 100000 in
theorem m57 : Meets Try.prog 57 sp57 := by
 refine meets_of_owed (C := c57) ⟨tab_ok, lkS_ok ⟨m41, trivial⟩⟩ (by kernel_rfl) (by kernel_rfl : Try.prog.funcs[57]? = some Try.f57) (by kernel_rfl) (by kernel_rfl) (by kernel_rfl) _ ?_
 rintro _ ⟨l, m, rfl, ⟨hl, hl2⟩, hm, hm2⟩
 refine ⟨fun h => (by cases h), inv57 l m, ?_⟩
 show owed c57 (inv57 l m) Try.f57 [dgs l, dgs m] (dgs (dg (vB 65536 l * vB 65536 m)))
 rw [vc57]
 unfold lenS at hl2 hm2
 rw [show ((l.length : Int) + (m.length : Int)) = ((l.length + m.length : Nat) : Int) by omega, wi (n := ((l.length + m.length : Nat) : Int)) (by omega) (by omega)]
 simp (decide := true) only [eq_self, true_and, and_true, ne_eq, not_false_eq_true, Int.toNat_natCast, Nat.zero_add, List.drop_zero]
 have hz := times_zero l m
 and_intros <;> try (first | omega | rfl | trivial | exact hz)
 rintro ⟨i, out⟩ ⟨hi, hT⟩
 simp only at hi hT ⊢
 split
 ·rename_i h
  have h := of_decide_eq_true h
  have hs := times_start hT
  and_intros <;> try (first | omega | rfl | trivial | exact hs)
  rintro ⟨k, c, out⟩ ⟨hk, hJ⟩
  simp only at hk hJ ⊢
  have hlen := hJ.len
  split
  ·rename_i h2
   have h2 := of_decide_eq_true h2
   obtain ⟨g1, g2, g3⟩ := times_step hl hm hJ (by omega) (by omega)
   have g4 := hJ.car
   rw [show ((i : Int) + (k : Int)) = ((i + k : Nat) : Int) by omega, wi (n := ((i + k : Nat) : Int)) (by omega) (by omega), show ((k : Int) + 1) = ((k + 1 : Nat) : Int) by omega, wi (n := ((k + 1 : Nat) : Int)) (by omega) (by omega)]
   simp only [Int.toNat_natCast]
   rw [wi (n := l.getD i 0 * m.getD k 0) (by omega) (by omega)]
   generalize hp : l.getD i 0 * m.getD k 0 = p at g2 g3 ⊢
   generalize hq : out.getD (i + k) 0 = q at g1 g3 ⊢
   rw [wi (n := q + p) (by omega) (by omega), wi (n := c + (q + p)) (by omega) (by omega), Int.tdiv_eq_ediv_of_nonneg (by omega), Int.tmod_eq_emod_of_nonneg (by omega), wi (by omega) (by omega)]
   and_intros <;> first | omega | rfl | trivial | exact g3
  ·rename_i h2
   have h2 := of_decide_eq_false h2
   obtain rfl : k = m.length := by omega
   obtain ⟨g1, g2⟩ := times_next hJ (by omega)
   have g4 := hJ.car
   rw [show ((i : Int) + (m.length : Int)) = ((i + m.length : Nat) : Int) by omega, wi (n := ((i + m.length : Nat) : Int)) (by omega) (by omega), show ((i : Int) + 1) = ((i + 1 : Nat) : Int) by omega, wi (n := ((i + 1 : Nat) : Int)) (by omega) (by omega)]
   simp only [Int.toNat_natCast]
   rw [g1, wi (n := 0 + c) (by omega) (by omega)]
   and_intros <;> first | omega | rfl | trivial | exact g2
 ·rename_i h
  have h := of_decide_eq_false h
  obtain rfl : i = l.length := by omega
  have hv := hT.val
  have hlen := hT.len
  rw [List.take_of_length_le (Nat.le_refl _)] at hv
  rw [List.take_of_length_le (by omega)]
  refine ⟨⟨out, rfl, ?_⟩, ?_⟩
  ·unfold lenOk; omega
  ·rw [trim_eq hT.ok, hv]
end Go.Proofs.Ytpkcmjfmoemekaa
namespace Go.Proofs.Ytpkcmjfmoemekaa
open Go Go.Vg
def len1 (l : List Int) : Prop := l.length ≤ 1000
def bor (a b : Nat) : Nat := if a < b then 1 else 0
def cmpN (a b : Nat) : Int := if a < b then -1 else if a > b then 1 else 0
abbrev vD (l : List Int) : Nat := vB 65536 l
def sp56 : Go.Vg.Spec := ⟨fun ds => ∃ l m, ds = [dgs l, dgs m] ∧ (okd l ∧ lenS l) ∧ okd m ∧ lenS m, fun ds => i64 (cmpN (vD (intsOf (ds.headD default))) (vD (intsOf (ds.getD 1 default)))), true, [37, 37]⟩
def sp43 : Go.Vg.Spec := ⟨fun ds => ∃ l m, ds = [dgs l, dgs m] ∧ (okd l ∧ lenS l) ∧ (okd m ∧ lenS m) ∧ vD m ≤ vD l, fun ds => dgs (dg (vD (intsOf (ds.headD default)) - vD (intsOf (ds.getD 1 default)))), false, [37, 37]⟩
def sp51 : Go.Vg.Spec := ⟨fun ds => ∃ l m, ds = [dgs l, dgs m] ∧ (okd l ∧ len1 l) ∧ (okd m ∧ len1 m) ∧ vD m ≠ 0,
 fun ds => .tup [dgs (dg (vD (intsOf (ds.headD default)) / vD (intsOf (ds.getD 1 default)))), dgs (dg (vD (intsOf (ds.headD default)) % vD (intsOf (ds.getD 1 default))))], false, [37, 37]⟩
def sp35 : Go.Vg.Spec := ⟨fun ds => ∃ l m, ds = [dgs l, dgs m] ∧ (okd l ∧ len1 l) ∧ (okd m ∧ len1 m) ∧ vD m ≠ 0,
 fun ds => dgs (dg (vD (intsOf (ds.headD default)) % vD (intsOf (ds.getD 1 default)))), false, [37, 37]⟩
def c56 : Ctx := ⟨tab, lkS [(39, sp39)], [], []⟩
def c43 : Ctx := ⟨tab, lkS [(39, sp39), (41, sp41)], [5], [34]⟩
def c51 : Ctx := ⟨tab, lkS [(57, sp57), (41, sp41), (56, sp56), (43, sp43)], [26], [60, 100029]⟩
def c35 : Ctx := ⟨tab, lkS [(51, sp51)], [], []⟩
def inv56 (l m : List Int) : Nat → Option Inv
 | 2 => some ⟨Int, fun i => [(5, .d (i64 i))], fun _ => [], fun s => slotN s 5, fun _ i => (-1 ≤ i ∧ i ≤ 65536) ∧ vD (l.drop (i + 1).toNat) = vD (m.drop (i + 1).toNat), fun i => (i + 1).toNat⟩
 | _ => none
def sbD (l m : List Int) (i : Nat) : Nat := (vD (l.take i) + 65536 ^ i - vD (m.take i)) % 65536 ^ i
def inv43 (l m : List Int) : Nat → Option Inv
 | 4 => some ⟨Nat, fun i => [(11, .d (i64 i)), (6, .d (i64 (bor (vD (l.take i)) (vD (m.take i))))), (5, .row 5)], fun i => [(5, .row 3 (dgs (nB 65536 i (sbD l m i))))], fun s => (slotN s 11).toNat, fun _ i => i ≤ l.length, fun i => l.length - i⟩
 | _ => none
def inv51 (l m : List Int) : Nat → Option Inv
 | 4 => some ⟨Nat, fun z => [(8, .d (.val (.int .i64 ((z : Int) - 1)))), (7, .d (dgs (dg (vD (l.drop z) % vD m))))], fun z => [(14, .fix (.arr .i64 l.length (List.replicate z 0 ++ nB 65536 (l.length - z) (vD (l.drop z) / vD m))))], fun s => (slotN s 8 + 1).toNat, fun _ z => z ≤ l.length, fun z => z⟩
 | 8 => some ⟨Nat × Nat, fun z => [(9, .d (i64 z.1)), (10, .d (i64 z.2))], fun _ => [], fun s => ((slotN s 9).toNat, (slotN s 10).toNat), fun s z => (z.1 < z.2 ∧ z.2 ≤ 65536) ∧ vD m * z.1 ≤ vD (intsOf (slotD s 7)) ∧ vD (intsOf (slotD s 7)) < vD m * z.2, fun z => z.2 - z.1⟩
 | _ => none
set_option maxRecDepth 100000 in
theorem vc56  (l m : List Int) (F : D)  :
    (owed c56 (inv56 l m) Try.f56 [dgs l, dgs m] F) = (
 True ∧ True ∧ True ∧ True ∧ True ∧ IntKind.i64 = IntKind.i64 ∧ True ∧ True ∧ (((sm (AV.d (D.val (.int .i64 (IntKind.i64.wrap ((bif decide ((↑l.length : Int) < (↑m.length : Int)) then (↑m.length : Int) else (↑l.length : Int)) - (1 : Int)))))) ∧ True) ∧ True ∧ true = true) ∧ ((-1 : Int) ≤ IntKind.i64.wrap ((bif decide ((↑l.length : Int) < (↑m.length : Int)) then (↑m.length : Int) else (↑l.length : Int)) - (1 : Int)) ∧ IntKind.i64.wrap ((bif decide ((↑l.length : Int) < (↑m.length : Int)) then (↑m.length : Int) else (↑l.length : Int)) - (1 : Int)) ≤ (65536 : Int)) ∧ vB 65536 (List.drop (IntKind.i64.wrap ((bif decide ((↑l.length : Int) < (↑m.length : Int)) then (↑m.length : Int) else (↑l.length : Int)) - (1 : Int)) + (1 : Int)).toNat l) = vB 65536 (List.drop (IntKind.i64.wrap ((bif decide ((↑l.length : Int) < (↑m.length : Int)) then (↑m.length : Int) else (↑l.length : Int)) - (1 : Int)) + (1 : Int)).toNat m)) ∧ ∀ (x : Int), ((-1 : Int) ≤ x ∧ x ≤ (65536 : Int)) ∧ vB 65536 (List.drop (x + (1 : Int)).toNat l) = vB 65536 (List.drop (x + (1 : Int)).toNat m) → true = true ∧ True ∧ True ∧ match decide (x ≥ (0 : Int)) with
 | true => True ∧ True ∧ (∃ (l_1 : List Int), ∃ (i : Int), [D.ints .i64 l, D.val (Value.int IntKind.i64 x)] = [D.ints .i64 l_1, D.val (Value.int IntKind.i64 i)] ∧ lenOk l_1) ∧ True ∧ True ∧ (∃ (l : List Int), ∃ (i : Int), [D.ints .i64 m, D.val (Value.int IntKind.i64 x)] = [D.ints .i64 l, D.val (Value.int IntKind.i64 i)] ∧ lenOk l) ∧ True ∧ True ∧ True ∧ True ∧ True ∧ match decide (dig l x < dig m x) with
  | true => True ∧ (false = false ∧ True) ∧ D.val (.int .i64 (-1 : Int)) = F
  | false => True ∧ True ∧ True ∧ match decide (dig l x > dig m x) with
   | true => True ∧ (false = false ∧ True) ∧ D.val (.int .i64 1) = F
   | false => True ∧ True ∧ True ∧ ((sm (AV.d (D.val (.int .i64 (IntKind.i64.wrap (x - (1 : Int)))))) ∧ True) ∧ True ∧ true = true) ∧ (((-1 : Int) ≤ IntKind.i64.wrap (x - (1 : Int)) ∧ IntKind.i64.wrap (x - (1 : Int)) ≤ (65536 : Int)) ∧ vB 65536 (List.drop (IntKind.i64.wrap (x - (1 : Int)) + (1 : Int)).toNat l) = vB 65536 (List.drop (IntKind.i64.wrap (x - (1 : Int)) + (1 : Int)).toNat m)) ∧ (IntKind.i64.wrap (x - (1 : Int)) + (1 : Int)).toNat < (x + (1 : Int)).toNat
 | false => True ∧ (false = false ∧ True) ∧ D.val (.int .i64 0) = F) := by kernel_rfl
set_option maxRecDepth 100000 in
theorem vc43  (l m : List Int) (F : D)  :
    (owed c43 (inv43 l m) Try.f43 [dgs l, dgs m] F) = (
 True ∧ 1 ≠ 0 ∧ True ∧ True ∧ True ∧ True ∧ (((AV.d (D.val (.int .i64 0)) = AV.d (D.val (.int .i64 (↑(Int.toNat (0 : Int)) : Int))) ∧ AV.d (D.val (.int .i64 0)) = AV.d (D.val (.int .i64 (↑(bor (vB 65536 (List.take (Int.toNat (0 : Int)) l)) (vB 65536 (List.take (Int.toNat (0 : Int)) m))) : Int))) ∧ sm (AV.row 5) ∧ True) ∧ (some (Blk.row (3 : TypeId) (D.ints .i64 [])) = some (Blk.row (3 : TypeId) (D.ints .i64 (nB 65536 (Int.toNat (0 : Int)) (sbD l m (Int.toNat (0 : Int)))))) ∧ True) ∧ true = true) ∧ Int.toNat (0 : Int) ≤ l.length) ∧ ∀ (x : Nat), x ≤ l.length → true = true ∧ True ∧ match decide ((↑x : Int) < (↑l.length : Int)) with
 | true => True ∧ True ∧ True ∧ True ∧ ((0 : Int) ≤ (↑x : Int) ∧ (↑x : Int) < (↑l.length : Int) ∧ 1 = 1) ∧ (1 ≠ 0 ∧ 1 = 1 ∧ false = false) ∧ True ∧ True ∧ (∃ (l : List Int), ∃ (i : Int), [D.ints .i64 m, D.val (.int .i64 (↑x : Int))] = [D.ints .i64 l, D.val (Value.int IntKind.i64 i)] ∧ lenOk l) ∧ True ∧ True ∧ True ∧ True ∧ True ∧ True ∧ True ∧ match decide (IntKind.i64.wrap (IntKind.i64.wrap (l.getD (↑x : Int).toNat (0 : Int) - dig m (↑x : Int)) - (↑(bor (vB 65536 (List.take x l)) (vB 65536 (List.take x m))) : Int)) < (0 : Int)) with
  | true => True ∧ True ∧ True ∧ True ∧ True ∧ True ∧ (1 = 1 ∧ 1 ≤ 4096) ∧ ((3 : TypeId) = (3 : TypeId) ∧ 37 = 37 ∧ true = true ∧ (nB 65536 x (sbD l m x) ++ [IntKind.i64.wrap (IntKind.i64.wrap (IntKind.i64.wrap (l.getD (↑x : Int).toNat (0 : Int) - dig m (↑x : Int)) - (↑(bor (vB 65536 (List.take x l)) (vB 65536 (List.take x m))) : Int)) + (65536 : Int))]).length ≤ 140737488355328 ∧ (nB 65536 x (sbD l m x) ++ [IntKind.i64.wrap (IntKind.i64.wrap (IntKind.i64.wrap (l.getD (↑x : Int).toNat (0 : Int) - dig m (↑x : Int)) - (↑(bor (vB 65536 (List.take x l)) (vB 65536 (List.take x m))) : Int)) + (65536 : Int))]).length * 8 ≤ 140737488355328 ∧ 1 ≠ 0 ∧ 1 = 1) ∧ True ∧ True ∧ True ∧ ((AV.d (D.val (.int .i64 (IntKind.i64.wrap ((↑x : Int) + (1 : Int))))) = AV.d (D.val (.int .i64 (↑(IntKind.i64.wrap ((↑x : Int) + (1 : Int))).toNat : Int))) ∧ AV.d (D.val (.int .i64 1)) = AV.d (D.val (.int .i64 (↑(bor (vB 65536 (List.take (IntKind.i64.wrap ((↑x : Int) + (1 : Int))).toNat l)) (vB 65536 (List.take (IntKind.i64.wrap ((↑x : Int) + (1 : Int))).toNat m))) : Int))) ∧ sm (AV.row 5) ∧ True) ∧ (some (Blk.row (3 : TypeId) (D.ints .i64 (nB 65536 x (sbD l m x) ++ [IntKind.i64.wrap (IntKind.i64.wrap (IntKind.i64.wrap (l.getD (↑x : Int).toNat (0 : Int) - dig m (↑x : Int)) - (↑(bor (vB 65536 (List.take x l)) (vB 65536 (List.take x m))) : Int)) + (65536 : Int))]))) = some (Blk.row (3 : TypeId) (D.ints .i64 (nB 65536 (IntKind.i64.wrap ((↑x : Int) + (1 : Int))).toNat (sbD l m (IntKind.i64.wrap ((↑x : Int) + (1 : Int))).toNat)))) ∧ True) ∧ true = true) ∧ (IntKind.i64.wrap ((↑x : Int) + (1 : Int))).toNat ≤ l.length ∧ l.length - (IntKind.i64.wrap ((↑x : Int) + (1 : Int))).toNat < l.length - x
  | false => True ∧ True ∧ (1 = 1 ∧ 1 ≤ 4096) ∧ ((3 : TypeId) = (3 : TypeId) ∧ 37 = 37 ∧ true = true ∧ (nB 65536 x (sbD l m x) ++ [IntKind.i64.wrap (IntKind.i64.wrap (l.getD (↑x : Int).toNat (0 : Int) - dig m (↑x : Int)) - (↑(bor (vB 65536 (List.take x l)) (vB 65536 (List.take x m))) : Int))]).length ≤ 140737488355328 ∧ (nB 65536 x (sbD l m x) ++ [IntKind.i64.wrap (IntKind.i64.wrap (l.getD (↑x : Int).toNat (0 : Int) - dig m (↑x : Int)) - (↑(bor (vB 65536 (List.take x l)) (vB 65536 (List.take x m))) : Int))]).length * 8 ≤ 140737488355328 ∧ 1 ≠ 0 ∧ 1 = 1) ∧ True ∧ True ∧ True ∧ ((AV.d (D.val (.int .i64 (IntKind.i64.wrap ((↑x : Int) + (1 : Int))))) = AV.d (D.val (.int .i64 (↑(IntKind.i64.wrap ((↑x : Int) + (1 : Int))).toNat : Int))) ∧ AV.d (D.val (.int .i64 0)) = AV.d (D.val (.int .i64 (↑(bor (vB 65536 (List.take (IntKind.i64.wrap ((↑x : Int) + (1 : Int))).toNat l)) (vB 65536 (List.take (IntKind.i64.wrap ((↑x : Int) + (1 : Int))).toNat m))) : Int))) ∧ sm (AV.row 5) ∧ True) ∧ (some (Blk.row (3 : TypeId) (D.ints .i64 (nB 65536 x (sbD l m x) ++ [IntKind.i64.wrap (IntKind.i64.wrap (l.getD (↑x : Int).toNat (0 : Int) - dig m (↑x : Int)) - (↑(bor (vB 65536 (List.take x l)) (vB 65536 (List.take x m))) : Int))]))) = some (Blk.row (3 : TypeId) (D.ints .i64 (nB 65536 (IntKind.i64.wrap ((↑x : Int) + (1 : Int))).toNat (sbD l m (IntKind.i64.wrap ((↑x : Int) + (1 : Int))).toNat)))) ∧ True) ∧ true = true) ∧ (IntKind.i64.wrap ((↑x : Int) + (1 : Int))).toNat ≤ l.length ∧ l.length - (IntKind.i64.wrap ((↑x : Int) + (1 : Int))).toNat < l.length - x
 | false => True ∧ (∃ (l_1 : List Int), [D.ints .i64 (nB 65536 x (sbD l m x))] = [D.ints .i64 l_1] ∧ lenOk l_1) ∧ True ∧ (false = false ∧ True) ∧ D.ints .i64 (trimL (nB 65536 x (sbD l m x))) = F) := by kernel_rfl
set_option maxRecDepth 100000 in
theorem vc51  (l m : List Int) (F : D)  :
    (owed c51 (inv51 l m) Try.f51 [dgs l, dgs m] F) = (
 True ∧ True ∧ True ∧ True ∧ ((0 : Int) ≤ (↑l.length : Int) ∧ (↑l.length : Int) = (↑l.length : Int) ∧ (↑l.length : Int) ≤ (281474976710656 : Int) ∧ (↑(8 : Nat) : Int) * (↑l.length : Int) ≤ (281474976710656 : Int) ∧ 1 = 1) ∧ True ∧ True ∧ True ∧ True ∧ True ∧ True ∧ (((AV.d (D.val (.int .i64 (IntKind.i64.wrap ((↑l.length : Int) - (1 : Int))))) = AV.d (D.val (.int .i64 ((↑(IntKind.i64.wrap ((↑l.length : Int) - (1 : Int)) + (1 : Int)).toNat : Int) - (1 : Int)))) ∧ dg (vB 65536 (List.drop (IntKind.i64.wrap ((↑l.length : Int) - (1 : Int)) + (1 : Int)).toNat l) % vB 65536 m) = [] ∧ True) ∧ (some (Blk.fix (D.arr .i64 (↑l.length : Int).toNat (List.replicate (↑l.length : Int).toNat (0 : Int)))) = some (Blk.fix (D.arr .i64 l.length (List.replicate (IntKind.i64.wrap ((↑l.length : Int) - (1 : Int)) + (1 : Int)).toNat (0 : Int) ++ nB 65536 (l.length - (IntKind.i64.wrap ((↑l.length : Int) - (1 : Int)) + (1 : Int)).toNat) (vB 65536 (List.drop (IntKind.i64.wrap ((↑l.length : Int) - (1 : Int)) + (1 : Int)).toNat l) / vB 65536 m)))) ∧ True) ∧ true = true) ∧ (IntKind.i64.wrap ((↑l.length : Int) - (1 : Int)) + (1 : Int)).toNat ≤ l.length) ∧ ∀ (x : Nat), x ≤ l.length → true = true ∧ True ∧ True ∧ match decide ((↑x : Int) - (1 : Int) ≥ 0) with
 | true => True ∧ True ∧ ((0 : Int) ≤ (↑x : Int) - (1 : Int) ∧ (↑x : Int) - (1 : Int) < (↑l.length : Int) ∧ 1 = 1) ∧ (1 ≠ 0 ∧ 1 = 1 ∧ false = false) ∧ (1 = 1 ∧ 1 ≤ 4096) ∧ True ∧ ((3 : TypeId) = (3 : TypeId) ∧ 37 = 37 ∧ true = true ∧ (l.getD ((↑x : Int) - (1 : Int)).toNat (0 : Int) :: dg (vB 65536 (List.drop x l) % vB 65536 m)).length ≤ 140737488355328 ∧ (l.getD ((↑x : Int) - (1 : Int)).toNat (0 : Int) :: dg (vB 65536 (List.drop x l) % vB 65536 m)).length * 8 ≤ 140737488355328 ∧ 1 ≠ 0 ∧ 1 = 1) ∧ (∃ (l_1 : List Int), [D.ints .i64 (l.getD ((↑x : Int) - (1 : Int)).toNat (0 : Int) :: dg (vB 65536 (List.drop x l) % vB 65536 m))] = [D.ints .i64 l_1] ∧ lenOk l_1) ∧ True ∧ True ∧ True ∧ (((AV.d (D.val (.int .i64 0)) = AV.d (D.val (.int .i64 (↑(0 : Nat) : Int))) ∧ AV.d (D.val (.int .i64 65536)) = AV.d (D.val (.int .i64 (↑(65536 : Nat) : Int))) ∧ True) ∧ (sm (some (Blk.fix (D.arr .i64 l.length (List.replicate x (0 : Int) ++ nB 65536 (l.length - x) (vB 65536 (List.drop x l) / vB 65536 m))))) ∧ True) ∧ true = true) ∧ (0 < 65536 ∧ 65536 ≤ 65536) ∧ vB 65536 m * 0 ≤ vB 65536 (trimL (l.getD ((↑x : Int) - (1 : Int)).toNat (0 : Int) :: dg (vB 65536 (List.drop x l) % vB 65536 m))) ∧ vB 65536 (trimL (l.getD ((↑x : Int) - (1 : Int)).toNat (0 : Int) :: dg (vB 65536 (List.drop x l) % vB 65536 m))) < vB 65536 m * 65536) ∧ ∀ (x_1 : Nat × Nat), (x_1.fst < x_1.snd ∧ x_1.snd ≤ 65536) ∧ vB 65536 m * x_1.fst ≤ vB 65536 (trimL (l.getD ((↑x : Int) - (1 : Int)).toNat (0 : Int) :: dg (vB 65536 (List.drop x l) % vB 65536 m))) ∧ vB 65536 (trimL (l.getD ((↑x : Int) - (1 : Int)).toNat (0 : Int) :: dg (vB 65536 (List.drop x l) % vB 65536 m))) < vB 65536 m * x_1.snd → true = true ∧ True ∧ True ∧ True ∧ True ∧ match decide (IntKind.i64.wrap ((↑x_1.snd : Int) - (↑x_1.fst : Int)) > (1 : Int)) with
  | true => True ∧ True ∧ True ∧ (2 : Int) ≠ 0 ∧ True ∧ True ∧ True ∧ (1 = 1 ∧ 1 ≤ 4096) ∧ (∃ (l : List Int), ∃ (m_1 : List Int), [D.ints .i64 m, D.ints .i64 [IntKind.i64.wrap ((IntKind.i64.wrap ((↑x_1.fst : Int) + (↑x_1.snd : Int))).tdiv (2 : Int))]] = [D.ints .i64 l, D.ints .i64 m_1] ∧ (okd l ∧ lenS l) ∧ okd m_1 ∧ lenS m_1) ∧ True ∧ (∃ (l_1 : List Int), ∃ (m_1 : List Int), [D.ints .i64 (dg (vB 65536 m * vB 65536 [IntKind.i64.wrap ((IntKind.i64.wrap ((↑x_1.fst : Int) + (↑x_1.snd : Int))).tdiv (2 : Int))])), D.ints .i64 (trimL (l.getD ((↑x : Int) - (1 : Int)).toNat (0 : Int) :: dg (vB 65536 (List.drop x l) % vB 65536 m)))] = [D.ints .i64 l_1, D.ints .i64 m_1] ∧ (okd l_1 ∧ lenS l_1) ∧ okd m_1 ∧ lenS m_1) ∧ True ∧ match decide (cmpN (vB 65536 (dg (vB 65536 m * vB 65536 [IntKind.i64.wrap ((IntKind.i64.wrap ((↑x_1.fst : Int) + (↑x_1.snd : Int))).tdiv (2 : Int))]))) (vB 65536 (trimL (l.getD ((↑x : Int) - (1 : Int)).toNat (0 : Int) :: dg (vB 65536 (List.drop x l) % vB 65536 m)))) ≤ (0 : Int)) with
   | true => True ∧ True ∧ ((AV.d (D.val (.int .i64 (IntKind.i64.wrap ((IntKind.i64.wrap ((↑x_1.fst : Int) + (↑x_1.snd : Int))).tdiv (2 : Int))))) = AV.d (D.val (.int .i64 (↑(IntKind.i64.wrap ((IntKind.i64.wrap ((↑x_1.fst : Int) + (↑x_1.snd : Int))).tdiv (2 : Int))).toNat : Int))) ∧ AV.d (D.val (.int .i64 (↑x_1.snd : Int))) = AV.d (D.val (.int .i64 (↑(↑x_1.snd : Int).toNat : Int))) ∧ True) ∧ (sm (some (Blk.fix (D.arr .i64 l.length (List.replicate x (0 : Int) ++ nB 65536 (l.length - x) (vB 65536 (List.drop x l) / vB 65536 m))))) ∧ True) ∧ true = true) ∧ (((IntKind.i64.wrap ((IntKind.i64.wrap ((↑x_1.fst : Int) + (↑x_1.snd : Int))).tdiv (2 : Int))).toNat < (↑x_1.snd : Int).toNat ∧ (↑x_1.snd : Int).toNat ≤ 65536) ∧ vB 65536 m * (IntKind.i64.wrap ((IntKind.i64.wrap ((↑x_1.fst : Int) + (↑x_1.snd : Int))).tdiv (2 : Int))).toNat ≤ vB 65536 (trimL (l.getD ((↑x : Int) - (1 : Int)).toNat (0 : Int) :: dg (vB 65536 (List.drop x l) % vB 65536 m))) ∧ vB 65536 (trimL (l.getD ((↑x : Int) - (1 : Int)).toNat (0 : Int) :: dg (vB 65536 (List.drop x l) % vB 65536 m))) < vB 65536 m * (↑x_1.snd : Int).toNat) ∧ (↑x_1.snd : Int).toNat - (IntKind.i64.wrap ((IntKind.i64.wrap ((↑x_1.fst : Int) + (↑x_1.snd : Int))).tdiv (2 : Int))).toNat < x_1.snd - x_1.fst
   | false => True ∧ True ∧ ((AV.d (D.val (.int .i64 (↑x_1.fst : Int))) = AV.d (D.val (.int .i64 (↑(↑x_1.fst : Int).toNat : Int))) ∧ AV.d (D.val (.int .i64 (IntKind.i64.wrap ((IntKind.i64.wrap ((↑x_1.fst : Int) + (↑x_1.snd : Int))).tdiv (2 : Int))))) = AV.d (D.val (.int .i64 (↑(IntKind.i64.wrap ((IntKind.i64.wrap ((↑x_1.fst : Int) + (↑x_1.snd : Int))).tdiv (2 : Int))).toNat : Int))) ∧ True) ∧ (sm (some (Blk.fix (D.arr .i64 l.length (List.replicate x (0 : Int) ++ nB 65536 (l.length - x) (vB 65536 (List.drop x l) / vB 65536 m))))) ∧ True) ∧ true = true) ∧ (((↑x_1.fst : Int).toNat < (IntKind.i64.wrap ((IntKind.i64.wrap ((↑x_1.fst : Int) + (↑x_1.snd : Int))).tdiv (2 : Int))).toNat ∧ (IntKind.i64.wrap ((IntKind.i64.wrap ((↑x_1.fst : Int) + (↑x_1.snd : Int))).tdiv (2 : Int))).toNat ≤ 65536) ∧ vB 65536 m * (↑x_1.fst : Int).toNat ≤ vB 65536 (trimL (l.getD ((↑x : Int) - (1 : Int)).toNat (0 : Int) :: dg (vB 65536 (List.drop x l) % vB 65536 m))) ∧ vB 65536 (trimL (l.getD ((↑x : Int) - (1 : Int)).toNat (0 : Int) :: dg (vB 65536 (List.drop x l) % vB 65536 m))) < vB 65536 m * (IntKind.i64.wrap ((IntKind.i64.wrap ((↑x_1.fst : Int) + (↑x_1.snd : Int))).tdiv (2 : Int))).toNat) ∧ (IntKind.i64.wrap ((IntKind.i64.wrap ((↑x_1.fst : Int) + (↑x_1.snd : Int))).tdiv (2 : Int))).toNat - (↑x_1.fst : Int).toNat < x_1.snd - x_1.fst
  | false => True ∧ True ∧ match decide ((↑x_1.fst : Int) > (0 : Int)) with
   | true => True ∧ True ∧ True ∧ (1 = 1 ∧ 1 ≤ 4096) ∧ (∃ (l : List Int), ∃ (m_1 : List Int), [D.ints .i64 m, D.ints .i64 [(↑x_1.fst : Int)]] = [D.ints .i64 l, D.ints .i64 m_1] ∧ (okd l ∧ lenS l) ∧ okd m_1 ∧ lenS m_1) ∧ (∃ (l_1 : List Int), ∃ (m_1 : List Int), [D.ints .i64 (trimL (l.getD ((↑x : Int) - (1 : Int)).toNat (0 : Int) :: dg (vB 65536 (List.drop x l) % vB 65536 m))), D.ints .i64 (dg (vB 65536 m * vB 65536 [(↑x_1.fst : Int)]))] = [D.ints .i64 l_1, D.ints .i64 m_1] ∧ (okd l_1 ∧ lenS l_1) ∧ (okd m_1 ∧ lenS m_1) ∧ vB 65536 m_1 ≤ vB 65536 l_1) ∧ True ∧ True ∧ True ∧ True ∧ ((0 : Int) ≤ (↑x : Int) - (1 : Int) ∧ (↑x : Int) - (1 : Int) < (↑(↑l.length : Int).toNat : Int) ∧ 1 = 1) ∧ ((0 + ((↑x : Int) - (1 : Int)).toNat < l.length ∧ ([] : List Nat) = [] ∧ true = true) ∧ 1 ≠ 0 ∧ 1 = 1 ∧ false = false) ∧ True ∧ True ∧ True ∧ ((AV.d (D.val (.int .i64 (IntKind.i64.wrap ((↑x : Int) - (1 : Int) - (1 : Int))))) = AV.d (D.val (.int .i64 ((↑(IntKind.i64.wrap ((↑x : Int) - (1 : Int) - (1 : Int)) + (1 : Int)).toNat : Int) - (1 : Int)))) ∧ AV.d (D.ints .i64 (dg (vB 65536 (trimL (l.getD ((↑x : Int) - (1 : Int)).toNat (0 : Int) :: dg (vB 65536 (List.drop x l) % vB 65536 m))) - vB 65536 (dg (vB 65536 m * vB 65536 [(↑x_1.fst : Int)]))))) = AV.d (D.ints .i64 (dg (vB 65536 (List.drop (IntKind.i64.wrap ((↑x : Int) - (1 : Int) - (1 : Int)) + (1 : Int)).toNat l) % vB 65536 m))) ∧ True) ∧ (some (Blk.fix (D.arr .i64 l.length ((List.replicate x (0 : Int) ++ nB 65536 (l.length - x) (vB 65536 (List.drop x l) / vB 65536 m)).set (0 + ((↑x : Int) - (1 : Int)).toNat) (↑x_1.fst : Int)))) = some (Blk.fix (D.arr .i64 l.length (List.replicate (IntKind.i64.wrap ((↑x : Int) - (1 : Int) - (1 : Int)) + (1 : Int)).toNat (0 : Int) ++ nB 65536 (l.length - (IntKind.i64.wrap ((↑x : Int) - (1 : Int) - (1 : Int)) + (1 : Int)).toNat) (vB 65536 (List.drop (IntKind.i64.wrap ((↑x : Int) - (1 : Int) - (1 : Int)) + (1 : Int)).toNat l) / vB 65536 m)))) ∧ True) ∧ true = true) ∧ (IntKind.i64.wrap ((↑x : Int) - (1 : Int) - (1 : Int)) + (1 : Int)).toNat ≤ l.length ∧ (IntKind.i64.wrap ((↑x : Int) - (1 : Int) - (1 : Int)) + (1 : Int)).toNat < x
   | false => True ∧ True ∧ True ∧ ((0 : Int) ≤ (↑x : Int) - (1 : Int) ∧ (↑x : Int) - (1 : Int) < (↑(↑l.length : Int).toNat : Int) ∧ 1 = 1) ∧ ((0 + ((↑x : Int) - (1 : Int)).toNat < l.length ∧ ([] : List Nat) = [] ∧ true = true) ∧ 1 ≠ 0 ∧ 1 = 1 ∧ false = false) ∧ True ∧ True ∧ True ∧ ((AV.d (D.val (.int .i64 (IntKind.i64.wrap ((↑x : Int) - (1 : Int) - (1 : Int))))) = AV.d (D.val (.int .i64 ((↑(IntKind.i64.wrap ((↑x : Int) - (1 : Int) - (1 : Int)) + (1 : Int)).toNat : Int) - (1 : Int)))) ∧ AV.d (D.ints .i64 (trimL (l.getD ((↑x : Int) - (1 : Int)).toNat (0 : Int) :: dg (vB 65536 (List.drop x l) % vB 65536 m)))) = AV.d (D.ints .i64 (dg (vB 65536 (List.drop (IntKind.i64.wrap ((↑x : Int) - (1 : Int) - (1 : Int)) + (1 : Int)).toNat l) % vB 65536 m))) ∧ True) ∧ (some (Blk.fix (D.arr .i64 l.length ((List.replicate x (0 : Int) ++ nB 65536 (l.length - x) (vB 65536 (List.drop x l) / vB 65536 m)).set (0 + ((↑x : Int) - (1 : Int)).toNat) (↑x_1.fst : Int)))) = some (Blk.fix (D.arr .i64 l.length (List.replicate (IntKind.i64.wrap ((↑x : Int) - (1 : Int) - (1 : Int)) + (1 : Int)).toNat (0 : Int) ++ nB 65536 (l.length - (IntKind.i64.wrap ((↑x : Int) - (1 : Int) - (1 : Int)) + (1 : Int)).toNat) (vB 65536 (List.drop (IntKind.i64.wrap ((↑x : Int) - (1 : Int) - (1 : Int)) + (1 : Int)).toNat l) / vB 65536 m)))) ∧ True) ∧ true = true) ∧ (IntKind.i64.wrap ((↑x : Int) - (1 : Int) - (1 : Int)) + (1 : Int)).toNat ≤ l.length ∧ (IntKind.i64.wrap ((↑x : Int) - (1 : Int) - (1 : Int)) + (1 : Int)).toNat < x
 | false => True ∧ (∃ (l_1 : List Int), [D.ints .i64 (List.take (↑l.length : Int).toNat (List.drop 0 (List.replicate x (0 : Int) ++ nB 65536 (l.length - x) (vB 65536 (List.drop x l) / vB 65536 m))))] = [D.ints .i64 l_1] ∧ lenOk l_1) ∧ True ∧ True ∧ True ∧ (false = false ∧ false = false ∧ True) ∧ D.tup [D.ints .i64 (trimL (List.take (↑l.length : Int).toNat (List.drop 0 (List.replicate x (0 : Int) ++ nB 65536 (l.length - x) (vB 65536 (List.drop x l) / vB 65536 m))))), D.ints .i64 (dg (vB 65536 (List.drop x l) % vB 65536 m))] = F) := by kernel_rfl
set_option maxRecDepth 100000 in
theorem vc35  (l m : List Int) (F : D)  :
    (owed c35 (fun _ => none) Try.f35 [dgs l, dgs m] F) = (
 True ∧ True ∧ True ∧ (∃ (l_1 : List Int), ∃ (m_1 : List Int), [D.ints .i64 l, D.ints .i64 m] = [D.ints .i64 l_1, D.ints .i64 m_1] ∧ (okd l_1 ∧ len1 l_1) ∧ (okd m_1 ∧ len1 m_1) ∧ vB 65536 m_1 ≠ 0) ∧ True ∧ (0 < 2 ∧ false = false) ∧ (1 < 2 ∧ false = false) ∧ True ∧ True ∧ True ∧ True ∧ (false = false ∧ True) ∧ D.ints .i64 (dg (vB 65536 l % vB 65536 m)) = F) := by kernel_rfl
theorem mod_one (X Y M : Nat) (h : X = Y ∨ X = Y + M) (hy : Y < M) : X % M = Y := by
 rcases h with rfl | rfl
 ·exact Nat.mod_eq_of_lt hy
 ·rw [Nat.add_mod_right, Nat.mod_eq_of_lt hy]
theorem nB_low (b n lo d : Nat) (h : lo < b ^ n) : nB b n (lo + b ^ n * d) = nB b n lo := by
 rw [← nB_mod b n (lo + b ^ n * d), Nat.add_mul_mod_self_left, nB_mod]
theorem len_ok {n k : Nat} (h : n < 65536 ^ k) (hk : k ≤ 65536) : lenS (dg n) ∧ lenOk (dg n) := by
 have := dg_len k n h
 exact ⟨by unfold lenS; omega, by unfold lenOk; omega⟩
theorem vB_dropS (b : Nat) {l : List Int} (i : Nat) (h : i < l.length) : vB b (l.drop i) = (l.getD i 0).toNat + b * vB b (l.drop (i + 1)) := by
 rw [List.drop_eq_getElem_cons h, vB]
 simp [h]
end Go.Proofs.Ytpkcmjfmoemekaa
namespace Go.Proofs.Ytpkcmjfmoemekaa
open Go Go.Vg
theorem vd_split (a i : Nat) : a / 65536 ^ i = 65536 * (a / 65536 ^ (i + 1)) + a / 65536 ^ i % 65536 := by
 rw [Nat.pow_succ, ← Nat.div_div_eq_div_mul, Nat.div_add_mod]
set_option maxRecDepth 100000 in
theorem m56 : Meets Try.prog 56 sp56 := by
 refine meets_of_owed (C := c56) ⟨tab_ok, lkS_ok ⟨m39, trivial⟩⟩ (by kernel_rfl) (by kernel_rfl : Try.prog.funcs[56]? = some Try.f56) (by kernel_rfl) (by kernel_rfl) (by kernel_rfl) _ ?_
 rintro _ ⟨l, m, rfl, ⟨hl, hls⟩, hm, hms⟩
 refine ⟨fun _ => rfl, inv56 l m, ?_⟩
 show owed c56 (inv56 l m) Try.f56 [dgs l, dgs m] (i64 (cmpN (vD l) (vD m)))
 rw [vc56]
 have hls : l.length ≤ 65536 := hls
 have hms : m.length ≤ 65536 := hms
 have hlo : lenOk l := by unfold lenOk; omega
 have hmo : lenOk m := by unfold lenOk; omega
 simp (decide := true) only [eq_self, true_and, and_true, ne_eq, not_false_eq_true, Int.toNat_natCast]
 obtain ⟨k, hk, hk1, hk2⟩ : ∃ k : Nat, (bif decide ((l.length : Int) < (m.length : Int)) then (m.length : Int) else (l.length : Int)) = (k : Int) ∧ l.length ≤ k ∧ m.length ≤ k ∧ k ≤ 65536 := by
  by_cases h : l.length < m.length
  ·exact ⟨m.length, by rw [decide_eq_true (by omega), cond_true], by omega, by omega, by omega⟩
  ·exact ⟨l.length, by rw [decide_eq_false (by omega), cond_false], by omega, by omega, by omega⟩
 obtain ⟨hk2, hk3⟩ := hk2
 rw [hk, wi (n := (k : Int) - 1) (by omega) (by omega), show (k : Int) - 1 + 1 = (k : Int) by omega]
 simp only [Int.toNat_natCast]
 refine ⟨⟨by omega, by rw [List.drop_of_length_le hk1, List.drop_of_length_le hk2]⟩, ?_⟩
 rintro i ⟨hi, he⟩
 obtain ⟨z, rfl⟩ : ∃ z : Nat, i = (z : Int) - 1 := ⟨(i + 1).toNat, by omega⟩
 rw [show ((z : Int) - 1 + 1) = (z : Int) by omega] at he ⊢
 simp only [Int.toNat_natCast] at he ⊢
 rw [vB_drop hl, vB_drop hm] at he
 split
 ·rename_i h
  have h := of_decide_eq_true h
  obtain ⟨u, rfl⟩ : ∃ u, z = u + 1 := ⟨z - 1, by omega⟩
  rw [show ((u + 1 : Nat) : Int) - 1 = (u : Int) by omega, wi (n := (u : Int) - 1) (by omega) (by omega), show ((u : Int) - 1 + 1) = (u : Int) by omega, dig_nat hl, dig_nat hm]
  simp only [Int.toNat_natCast]
  have s1 := vd_split (vB 65536 l) u
  have s2 := vd_split (vB 65536 m) u
  rw [he] at s1
  clear he
  have hdd0 : vB 65536 l / 65536 ^ u = vB 65536 m / 65536 ^ u → vB 65536 (l.drop u) = vB 65536 (m.drop u) := fun h => by rw [vB_drop hl, vB_drop hm, h]
  have lt1 : vB 65536 l / 65536 ^ u < vB 65536 m / 65536 ^ u → vD l < vD m := fun h => Nat.lt_of_div_lt_div (c := 65536 ^ u) h
  have lt2 : vB 65536 m / 65536 ^ u < vB 65536 l / 65536 ^ u → vD m < vD l := fun h => Nat.lt_of_div_lt_div (c := 65536 ^ u) h
  generalize vB 65536 m / 65536 ^ (u + 1) = Q at s1 s2
  generalize vB 65536 l / 65536 ^ u = p at *
  generalize vB 65536 m / 65536 ^ u = q at *
  refine ⟨⟨l, _, rfl, hlo⟩, ⟨m, _, rfl, hmo⟩, ?_⟩
  split
  ·rename_i h2
   have h2 := of_decide_eq_true h2
   have := lt1 (by omega)
   unfold cmpN
   rw [if_pos this]
  ·rename_i h2
   have h2 := of_decide_eq_false h2
   split
   ·rename_i h3
    have h3 := of_decide_eq_true h3
    have := lt2 (by omega)
    unfold cmpN
    rw [if_neg (by omega), if_pos this]
   ·rename_i h3
    have h3 := of_decide_eq_false h3
    have hdd := hdd0 (by omega)
    and_intros <;> first | exact hdd | omega | rfl | trivial
 ·rename_i h
  have h := of_decide_eq_false h
  obtain rfl : z = 0 := by omega
  rw [Nat.pow_zero, Nat.div_one, Nat.div_one] at he
  have he : vD l = vD m := he
  unfold cmpN
  rw [if_neg (by omega), if_neg (by omega)]
theorem sub_numD (P A C x y d e D : Nat) (hA : A < P) (hC : C < P) (hD : d < D) (hP : 0 < D)
  (hc : (y + bor A C ≤ x ∧ d + y + bor A C = x ∧ e = 0) ∨ (x < y + bor A C ∧ d + y + bor A C = x + D ∧ e = 1)) :
  (A + P * x + P * D - (C + P * y)) % (P * D) = (A + P - C) % P + P * d ∧ bor (A + P * x) (C + P * y) = e := by
 have hb : bor A C ≤ 1 := by unfold bor; split <;> omega
 have hAC : (A < C ∧ bor A C = 1 ∧ (A + P - C) % P = A + P - C) ∨ (C ≤ A ∧ bor A C = 0 ∧ (A + P - C) % P = A - C) := by
  rcases Nat.lt_or_ge A C with h | h
  ·exact .inl ⟨h, if_pos h, Nat.mod_eq_of_lt (by omega)⟩
  ·exact .inr ⟨h, if_neg (by omega), mod_one _ _ _ (.inr (by omega)) (by omega)⟩
 generalize bor A C = b at hb hAC hc
 have m1x : P * (d + 1) ≤ P * D := Nat.mul_le_mul_left P hD
 rw [Nat.mul_add, Nat.mul_one] at m1x
 have hr : (A + P - C) % P < P := Nat.mod_lt _ (by omega)
 have lin : ∀ u v : Nat, u = v → P * u = P * v := fun u v h => by rw [h]
 have fin : ∀ s t : Nat, (s < t ↔ e = 1) → (e = 0 ∨ e = 1) → bor s t = e := by
  intro s t h1 h2
  unfold bor
  split
  ·rename_i h; exact (h1.1 h).symm
  ·rename_i h; rcases h2 with h2 | h2
   ·exact h2.symm
   ·exact absurd (h1.2 h2) h
 rcases hAC with ⟨h1, h2, h3⟩ | ⟨h1, h2, h3⟩ <;> rcases hc with ⟨c1x, c2x, c3xx⟩ | ⟨c1x, c2x, c3xx⟩
 all_goals
  have q := lin _ _ c2x
  subst h2
  simp only [Nat.mul_add, Nat.mul_one, Nat.mul_zero, Nat.add_zero] at q
  rw [h3] at hr ⊢
  have hB : P ≤ P * D := Nat.le_mul_of_pos_right P hP
  generalize P * D = PB at *
  generalize P * x = Px at *
  generalize P * y = Py at *
  generalize P * d = Pd at *
  refine ⟨mod_one _ _ _ (by omega) (by omega), fin _ _ (by omega) (by omega)⟩
theorem okd_get {l : List Int} (h : okd l) {i : Nat} (hi : i < l.length) : ∃ n : Nat, l.getD i 0 = (n : Int) ∧ n < 65536 := by
 have := h _ (getD_memN hi)
 exact ⟨(l.getD i 0).toNat, by omega, by omega⟩
theorem take_dig {m : List Int} (hm : okd m) (i : Nat) : vB 65536 (m.take (i + 1)) = vB 65536 (m.take i) + 65536 ^ i * (vB 65536 m / 65536 ^ i % 65536) := by
 rw [vB_take hm, vB_take hm, Nat.pow_succ, Nat.mod_mul]
theorem sbD_step {l m : List Int} (hl : okd l) (hm : okd m) {i x : Nat} (hi : i < l.length) (ex : l.getD i 0 = (x : Int)) (hx : x < 65536) :
  (((x : Int) - ((vB 65536 m / 65536 ^ i % 65536 : Nat) : Int) - ((bor (vB 65536 (l.take i)) (vB 65536 (m.take i)) : Nat) : Int) < 0 →
   nB 65536 i (sbD l m i) ++ [(x : Int) - ((vB 65536 m / 65536 ^ i % 65536 : Nat) : Int) - ((bor (vB 65536 (l.take i)) (vB 65536 (m.take i)) : Nat) : Int) + 65536] = nB 65536 (i + 1) (sbD l m (i + 1)) ∧ bor (vB 65536 (l.take (i + 1))) (vB 65536 (m.take (i + 1))) = 1)) ∧
  ((0 ≤ (x : Int) - ((vB 65536 m / 65536 ^ i % 65536 : Nat) : Int) - ((bor (vB 65536 (l.take i)) (vB 65536 (m.take i)) : Nat) : Int) →
   nB 65536 i (sbD l m i) ++ [(x : Int) - ((vB 65536 m / 65536 ^ i % 65536 : Nat) : Int) - ((bor (vB 65536 (l.take i)) (vB 65536 (m.take i)) : Nat) : Int)] = nB 65536 (i + 1) (sbD l m (i + 1)) ∧ bor (vB 65536 (l.take (i + 1))) (vB 65536 (m.take (i + 1))) = 0)) := by
 have e1 := vB_take1 (b := 65536) (l := l) i hi
 rw [ex, Int.toNat_natCast] at e1
 have e2 := take_dig hm i
 have hA := vB_lt (b := 65536) (l := l.take i) fun z hz => hl z (List.mem_of_mem_take hz)
 rw [List.length_take, show min i l.length = i by omega] at hA
 have hC : vB 65536 (m.take i) < 65536 ^ i := by rw [vB_take hm]; exact Nat.mod_lt _ (Nat.pow_pos (by decide))
 have hy : vB 65536 m / 65536 ^ i % 65536 < 65536 := Nat.mod_lt _ (by decide)
 generalize vB 65536 m / 65536 ^ i % 65536 = y at e2 hy ⊢
 have hb : bor (vB 65536 (l.take i)) (vB 65536 (m.take i)) ≤ 1 := by unfold bor; split <;> omega
 have low : ∀ lo d : Nat, lo < 65536 ^ i → d < 65536 → nB 65536 (i + 1) (lo + 65536 ^ i * d) = nB 65536 i lo ++ [((d : Nat) : Int)] := by
  intro lo d h1 h2
  rw [nB_push, nB_low _ _ _ _ h1, Nat.add_mul_div_left _ _ (Nat.pow_pos (by decide)), Nat.div_eq_of_lt h1, Nat.zero_add, Nat.mod_eq_of_lt h2]
 have hlo : sbD l m i < 65536 ^ i := Nat.mod_lt _ (Nat.pow_pos (by decide))
 constructor
 ·intro hneg
  obtain ⟨d, hd⟩ : ∃ d : Nat, (x : Int) - (y : Int) - ((bor (vB 65536 (l.take i)) (vB 65536 (m.take i)) : Nat) : Int) + 65536 = (d : Int) := ⟨((x : Int) - (y : Int) - ((bor (vB 65536 (l.take i)) (vB 65536 (m.take i)) : Nat) : Int) + 65536).toNat, by omega⟩
  obtain ⟨n1, n2⟩ := sub_numD (65536 ^ i) _ _ x y d 1 65536 hA hC (by omega) (by decide) (.inr ⟨by omega, by omega, rfl⟩)
  rw [← e1, ← e2] at n1 n2
  refine ⟨?_, n2⟩
  have : sbD l m (i + 1) = sbD l m i + 65536 ^ i * d := by
   unfold sbD
   rw [Nat.pow_succ]
   exact n1
  rw [hd, this, low _ _ hlo (by omega)]
 ·intro hpos
  obtain ⟨d, hd⟩ : ∃ d : Nat, (x : Int) - (y : Int) - ((bor (vB 65536 (l.take i)) (vB 65536 (m.take i)) : Nat) : Int) = (d : Int) := ⟨((x : Int) - (y : Int) - ((bor (vB 65536 (l.take i)) (vB 65536 (m.take i)) : Nat) : Int)).toNat, by omega⟩
  obtain ⟨n1, n2⟩ := sub_numD (65536 ^ i) _ _ x y d 0 65536 hA hC (by omega) (by decide) (.inl ⟨by omega, by omega, rfl⟩)
  rw [← e1, ← e2] at n1 n2
  refine ⟨?_, n2⟩
  have : sbD l m (i + 1) = sbD l m i + 65536 ^ i * d := by
   unfold sbD
   rw [Nat.pow_succ]
   exact n1
  rw [hd, this, low _ _ hlo (by omega)]
theorem nB_okd (n v : Nat) : okd (nB 65536 n v) := by
 intro x hx
 induction n generalizing v with
 | zero => cases hx
 | succ n ih =>
  rw [nB, List.mem_cons] at hx
  rcases hx with rfl | hx
  ·have := Nat.mod_lt v (y := 65536) (by decide)
   omega
  ·exact ih _ hx
set_option maxRecDepth 100000 in
theorem m43 : Meets Try.prog 43 sp43 := by
 refine meets_of_owed (C := c43) ⟨tab_ok, lkS_ok ⟨m39, m41, trivial⟩⟩ (by kernel_rfl) (by kernel_rfl : Try.prog.funcs[43]? = some Try.f43) (by kernel_rfl) (by kernel_rfl) (by kernel_rfl) _ ?_
 rintro _ ⟨l, m, rfl, ⟨hl, hls⟩, ⟨hm, hms⟩, hle⟩
 refine ⟨fun h => (by cases h), inv43 l m, ?_⟩
 show owed c43 (inv43 l m) Try.f43 [dgs l, dgs m] (dgs (dg (vD l - vD m)))
 rw [vc43]
 have hls : l.length ≤ 65536 := hls
 have hms : m.length ≤ 65536 := hms
 have hmo : lenOk m := by unfold lenOk; omega
 simp (decide := true) only [eq_self, true_and, and_true, ne_eq, not_false_eq_true, Int.toNat_natCast, List.length_append, List.length_singleton, nB_length]
 refine ⟨by and_intros <;> first | rfl | omega | trivial, ?_⟩
 intro i hi
 split
 ·rename_i h
  have h := of_decide_eq_true h
  obtain ⟨x, ex, hx⟩ := okd_get hl (i := i) (by omega)
  obtain ⟨s1, s2⟩ := sbD_step hl hm (i := i) (by omega) ex hx
  have hy : vB 65536 m / 65536 ^ i % 65536 < 65536 := Nat.mod_lt _ (by decide)
  have hb : bor (vB 65536 (l.take i)) (vB 65536 (m.take i)) ≤ 1 := by unfold bor; split <;> omega
  simp only [Int.toNat_natCast, ex]
  rw [dig_nat hm, show ((i : Int) + 1) = ((i + 1 : Nat) : Int) by omega, wi (n := ((i + 1 : Nat) : Int)) (by omega) (by omega)]
  simp only [Int.toNat_natCast]
  generalize vB 65536 m / 65536 ^ i % 65536 = y at *
  generalize bor (vB 65536 (l.take i)) (vB 65536 (m.take i)) = b at *
  rw [wi (n := (x : Int) - (y : Int)) (by omega) (by omega), wi (n := (x : Int) - (y : Int) - (b : Int)) (by omega) (by omega), wi (n := (x : Int) - (y : Int) - (b : Int) + 65536) (by omega) (by omega)]
  refine ⟨by omega, ⟨m, _, rfl, hmo⟩, ?_⟩
  split
  ·rename_i h2
   have h2 := of_decide_eq_true h2
   obtain ⟨t1, t2⟩ := s1 h2
   rw [t1, t2]
   and_intros <;> first | omega | rfl | trivial
  ·rename_i h2
   have h2 := of_decide_eq_false h2
   obtain ⟨t1, t2⟩ := s2 (by omega)
   rw [t1, t2]
   and_intros <;> first | omega | rfl | trivial
 ·rename_i h
  have h := of_decide_eq_false h
  obtain rfl : i = l.length := by omega
  have hA := vB_lt (b := 65536) hl
  have hle' : vB 65536 m ≤ vB 65536 l := hle
  have e1 : l.take l.length = l := List.take_length
  have e2 : vB 65536 (m.take l.length) = vB 65536 m := by rw [vB_take hm, Nat.mod_eq_of_lt (Nat.lt_of_le_of_lt hle' hA)]
  have e : sbD l m l.length = vD l - vD m := by
   unfold sbD
   rw [e1]
   show (vB 65536 l + 65536 ^ l.length - vB 65536 (m.take l.length)) % 65536 ^ l.length = vB 65536 l - vB 65536 m
   rw [e2]
   generalize 65536 ^ l.length = P at *
   exact mod_one _ _ _ (.inr (by omega)) (by omega)
  rw [e, trim_eq (nB_okd _ _), vB_nB, Nat.mod_eq_of_lt (Nat.lt_of_le_of_lt (Nat.sub_le _ _) hA)]
  refine ⟨⟨_, rfl, by unfold lenOk; rw [nB_length]; omega⟩, rfl⟩
end Go.Proofs.Ytpkcmjfmoemekaa
namespace Go.Proofs.Ytpkcmjfmoemekaa
open Go Go.Vg
theorem cmp_le (x y : Nat) : decide (cmpN x y ≤ 0) = decide (x ≤ y) := by
 rw [Bool.eq_iff_iff, decide_eq_true_iff, decide_eq_true_iff]
 unfold cmpN
 split
 ·omega
 ·split <;> omega
theorem trim_dg {a R : Nat} (ha : a < 65536) : trimL (((a : Nat) : Int) :: dg R) = dg (a + 65536 * R) := by
 have hok : okd (((a : Nat) : Int) :: dg R) := by
  intro x hx
  rcases List.mem_cons.mp hx with rfl | hx
  ·omega
  ·exact dg_ok R x hx
 rw [trim_eq hok, vB, Int.toNat_natCast, vl_dg]
theorem q_step (n i lo Q : Nat) (hi : i < n) (hlo : lo < 65536) :
  (List.replicate (i + 1) (0 : Int) ++ nB 65536 (n - (i + 1)) Q).set (0 + i) ((lo : Nat) : Int) = List.replicate i 0 ++ nB 65536 (n - i) (65536 * Q + lo) := by
 have e : nB 65536 (n - i) (65536 * Q + lo) = ((lo : Nat) : Int) :: nB 65536 (n - (i + 1)) Q := by
  rw [show n - i = n - (i + 1) + 1 by omega, nB, Nat.mul_add_mod, Nat.mod_eq_of_lt hlo, Nat.mul_add_div (by decide), Nat.div_eq_of_lt hlo]
  rfl
 rw [e, Nat.zero_add, List.replicate_succ', List.append_assoc, List.set_append_right _ _ (by rw [List.length_replicate]; exact Nat.le_refl _), List.length_replicate, Nat.sub_self]
 rfl
theorem pow_up {M k n : Nat} (h : M < 65536 ^ k) (hk : k + 1 ≤ n) : M * 65536 < 65536 ^ n := by
 have h2 : 65536 ^ (k + 1) ≤ 65536 ^ n := Nat.pow_le_pow_right (by decide) hk
 have h3 : M * 65536 < 65536 ^ (k + 1) := by
  rw [Nat.pow_succ]
  exact Nat.mul_lt_mul_of_pos_right h (by decide)
 exact Nat.lt_of_lt_of_le h3 h2
theorem len_dg {n : Nat} (h : n < 65536 ^ 1001) : lenS (dg n) ∧ lenOk (dg n) := len_ok h (by decide)
set_option maxRecDepth 100000 in
theorem m51 : Meets Try.prog 51 sp51 := by
 refine meets_of_owed (C := c51) ⟨tab_ok, lkS_ok ⟨m57, m41, m56, m43, trivial⟩⟩ (by kernel_rfl) (by kernel_rfl : Try.prog.funcs[51]? = some Try.f51) (by kernel_rfl) (by kernel_rfl) (by kernel_rfl) _ ?_
 rintro _ ⟨l, m, rfl, ⟨hl, hll⟩, ⟨hm, hml⟩, hM0⟩
 refine ⟨fun h => (by cases h), inv51 l m, ?_⟩
 show owed c51 (inv51 l m) Try.f51 [dgs l, dgs m] (.tup [dgs (dg (vD l / vD m)), dgs (dg (vD l % vD m))])
 rw [vc51]
 have hll : l.length ≤ 1000 := hll
 have hml : m.length ≤ 1000 := hml
 have hms : lenS m := by unfold lenS; omega
 have hM0 : vB 65536 m ≠ 0 := hM0
 have hMb : vB 65536 m * 65536 < 65536 ^ 1001 := by
  have h1 := vB_lt (b := 65536) hm
  refine pow_up (n := 1001) h1 ?_
  omega
 simp (decide := true) only [eq_self, true_and, and_true, ne_eq, not_false_eq_true, Int.toNat_natCast, vl_dg]
 rw [wi (n := (l.length : Int) - 1) (by omega) (by omega), show (l.length : Int) - 1 + 1 = (l.length : Int) by omega]
 simp only [Int.toNat_natCast]
 refine ⟨by omega, ?_, ?_⟩
 ·rw [List.drop_of_length_le (Nat.le_refl _), Nat.sub_self]
  have e : vB 65536 [] = 0 := rfl
  rw [e, Nat.zero_mod, dg_zero]
  simp [nB]
 intro z hz
 split
 ·rename_i h
  have h := of_decide_eq_true h
  obtain ⟨i, rfl⟩ : ∃ i, z = i + 1 := ⟨z - 1, by omega⟩
  obtain ⟨a, ea, ha⟩ := okd_get hl (i := i) (by omega)
  have hA := vB_dropS 65536 (l := l) i (by omega)
  rw [ea, Int.toNat_natCast] at hA
  rw [show ((i + 1 : Nat) : Int) - 1 = (i : Int) by omega, wi (n := (i : Int) - 1) (by omega) (by omega), show (i : Int) - 1 + 1 = (i : Int) by omega]
  simp only [Int.toNat_natCast, ea, trim_dg ha, vl_dg]
  have hQ := Nat.div_add_mod (vB 65536 (l.drop (i + 1))) (vB 65536 m)
  have hR := Nat.mod_lt (vB 65536 (l.drop (i + 1))) (y := vB 65536 m) (by omega)
  have hqs := q_step l.length i
  have hRl : (dg (vB 65536 (l.drop (i + 1)) % vB 65536 m)).length ≤ 1001 := dg_len _ _ (by omega)
  generalize vB 65536 (l.drop (i + 1)) / vB 65536 m = Q at *
  generalize vB 65536 (l.drop (i + 1)) % vB 65536 m = R at *
  have hAX : vB 65536 (l.drop i) = vB 65536 m * (65536 * Q) + (a + 65536 * R) := by
   rw [hA, ← hQ, Nat.mul_add, Nat.mul_left_comm]
   omega
  have hdiv : ∀ lo, vB 65536 m * lo ≤ a + 65536 * R → a + 65536 * R < vB 65536 m * (lo + 1) → vB 65536 (l.drop i) / vB 65536 m = 65536 * Q + lo ∧ vB 65536 (l.drop i) % vB 65536 m = a + 65536 * R - vB 65536 m * lo := by
   intro lo h1 h2
   have e : vB 65536 (l.drop i) = vB 65536 m * (65536 * Q + lo) + (a + 65536 * R - vB 65536 m * lo) := by
    rw [hAX, Nat.mul_add (vB 65536 m)]
    omega
   rw [Nat.mul_add, Nat.mul_one] at h2
   have h3 : a + 65536 * R - vB 65536 m * lo < vB 65536 m := by omega
   rw [e]
   exact ⟨by rw [Nat.mul_add_div (by omega), Nat.div_eq_of_lt h3, Nat.add_zero], by rw [Nat.mul_add_mod, Nat.mod_eq_of_lt h3]⟩
  have hXM : a + 65536 * R < vB 65536 m * 65536 := by omega
  have hXb : a + 65536 * R < 65536 ^ 1001 := Nat.lt_trans hXM hMb
  generalize a + 65536 * R = X at *
  have hXl := len_dg hXb
  refine ⟨by omega, by rw [List.length_cons]; omega, ⟨_, rfl, by unfold lenOk; rw [List.length_cons]; omega⟩, ?_, ?_⟩
  ·and_intros <;> first | rfl | omega | trivial
  rintro ⟨lo, hi⟩ ⟨⟨hlh, hh⟩, hlo, hhi⟩
  simp only at hlh hh hlo hhi ⊢
  rw [wi (n := (hi : Int) - (lo : Int)) (by omega) (by omega), ← Int.natCast_add, wi (n := ((lo + hi : Nat) : Int)) (by omega) (by omega), show ((lo + hi : Nat) : Int).tdiv 2 = (((lo + hi) / 2 : Nat) : Int) from tdivN (lo + hi) 2, wi (n := (((lo + hi) / 2 : Nat) : Int)) (by omega) (by omega)]
  have one : ∀ d : Nat, vB 65536 [((d : Nat) : Int)] = d := fun d => by simp [vB]
  have okd1 : ∀ d : Nat, d < 65536 → okd [((d : Nat) : Int)] := fun d hd x hx => by rw [List.mem_singleton.mp hx]; omega
  have l1 : ∀ d : Nat, lenS [((d : Nat) : Int)] := fun d => by simp [lenS]
  simp only [Int.toNat_natCast, one, cmp_le]
  split
  ·rename_i h2
   have h2 := of_decide_eq_true h2
   have hmid1 : lo < (lo + hi) / 2 := by omega
   have hmid2 : (lo + hi) / 2 < hi := by omega
   generalize (lo + hi) / 2 = mid at *
   have hpre1 : ∃ (l_1 m_1 : List Int), [dgs m, dgs [((mid : Nat) : Int)]] = [dgs l_1, dgs m_1] ∧ (okd l_1 ∧ lenS l_1) ∧ okd m_1 ∧ lenS m_1 := ⟨_, _, rfl, ⟨hm, hms⟩, okd1 mid (by omega), l1 mid⟩
   have hmb : vB 65536 m * mid < 65536 ^ 1001 := by
    have : vB 65536 m * mid ≤ vB 65536 m * 65536 := Nat.mul_le_mul_left _ (by omega)
    exact Nat.lt_of_le_of_lt this hMb
   have hpre2 : ∃ (l_1 m_1 : List Int), [dgs (dg (vB 65536 m * mid)), dgs (dg X)] = [dgs l_1, dgs m_1] ∧ (okd l_1 ∧ lenS l_1) ∧ okd m_1 ∧ lenS m_1 := ⟨_, _, rfl, ⟨dg_ok _, (len_dg hmb).1⟩, dg_ok _, hXl.1⟩
   refine ⟨hpre1, hpre2, ?_⟩
   split
   ·rename_i h3
    have h3 := of_decide_eq_true h3
    and_intros <;> first | exact h3 | exact hhi | rfl | omega | trivial
   ·rename_i h3
    have h3 := of_decide_eq_false h3
    have h3 : X < vB 65536 m * mid := by omega
    and_intros <;> first | exact h3 | exact hlo | rfl | omega | trivial
  ·rename_i h2
   have h2 := of_decide_eq_false h2
   obtain rfl : hi = lo + 1 := by omega
   obtain ⟨d1, d2⟩ := hdiv lo hlo hhi
   have hq := hqs lo Q (by omega) (by omega)
   split
   ·rename_i h3
    have h3 := of_decide_eq_true h3
    have hpre1 : ∃ (l_1 m_1 : List Int), [dgs m, dgs [((lo : Nat) : Int)]] = [dgs l_1, dgs m_1] ∧ (okd l_1 ∧ lenS l_1) ∧ okd m_1 ∧ lenS m_1 := ⟨_, _, rfl, ⟨hm, hms⟩, okd1 lo (by omega), l1 lo⟩
    have hpre2 : ∃ (l_1 m_1 : List Int), [dgs (dg X), dgs (dg (vB 65536 m * lo))] = [dgs l_1, dgs m_1] ∧ (okd l_1 ∧ lenS l_1) ∧ (okd m_1 ∧ lenS m_1) ∧ vB 65536 m_1 ≤ vB 65536 l_1 := ⟨_, _, rfl, ⟨dg_ok _, hXl.1⟩, ⟨dg_ok _, (len_dg (Nat.lt_of_le_of_lt hlo hXb)).1⟩, by rw [vl_dg, vl_dg]; exact hlo⟩
    rw [hq, d1, d2]
    and_intros <;> first | exact hpre1 | exact hpre2 | rfl | omega | trivial
   ·rename_i h3
    have h3 := of_decide_eq_false h3
    obtain rfl : lo = 0 := by omega
    rw [hq, d1, d2, Nat.mul_zero, Nat.sub_zero]
    and_intros <;> first | rfl | omega | trivial
 ·rename_i h
  have h := of_decide_eq_false h
  obtain rfl : z = 0 := by omega
  have hA := vB_lt (b := 65536) hl
  have hlt : vB 65536 l / vB 65536 m < 65536 ^ l.length := Nat.lt_of_le_of_lt (Nat.div_le_self _ _) hA
  have e : List.take l.length (List.drop 0 (List.replicate 0 0 ++ nB 65536 (l.length - 0) (vB 65536 (List.drop 0 l) / vB 65536 m))) = nB 65536 l.length (vB 65536 l / vB 65536 m) := by
   rw [List.replicate_zero, List.nil_append, List.drop_zero, List.drop_zero, Nat.sub_zero, List.take_of_length_le (by rw [nB_length]; exact Nat.le_refl _)]
  rw [e, trim_eq (nB_okd _ _), vB_nB, Nat.mod_eq_of_lt hlt, List.drop_zero]
  exact ⟨⟨_, rfl, by unfold lenOk; rw [nB_length]; omega⟩, rfl⟩
set_option maxRecDepth 100000 in
theorem m35 : Meets Try.prog 35 sp35 := by
 refine meets_of_owed (C := c35) ⟨tab_ok, lkS_ok ⟨m51, trivial⟩⟩ (by kernel_rfl) (by kernel_rfl : Try.prog.funcs[35]? = some Try.f35) (by kernel_rfl) (by kernel_rfl) (by kernel_rfl) _ ?_
 rintro _ ⟨l, m, rfl, hl, hm, h0⟩
 refine ⟨fun h => (by cases h), fun _ => none, ?_⟩
 show owed c35 (fun _ => none) Try.f35 [dgs l, dgs m] (dgs (dg (vD l % vD m)))
 rw [vc35]
 simp (decide := true) only [eq_self, true_and, and_true, ne_eq, not_false_eq_true]
 exact ⟨l, m, rfl, hl, hm, h0⟩
end Go.Proofs.Ytpkcmjfmoemekaa
namespace Go.Proofs.Ytpkcmjfmoemekaa
open Go Go.Vg
theorem sub_at (c n v x : Nat) (hn : 0 < n) : v / (c ^ n) ^ (x / n) % c ^ n / c ^ (x % n) % c = v / c ^ x % c := by
 have hr : x % n < n := Nat.mod_lt _ hn
 have e1 : c ^ n = c ^ (x % n) * c ^ (n - x % n) := by rw [← Nat.pow_add, show x % n + (n - x % n) = n by omega]
 have e2 : v / (c ^ n) ^ (x / n) / c ^ (x % n) = v / c ^ x := by
  rw [Nat.div_div_eq_div_mul, ← Nat.pow_mul, ← Nat.pow_add, Nat.div_add_mod]
 generalize v / (c ^ n) ^ (x / n) = w at e2 ⊢
 rw [show w % c ^ n = w % (c ^ (x % n) * c ^ (n - x % n)) by rw [← e1], Nat.mod_mul_right_div_self, e2, Nat.mod_mod_of_dvd]
 exact ⟨c ^ (n - x % n - 1), by rw [← Nat.pow_succ']; congr 1; omega⟩
abbrev wv (l : List Int) : Nat := vB 18446744073709551616 l
set_option maxRecDepth 100000 in
theorem ok42  (d : D)  :
    (OkT tab 8 24 d) = (
 ∃ (l : List Int), d = D.arr .u64 4 l ∧ l.length = 4 ∧ ∀ (z : Int), z ∈ l → (0 : Int) ≤ z ∧ z ≤ IntKind.u64.max) := by kernel_rfl
theorem num_of {d : D} (h : OkT tab 8 24 d) : ∃ l, d = num4 l ∧ okw l ∧ l.length = 4 := by
 rw [ok42] at h
 obtain ⟨l, rfl, h1, h2⟩ := h
 exact ⟨l, rfl, fun x hx => ⟨(h2 x hx).1, Int.lt_of_le_of_lt (h2 x hx).2 (by decide)⟩, h1⟩
theorem wv_lt {l : List Int} (h : okw l) (hl : l.length = 4) : wv l < 2 ^ 256 := by
 have := vB_lt (b := 18446744073709551616) h
 rw [hl] at this
 exact this
end Go.Proofs.Ytpkcmjfmoemekaa
namespace Go.Vg
def kb (k : IntKind) : Nat := if k.signed then 2 ^ (k.bits - 1) else 2 ^ k.bits
theorem kb_le (k : IntKind) : kb k ≤ 2 ^ k.bits := by cases k <;> decide
theorem wrapN (k : IntKind) {n : Nat} (h : n < kb k) : k.wrap (n : Int) = (n : Int) := by
 cases k <;> simp [kb, IntKind.bits, IntKind.signed, IntKind.wrap] at h ⊢ <;> omega
theorem bvN (k : IntKind) {n : Nat} (h : n < kb k) : (BitVec.ofInt k.bits (n : Int)).toNat = n := by
 rw [BitVec.ofInt_natCast, BitVec.toNat_ofNat]
 exact Nat.mod_eq_of_lt (Nat.lt_of_lt_of_le h (kb_le k))
theorem iandN (k : IntKind) {a b : Nat} (ha : a < kb k) (hb : b < kb k) : iand k (a : Int) (b : Int) = ((a &&& b : Nat) : Int) := by
 unfold iand
 rw [BitVec.toNat_and, bvN k ha, bvN k hb]
 exact wrapN k (Nat.lt_of_le_of_lt Nat.and_le_left ha)
theorem ishrN (k : IntKind) {a m : Nat} (h : m ≤ k.bits) : ishr k (a : Int) (m : Int) = ((a / 2 ^ m : Nat) : Int) := by
 rw [ishr_eq k _ m h]
 simp
theorem wN8 (n : Nat) : IntKind.u8.wrap (n : Int) = ((n % 256 : Nat) : Int) := by rw [w8]; omega
theorem wN64 (n : Nat) : IntKind.u64.wrap (n : Int) = ((n % 18446744073709551616 : Nat) : Int) := by rw [w64]; omega
end Go.Vg
