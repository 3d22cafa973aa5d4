/- The types, as the steps ask of them; checked against the program by the kernel. Written by a program of this session. -/
import Derived.Test.YtkicjckhkefnpaaDoorZb7
import Derived.Test.YtkicjckhkefnpaaDoorProg
import Derived.KernelRfl
import Derived.Test.YtkicjckhkefnpaaDoorZb10
namespace Go.Proofs.YtkicjckhkefnpaaDoor
open Go Go.Vg
def tab : Tab := [
 ⟨.other, 0, 0, .val (.bool false), false⟩,
 ⟨.other, 1, 8, .val .nilFunc, false⟩,
 ⟨.int .i64, 1, 8, .val (.int .i64 0), false⟩,
 ⟨.int .i64, 1, 8, .val (.int .i64 0), false⟩,
 ⟨.bool, 1, 1, .val (.bool false), false⟩,
 ⟨.int .u8, 1, 1, .val (.int .u8 0), false⟩,
 ⟨.int .u8, 1, 1, .val (.int .u8 0), false⟩,
 ⟨.st [(0, 2), (1, 3), (2, 4), (3, 6)], 4, 24, .st [.val (.int .i64 0), .val (.int .i64 0), .val (.bool false), .val (.int .u8 0)], true⟩,
 ⟨.st [(0, 2), (1, 3), (2, 4), (3, 6)], 4, 24, .st [.val (.int .i64 0), .val (.int .i64 0), .val (.bool false), .val (.int .u8 0)], true⟩,
 ⟨.str, 1, 16, .str [], false⟩,
 ⟨.str, 1, 16, .str [], false⟩,
 ⟨.str, 1, 16, .str [], false⟩,
 ⟨.int .u64, 1, 8, .val (.int .u64 0), false⟩,
 ⟨.st [(0, 9), (1, 12)], 2, 24, .st [.str [], .val (.int .u64 0)], false⟩,
 ⟨.st [(0, 9), (1, 12)], 2, 24, .st [.str [], .val (.int .u64 0)], false⟩,
 ⟨.ptr 195, 1, 8, .val (.pointer none), false⟩,
 ⟨.ptr 198, 1, 8, .val (.pointer none), false⟩,
 ⟨.ptr 206, 1, 8, .val (.pointer none), false⟩,
 ⟨.st [(0, 17)], 1, 8, .st [.val (.pointer none)], false⟩,
 ⟨.st [(0, 17)], 1, 8, .st [.val (.pointer none)], false⟩,
 ⟨.other, 1, 16, .val .nilIface, false⟩,
 ⟨.int .i32, 1, 4, .val (.int .i32 0), false⟩,
 ⟨.slice 26, 1, 24, .slc 1 [], false⟩,
 ⟨.slice 28, 1, 24, .slc 32 [], false⟩,
 ⟨.st [(0, 3), (1, 23)], 2, 32, .st [.val (.int .i64 0), .slc 32 []], false⟩,
 ⟨.st [(0, 3), (1, 23)], 2, 32, .st [.val (.int .i64 0), .slc 32 []], false⟩,
 ⟨.slice 5, 1, 24, .ints .u8 [], false⟩,
 ⟨.other, 1, 8, .val .nilFunc, false⟩,
 ⟨.arr 32 5, 32, 32, .arr .u8 32 (List.replicate 32 0), false⟩,
 ⟨.other, 1, 8, .val .nilFunc, false⟩,
 ⟨.other, 1, 8, .val .nilFunc, false⟩,
 ⟨.other, 1, 8, .val .nilFunc, false⟩,
 ⟨.other, 1, 8, .val .nilFunc, false⟩,
 ⟨.other, 1, 8, .val .nilFunc, false⟩,
 ⟨.int .i64, 1, 8, .val (.int .i64 0), false⟩,
 ⟨.other, 1, 8, .val .nilFunc, false⟩,
 ⟨.other, 1, 8, .val .nilFunc, false⟩,
 ⟨.other, 0, 0, .val (.bool false), false⟩,
 ⟨.other, 1, 8, .val .nilFunc, false⟩,
 ⟨.other, 1, 8, .val .nilFunc, false⟩,
 ⟨.other, 1, 8, .val .nilFunc, false⟩,
 ⟨.other, 1, 8, .val .nilFunc, false⟩,
 ⟨.other, 1, 8, .val .nilFunc, false⟩,
 ⟨.st [(0, 28), (32, 3)], 33, 40, .st [.arr .u8 32 (List.replicate 32 0), .val (.int .i64 0)], true⟩,
 ⟨.st [(0, 28), (32, 3)], 33, 40, .st [.arr .u8 32 (List.replicate 32 0), .val (.int .i64 0)], true⟩,
 ⟨.ptr 122, 1, 8, .val (.pointer none), false⟩,
 ⟨.other, 0, 0, .val (.bool false), false⟩,
 ⟨.other, 1, 8, .val .nilFunc, false⟩,
 ⟨.other, 1, 8, .val .nilFunc, false⟩,
 ⟨.other, 1, 8, .val .nilFunc, false⟩,
 ⟨.other, 1, 8, .val .nilFunc, false⟩,
 ⟨.slice 56, 1, 24, .slc 3 [], false⟩,
 ⟨.other, 1, 8, .val .nilFunc, false⟩,
 ⟨.other, 1, 8, .val .nilFunc, false⟩,
 ⟨.other, 1, 8, .val .nilFunc, false⟩,
 ⟨.st [(0, 3), (1, 26), (2, 26)], 3, 56, .st [.val (.int .i64 0), .ints .u8 [], .ints .u8 []], false⟩,
 ⟨.st [(0, 3), (1, 26), (2, 26)], 3, 56, .st [.val (.int .i64 0), .ints .u8 [], .ints .u8 []], false⟩,
 ⟨.other, 1, 8, .val .nilFunc, false⟩,
 ⟨.other, 1, 8, .val .nilFunc, false⟩,
 ⟨.other, 0, 0, .val (.bool false), false⟩,
 ⟨.other, 1, 8, .val .nilFunc, false⟩,
 ⟨.slice 9, 1, 24, .slc 1 [], false⟩,
 ⟨.other, 0, 0, .val (.bool false), false⟩,
 ⟨.other, 1, 8, .val .nilFunc, false⟩,
 ⟨.other, 0, 0, .val (.bool false), false⟩,
 ⟨.other, 1, 8, .val .nilFunc, false⟩,
 ⟨.other, 0, 0, .val (.bool false), false⟩,
 ⟨.other, 1, 8, .val .nilFunc, false⟩,
 ⟨.other, 1, 8, .val .nilFunc, false⟩,
 ⟨.other, 1, 8, .val .nilFunc, false⟩,
 ⟨.slice 77, 1, 24, .slc 7 [], false⟩,
 ⟨.ptr 150, 1, 8, .val (.pointer none), false⟩,
 ⟨.other, 1, 8, .val .nilFunc, false⟩,
 ⟨.int .u64, 1, 8, .val (.int .u64 0), false⟩,
 ⟨.arr 4 73, 4, 32, .arr .u64 4 (List.replicate 4 0), false⟩,
 ⟨.arr 4 73, 4, 32, .arr .u64 4 (List.replicate 4 0), false⟩,
 ⟨.st [(0, 4), (1, 4), (2, 3), (3, 75)], 7, 48, .st [.val (.bool false), .val (.bool false), .val (.int .i64 0), .arr .u64 4 (List.replicate 4 0)], true⟩,
 ⟨.st [(0, 4), (1, 4), (2, 3), (3, 75)], 7, 48, .st [.val (.bool false), .val (.bool false), .val (.int .i64 0), .arr .u64 4 (List.replicate 4 0)], true⟩,
 ⟨.other, 0, 0, .val (.bool false), false⟩,
 ⟨.other, 1, 8, .val .nilFunc, false⟩,
 ⟨.other, 0, 0, .val (.bool false), false⟩,
 ⟨.other, 1, 8, .val .nilFunc, false⟩,
 ⟨.other, 1, 8, .val .nilFunc, false⟩,
 ⟨.other, 1, 8, .val .nilFunc, false⟩,
 ⟨.other, 1, 8, .val .nilFunc, false⟩,
 ⟨.other, 1, 8, .val .nilFunc, false⟩,
 ⟨.other, 1, 8, .val .nilFunc, false⟩,
 ⟨.arr 8 73, 8, 64, .arr .u64 8 (List.replicate 8 0), false⟩,
 ⟨.arr 8 73, 8, 64, .arr .u64 8 (List.replicate 8 0), false⟩,
 ⟨.slice 3, 1, 24, .ints .i64 [], false⟩,
 ⟨.other, 1, 8, .val .nilFunc, false⟩,
 ⟨.other, 1, 8, .val .nilFunc, false⟩,
 ⟨.other, 1, 8, .val .nilFunc, false⟩,
 ⟨.other, 1, 8, .val .nilFunc, false⟩,
 ⟨.other, 1, 8, .val .nilFunc, false⟩,
 ⟨.other, 1, 8, .val .nilFunc, false⟩,
 ⟨.other, 1, 8, .val .nilFunc, false⟩,
 ⟨.other, 1, 8, .val .nilFunc, false⟩,
 ⟨.other, 1, 8, .val .nilFunc, false⟩,
 ⟨.other, 1, 8, .val .nilFunc, false⟩,
 ⟨.other, 1, 8, .val .nilFunc, false⟩,
 ⟨.other, 1, 8, .val .nilFunc, false⟩,
 ⟨.other, 1, 8, .val .nilFunc, false⟩,
 ⟨.other, 1, 8, .val .nilFunc, false⟩,
 ⟨.slice 167, 1, 24, .slc 5 [], false⟩,
 ⟨.other, 0, 0, .val (.bool false), false⟩,
 ⟨.other, 1, 8, .val .nilFunc, false⟩,
 ⟨.other, 1, 8, .val .nilFunc, false⟩,
 ⟨.other, 1, 8, .val .nilFunc, false⟩,
 ⟨.other, 1, 8, .val .nilFunc, false⟩,
 ⟨.ptr 25, 1, 8, .val (.pointer none), false⟩,
 ⟨.other, 1, 8, .val .nilFunc, false⟩,
 ⟨.other, 1, 8, .val .nilFunc, false⟩,
 ⟨.int .u32, 1, 4, .val (.int .u32 0), false⟩,
 ⟨.arr 8 113, 8, 32, .arr .u32 8 (List.replicate 8 0), false⟩,
 ⟨.arr 64 5, 64, 64, .arr .u8 64 (List.replicate 64 0), false⟩,
 ⟨.st [(0, 114), (8, 73), (9, 115)], 73, 104, .st [.arr .u32 8 (List.replicate 8 0), .val (.int .u64 0), .arr .u8 64 (List.replicate 64 0)], true⟩,
 ⟨.st [(0, 114), (8, 73), (9, 115)], 73, 104, .st [.arr .u32 8 (List.replicate 8 0), .val (.int .u64 0), .arr .u8 64 (List.replicate 64 0)], true⟩,
 ⟨.other, 1, 8, .val .nilFunc, false⟩,
 ⟨.other, 1, 8, .val .nilFunc, false⟩,
 ⟨.other, 1, 8, .val .nilFunc, false⟩,
 ⟨.st [(0, 26), (1, 44)], 34, 64, .st [.ints .u8 [], .st [.arr .u8 32 (List.replicate 32 0), .val (.int .i64 0)]], false⟩,
 ⟨.st [(0, 26), (1, 44)], 34, 64, .st [.ints .u8 [], .st [.arr .u8 32 (List.replicate 32 0), .val (.int .i64 0)]], false⟩,
 ⟨.other, 1, 8, .val .nilFunc, false⟩,
 ⟨.st [(0, 117), (73, 117)], 146, 208, .st [.st [.arr .u32 8 (List.replicate 8 0), .val (.int .u64 0), .arr .u8 64 (List.replicate 64 0)], .st [.arr .u32 8 (List.replicate 8 0), .val (.int .u64 0), .arr .u8 64 (List.replicate 64 0)]], true⟩,
 ⟨.st [(0, 117), (73, 117)], 146, 208, .st [.st [.arr .u32 8 (List.replicate 8 0), .val (.int .u64 0), .arr .u8 64 (List.replicate 64 0)], .st [.arr .u32 8 (List.replicate 8 0), .val (.int .u64 0), .arr .u8 64 (List.replicate 64 0)]], true⟩,
 ⟨.other, 1, 8, .val .nilFunc, false⟩,
 ⟨.ptr 129, 1, 8, .val (.pointer none), false⟩,
 ⟨.st [(0, 26), (1, 28), (33, 22), (34, 3)], 35, 88, .st [.ints .u8 [], .arr .u8 32 (List.replicate 32 0), .slc 1 [], .val (.int .i64 0)], false⟩,
 ⟨.st [(0, 26), (1, 28), (33, 22), (34, 3)], 35, 88, .st [.ints .u8 [], .arr .u8 32 (List.replicate 32 0), .slc 1 [], .val (.int .i64 0)], false⟩,
 ⟨.st [(0, 5), (1, 26)], 2, 32, .st [.val (.int .u8 0), .ints .u8 []], false⟩,
 ⟨.st [(0, 5), (1, 26)], 2, 32, .st [.val (.int .u8 0), .ints .u8 []], false⟩,
 ⟨.other, 0, 0, .val (.bool false), false⟩,
 ⟨.other, 1, 8, .val .nilFunc, false⟩,
 ⟨.other, 0, 0, .val (.bool false), false⟩,
 ⟨.other, 1, 8, .val .nilFunc, false⟩,
 ⟨.other, 1, 8, .val .nilFunc, false⟩,
 ⟨.slice 131, 1, 24, .slc 2 [], false⟩,
 ⟨.other, 1, 8, .val .nilFunc, false⟩,
 ⟨.other, 1, 8, .val .nilFunc, false⟩,
 ⟨.other, 0, 0, .val (.bool false), false⟩,
 ⟨.other, 1, 8, .val .nilFunc, false⟩,
 ⟨.other, 1, 8, .val .nilFunc, false⟩,
 ⟨.other, 1, 8, .val .nilFunc, false⟩,
 ⟨.other, 1, 8, .val .nilFunc, false⟩,
 ⟨.other, 1, 8, .val .nilFunc, false⟩,
 ⟨.other, 1, 8, .val .nilFunc, false⟩,
 ⟨.other, 1, 8, .val .nilFunc, false⟩,
 ⟨.other, 1, 8, .val .nilFunc, false⟩,
 ⟨.st [(0, 125), (146, 73), (147, 28), (179, 4)], 180, 256, .st [.st [.st [.arr .u32 8 (List.replicate 8 0), .val (.int .u64 0), .arr .u8 64 (List.replicate 64 0)], .st [.arr .u32 8 (List.replicate 8 0), .val (.int .u64 0), .arr .u8 64 (List.replicate 64 0)]], .val (.int .u64 0), .arr .u8 32 (List.replicate 32 0), .val (.bool false)], true⟩,
 ⟨.st [(0, 125), (146, 73), (147, 28), (179, 4)], 180, 256, .st [.st [.st [.arr .u32 8 (List.replicate 8 0), .val (.int .u64 0), .arr .u8 64 (List.replicate 64 0)], .st [.arr .u32 8 (List.replicate 8 0), .val (.int .u64 0), .arr .u8 64 (List.replicate 64 0)]], .val (.int .u64 0), .arr .u8 32 (List.replicate 32 0), .val (.bool false)], true⟩,
 ⟨.other, 1, 8, .val .nilFunc, false⟩,
 ⟨.slice 73, 1, 24, .ints .u64 [], false⟩,
 ⟨.other, 1, 8, .val .nilFunc, false⟩,
 ⟨.other, 0, 0, .val (.bool false), false⟩,
 ⟨.other, 1, 8, .val .nilFunc, false⟩,
 ⟨.int .u64, 1, 8, .val (.int .u64 0), false⟩,
 ⟨.other, 1, 8, .val .nilFunc, false⟩,
 ⟨.other, 1, 8, .val .nilFunc, false⟩,
 ⟨.other, 1, 8, .val .nilFunc, false⟩,
 ⟨.other, 1, 8, .val .nilFunc, false⟩,
 ⟨.other, 1, 8, .val .nilFunc, false⟩,
 ⟨.other, 1, 8, .val .nilFunc, false⟩,
 ⟨.other, 1, 8, .val .nilFunc, false⟩,
 ⟨.slice 75, 1, 24, .slc 4 [], false⟩,
 ⟨.other, 1, 8, .val .nilFunc, false⟩,
 ⟨.st [(0, 3), (1, 75)], 5, 40, .st [.val (.int .i64 0), .arr .u64 4 (List.replicate 4 0)], true⟩,
 ⟨.st [(0, 3), (1, 75)], 5, 40, .st [.val (.int .i64 0), .arr .u64 4 (List.replicate 4 0)], true⟩,
 ⟨.slice 89, 1, 24, .slc 1 [], false⟩,
 ⟨.other, 1, 8, .val .nilFunc, false⟩,
 ⟨.slice 113, 1, 24, .ints .u32 [], false⟩,
 ⟨.other, 1, 8, .val .nilFunc, false⟩,
 ⟨.other, 1, 8, .val .nilFunc, false⟩,
 ⟨.other, 1, 8, .val .nilFunc, false⟩,
 ⟨.other, 1, 8, .val .nilFunc, false⟩,
 ⟨.other, 1, 8, .val .nilFunc, false⟩,
 ⟨.other, 0, 0, .val (.bool false), false⟩,
 ⟨.other, 1, 8, .val .nilFunc, false⟩,
 ⟨.other, 1, 8, .val .nilFunc, false⟩,
 ⟨.arr 8 5, 8, 8, .arr .u8 8 (List.replicate 8 0), false⟩,
 ⟨.other, 0, 0, .val (.bool false), false⟩,
 ⟨.other, 1, 8, .val .nilFunc, false⟩,
 ⟨.other, 1, 8, .val .nilFunc, false⟩,
 ⟨.other, 1, 8, .val .nilFunc, false⟩,
 ⟨.other, 1, 8, .val .nilFunc, false⟩,
 ⟨.arr 64 113, 64, 256, .arr .u32 64 (List.replicate 64 0), false⟩,
 ⟨.other, 1, 8, .val .nilFunc, false⟩,
 ⟨.other, 1, 8, .val .nilFunc, false⟩,
 ⟨.other, 0, 0, .val (.bool false), false⟩,
 ⟨.other, 1, 8, .val .nilFunc, false⟩,
 ⟨.other, 1, 8, .val .nilFunc, false⟩,
 ⟨.other, 1, 8, .val .nilFunc, false⟩,
 ⟨.other, 1, 8, .val .nilFunc, false⟩,
 ⟨.other, 1, 8, .val .nilFunc, false⟩,
 ⟨.st [(0, 17), (1, 17), (2, 17), (3, 9)], 4, 40, .st [.val (.pointer none), .val (.pointer none), .val (.pointer none), .str []], false⟩,
 ⟨.st [(0, 17), (1, 17), (2, 17), (3, 9)], 4, 40, .st [.val (.pointer none), .val (.pointer none), .val (.pointer none), .str []], false⟩,
 ⟨.other, 0, 0, .val (.bool false), false⟩,
 ⟨.other, 0, 0, .val (.bool false), false⟩,
 ⟨.other, 0, 0, .val (.bool false), false⟩,
 ⟨.int .u8, 1, 1, .val (.int .u8 0), false⟩,
 ⟨.int .u8, 1, 1, .val (.int .u8 0), false⟩,
 ⟨.other, 1, 8, .val .nilFunc, false⟩,
 ⟨.ptr 5, 1, 8, .val (.pointer none), false⟩,
 ⟨.int .i32, 1, 4, .val (.int .i32 0), false⟩,
 ⟨.int .i32, 1, 4, .val (.int .i32 0), false⟩,
 ⟨.st [(0, 12), (1, 12), (2, 113), (3, 199), (4, 5), (5, 5), (6, 200), (7, 201), (8, 202), (9, 203), (10, 204)], 11, 48, .st [.val (.int .u64 0), .val (.int .u64 0), .val (.int .u32 0), .val (.int .u8 0), .val (.int .u8 0), .val (.int .u8 0), .val (.int .u8 0), .val .nilFunc, .val (.pointer none), .val (.int .i32 0), .val (.int .i32 0)], false⟩,
 ⟨.st [(0, 12), (1, 12), (2, 113), (3, 199), (4, 5), (5, 5), (6, 200), (7, 201), (8, 202), (9, 203), (10, 204)], 11, 48, .st [.val (.int .u64 0), .val (.int .u64 0), .val (.int .u32 0), .val (.int .u8 0), .val (.int .u8 0), .val (.int .u8 0), .val (.int .u8 0), .val .nilFunc, .val (.pointer none), .val (.int .i32 0), .val (.int .i32 0)], false⟩,
 ⟨.other, 0, 0, .val (.bool false), false⟩]
theorem tab_ok : TabOk Tryd.prog tab := tabB_ok (by kernel_rfl)
end Go.Proofs.YtkicjckhkefnpaaDoor
namespace Go.Proofs.YtkicjckhkefnpaaDoor
open Go Go.Vg
def rr (x : W) (n : Nat) : W := (x >>> n) ||| (x <<< (32 - n))
def sp136 : Go.Vg.Spec := ⟨fun ds => ∃ (x : W) (n : Nat), ds = [wd x, i64 (-(n : Int))] ∧ 1 ≤ n ∧ n ≤ 31, fun ds => wd (rr (toW (ds.headD default)) (-(numOf (ds.getD 1 default))).toNat), true, [113, 3]⟩
def sp130 : Go.Vg.Spec := ⟨fun ds => ∃ (x : W) (n : Nat), ds = [wd x, i64 (n : Int)] ∧ 1 ≤ n ∧ n ≤ 31, fun ds => wd (rr (toW (ds.headD default)) (numOf (ds.getD 1 default)).toNat), true, [113, 3]⟩
def sp133 : Go.Vg.Spec := ⟨fun ds => ∃ (x : W) (n : Nat), ds = [wd x, u64 (n : Int)] ∧ 1 ≤ n ∧ n ≤ 31, fun ds => wd (rr (toW (ds.headD default)) (numOf (ds.getD 1 default)).toNat), true, [113, 156]⟩
def chW (x y z : W) : W := (x &&& y) ^^^ (~~~x &&& z)
def mjW (x y z : W) : W := ((x &&& y) ^^^ (x &&& z)) ^^^ (y &&& z)
def sp134 : Go.Vg.Spec := ⟨fun ds => ∃ (x y z : W), ds = [wd x, wd y, wd z], fun ds => wd (chW (toW (ds.headD default)) (toW (ds.getD 1 default)) (toW (ds.getD 2 default))), true, [113, 113, 113]⟩
def sp135 : Go.Vg.Spec := ⟨fun ds => ∃ (x y z : W), ds = [wd x, wd y, wd z], fun ds => wd (mjW (toW (ds.headD default)) (toW (ds.getD 1 default)) (toW (ds.getD 2 default))), true, [113, 113, 113]⟩
def w4 (a b c d : Int) : W := BitVec.ofNat 32 (a.toNat * 16777216 + b.toNat * 65536 + c.toNat * 256 + d.toNat)
def wat (l : List Int) (i : Nat) : W := w4 (l.getD i 0) (l.getD (i + 1) 0) (l.getD (i + 2) 0) (l.getD (i + 3) 0)
def sp129 : Go.Vg.Spec := ⟨fun ds => ∃ l i, ds = [.ints .u8 l, i64 ((i : Nat) : Int)] ∧ isBytes l ∧ i + 3 < l.length ∧ i < 1000, fun ds => wd (wat (intsOf (ds.headD default)) (numOf (ds.getD 1 default)).toNat), true, [26, 3]⟩
def c0 : Ctx := ⟨tab, fun _ => none, [], []⟩
def c130 : Ctx := ⟨tab, lkS [(136, sp136)], [], []⟩
set_option maxRecDepth 100000 in
theorem vc136  (x : W) (n : Nat) (F : D)  :
    (owed c0 (fun _ => none) Tryd.f136 [wd x, i64 (-(n : Int))] F) = (
 True ∧ True ∧ True ∧ True ∧ True ∧ True ∧ True ∧ (0 : Int) ≤ iand IntKind.u64 (IntKind.u64.wrap (-(↑n : Int))) (31 : Int) ∧ True ∧ True ∧ True ∧ (0 : Int) ≤ IntKind.u64.wrap ((32 : Int) - iand IntKind.u64 (IntKind.u64.wrap (-(↑n : Int))) (31 : Int)) ∧ True ∧ True ∧ (false = false ∧ True) ∧ D.val (.int .u32 (ior IntKind.u32 (ishl IntKind.u32 (↑(BitVec.toNat x) : Int) (iand IntKind.u64 (IntKind.u64.wrap (-(↑n : Int))) (31 : Int))) (ishr IntKind.u32 (↑(BitVec.toNat x) : Int) (IntKind.u64.wrap ((32 : Int) - iand IntKind.u64 (IntKind.u64.wrap (-(↑n : Int))) (31 : Int)))))) = F) := by kernel_rfl
set_option maxRecDepth 100000 in
theorem vc130  (x : W) (n : Nat) (F : D)  :
    (owed c130 (fun _ => none) Tryd.f130 [wd x, i64 (n : Int)] F) = (
 True ∧ True ∧ True ∧ True ∧ (∃ (x_1 : W), ∃ (n_1 : Nat), [D.val (.int .u32 (↑(BitVec.toNat x) : Int)), D.val (.int .i64 (IntKind.i64.wrap ((0 : Int) - (↑n : Int))))] = [D.val (.int .u32 (↑(BitVec.toNat x_1) : Int)), D.val (.int .i64 (-(↑n_1 : Int)))] ∧ 1 ≤ n_1 ∧ n_1 ≤ 31) ∧ True ∧ (false = false ∧ True) ∧ D.val (.int .u32 (↑(BitVec.toNat (rr (toW (D.val (.int .u32 (↑(BitVec.toNat x) : Int)))) (-IntKind.i64.wrap ((0 : Int) - (↑n : Int))).toNat)) : Int)) = F) := by kernel_rfl
set_option maxRecDepth 100000 in
theorem vc133  (x : W) (n : Nat) (F : D)  :
    (owed c0 (fun _ => none) Tryd.f133 [wd x, u64 (n : Int)] F) = (
 True ∧ True ∧ True ∧ (0 : Int) ≤ (↑n : Int) ∧ True ∧ True ∧ True ∧ (0 : Int) ≤ IntKind.u64.wrap ((32 : Int) - (↑n : Int)) ∧ True ∧ True ∧ (false = false ∧ True) ∧ D.val (.int .u32 (ior IntKind.u32 (ishr IntKind.u32 (↑(BitVec.toNat x) : Int) (↑n : Int)) (ishl IntKind.u32 (↑(BitVec.toNat x) : Int) (IntKind.u64.wrap ((32 : Int) - (↑n : Int)))))) = F) := by kernel_rfl
set_option maxRecDepth 100000 in
theorem vc134  (x y z : W) (F : D)  :
    (owed c0 (fun _ => none) Tryd.f134 [wd x, wd y, wd z] F) = (
 True ∧ True ∧ True ∧ True ∧ True ∧ True ∧ True ∧ True ∧ True ∧ (false = false ∧ True) ∧ D.val (.int .u32 (ixor IntKind.u32 (↑(BitVec.toNat z) : Int) (iand IntKind.u32 (↑(BitVec.toNat x) : Int) (ixor IntKind.u32 (↑(BitVec.toNat y) : Int) (↑(BitVec.toNat z) : Int))))) = F) := by kernel_rfl
set_option maxRecDepth 100000 in
theorem vc135  (x y z : W) (F : D)  :
    (owed c0 (fun _ => none) Tryd.f135 [wd x, wd y, wd z] F) = (
 True ∧ True ∧ True ∧ True ∧ True ∧ True ∧ True ∧ True ∧ True ∧ True ∧ True ∧ (false = false ∧ True) ∧ D.val (.int .u32 (ior IntKind.u32 (iand IntKind.u32 (↑(BitVec.toNat x) : Int) (↑(BitVec.toNat y) : Int)) (iand IntKind.u32 (↑(BitVec.toNat z) : Int) (ior IntKind.u32 (↑(BitVec.toNat x) : Int) (↑(BitVec.toNat y) : Int))))) = F) := by kernel_rfl
set_option maxRecDepth 100000 in
theorem vc129  (l : List Int) (i : Nat) (F : D)  :
    (owed c0 (fun _ => none) Tryd.f129 [.ints .u8 l, i64 (i : Int)] F) = (
 True ∧ True ∧ True ∧ ((0 : Int) ≤ (↑i : Int) ∧ (↑i : Int) < (↑l.length : Int) ∧ 1 = 1) ∧ (1 ≠ 0 ∧ 1 = 1 ∧ false = false) ∧ True ∧ (0 : Int) ≤ 24 ∧ True ∧ True ∧ True ∧ ((0 : Int) ≤ IntKind.i64.wrap ((↑i : Int) + (1 : Int)) ∧ IntKind.i64.wrap ((↑i : Int) + (1 : Int)) < (↑l.length : Int) ∧ 1 = 1) ∧ (1 ≠ 0 ∧ 1 = 1 ∧ false = false) ∧ True ∧ (0 : Int) ≤ 16 ∧ True ∧ True ∧ True ∧ True ∧ ((0 : Int) ≤ IntKind.i64.wrap ((↑i : Int) + (2 : Int)) ∧ IntKind.i64.wrap ((↑i : Int) + (2 : Int)) < (↑l.length : Int) ∧ 1 = 1) ∧ (1 ≠ 0 ∧ 1 = 1 ∧ false = false) ∧ True ∧ (0 : Int) ≤ 8 ∧ True ∧ True ∧ True ∧ True ∧ ((0 : Int) ≤ IntKind.i64.wrap ((↑i : Int) + (3 : Int)) ∧ IntKind.i64.wrap ((↑i : Int) + (3 : Int)) < (↑l.length : Int) ∧ 1 = 1) ∧ (1 ≠ 0 ∧ 1 = 1 ∧ false = false) ∧ True ∧ True ∧ True ∧ (false = false ∧ True) ∧ D.val (Value.int IntKind.u32 (ior IntKind.u32 (ior IntKind.u32 (ior IntKind.u32 (ishl IntKind.u32 (IntKind.u32.wrap (l.getD (↑i : Int).toNat (0 : Int))) (24 : Int)) (ishl IntKind.u32 (IntKind.u32.wrap (l.getD (IntKind.i64.wrap ((↑i : Int) + (1 : Int))).toNat (0 : Int))) (16 : Int))) (ishl IntKind.u32 (IntKind.u32.wrap (l.getD (IntKind.i64.wrap ((↑i : Int) + (2 : Int))).toNat (0 : Int))) (8 : Int))) (IntKind.u32.wrap (l.getD (IntKind.i64.wrap ((↑i : Int) + (3 : Int))).toNat (0 : Int))))) = F) := by kernel_rfl
theorem rr_eq (x : W) (n : Nat) : x <<< (32 - n) ||| x >>> n = rr x n := by unfold rr; exact BitVec.or_comm _ _
set_option maxRecDepth 100000 in
theorem m136 : Meets Tryd.prog 136 sp136 := by
 refine meets_of_owed (C := c0) ⟨tab_ok, fun f s h => by cases h⟩ (by kernel_rfl) (by kernel_rfl : Tryd.prog.funcs[136]? = some Tryd.f136) (by kernel_rfl) (by kernel_rfl) (by kernel_rfl) _ ?_
 rintro _ ⟨x, n, rfl, h1, h2⟩
 refine ⟨fun _ => rfl, fun _ => none, ?_⟩
 show owed c0 (fun _ => none) Tryd.f136 [wd x, i64 (-(n : Int))] (wd (rr (toW (wd x)) (-(-(n : Int))).toNat))
 rw [vc136, toW_wd, Int.neg_neg, Int.toNat_natCast]
 have e1 : iand .u64 (IntKind.u64.wrap (-(n : Int))) 31 = ((32 - n : Nat) : Int) := by
  rw [show IntKind.u64.wrap (-(n : Int)) = ((18446744073709551616 - n : Nat) : Int) by rw [w64]; omega, show (31 : Int) = ((31 : Nat) : Int) from rfl, iandN .u64 (show _ < 18446744073709551616 by omega) (show 31 < 18446744073709551616 by decide)]
  congr 1
  rw [show (31 : Nat) = 2 ^ 5 - 1 from rfl, Nat.and_two_pow_sub_one_eq_mod]
  omega
 have e2 : IntKind.u64.wrap (32 - ((32 - n : Nat) : Int)) = (n : Int) := by rw [w64]; omega
 rw [e1, e2, shlW x (by omega), shrW x (by omega), orW, rr_eq]
 and_intros <;> first | rfl | omega | trivial
set_option maxRecDepth 100000 in
theorem m130 : Meets Tryd.prog 130 sp130 := by
 refine meets_of_owed (C := c130) ⟨tab_ok, lkS_ok ⟨m136, trivial⟩⟩ (by kernel_rfl) (by kernel_rfl : Tryd.prog.funcs[130]? = some Tryd.f130) (by kernel_rfl) (by kernel_rfl) (by kernel_rfl) _ ?_
 rintro _ ⟨x, n, rfl, h1, h2⟩
 refine ⟨fun _ => rfl, fun _ => none, ?_⟩
 show owed c130 (fun _ => none) Tryd.f130 [wd x, i64 (n : Int)] (wd (rr (toW (wd x)) ((n : Int)).toNat))
 rw [vc130]
 have e : IntKind.i64.wrap (0 - (n : Int)) = -(n : Int) := by rw [wi (by omega) (by omega)]; omega
 rw [e, Int.neg_neg]
 simp only [true_and, and_true]
 exact ⟨x, n, rfl, h1, h2⟩
set_option maxRecDepth 100000 in
theorem m133 : Meets Tryd.prog 133 sp133 := by
 refine meets_of_owed (C := c0) ⟨tab_ok, fun f s h => by cases h⟩ (by kernel_rfl) (by kernel_rfl : Tryd.prog.funcs[133]? = some Tryd.f133) (by kernel_rfl) (by kernel_rfl) (by kernel_rfl) _ ?_
 rintro _ ⟨x, n, rfl, h1, h2⟩
 refine ⟨fun _ => rfl, fun _ => none, ?_⟩
 show owed c0 (fun _ => none) Tryd.f133 [wd x, u64 (n : Int)] (wd (rr (toW (wd x)) ((n : Int)).toNat))
 rw [vc133, toW_wd, Int.toNat_natCast]
 rw [show IntKind.u64.wrap (32 - (n : Int)) = ((32 - n : Nat) : Int) by rw [w64]; omega, shlW x (by omega), shrW x (by omega), orW, ← rr_eq, BitVec.or_comm]
 and_intros <;> first | rfl | omega | trivial
theorem ch_eq (x y z : W) : z ^^^ (x &&& (y ^^^ z)) = chW x y z := by
 unfold chW
 ext i hi
 simp only [BitVec.getElem_xor, BitVec.getElem_and, BitVec.getElem_not]
 cases x[i] <;> cases y[i] <;> cases z[i] <;> rfl
theorem mj_eq (x y z : W) : (x &&& y) ||| (z &&& (x ||| y)) = mjW x y z := by
 unfold mjW
 ext i hi
 simp only [BitVec.getElem_xor, BitVec.getElem_and, BitVec.getElem_or]
 cases x[i] <;> cases y[i] <;> cases z[i] <;> rfl
set_option maxRecDepth 100000 in
theorem m134 : Meets Tryd.prog 134 sp134 := by
 refine meets_of_owed (C := c0) ⟨tab_ok, fun f s h => by cases h⟩ (by kernel_rfl) (by kernel_rfl : Tryd.prog.funcs[134]? = some Tryd.f134) (by kernel_rfl) (by kernel_rfl) (by kernel_rfl) _ ?_
 rintro _ ⟨x, y, z, rfl⟩
 refine ⟨fun _ => rfl, fun _ => none, ?_⟩
 show owed c0 (fun _ => none) Tryd.f134 [wd x, wd y, wd z] (wd (chW (toW (wd x)) (toW (wd y)) (toW (wd z))))
 rw [vc134, toW_wd, toW_wd, toW_wd, xorW, andW, xorW, ch_eq]
 and_intros <;> first | rfl | omega | trivial
set_option maxRecDepth 100000 in
theorem m135 : Meets Tryd.prog 135 sp135 := by
 refine meets_of_owed (C := c0) ⟨tab_ok, fun f s h => by cases h⟩ (by kernel_rfl) (by kernel_rfl : Tryd.prog.funcs[135]? = some Tryd.f135) (by kernel_rfl) (by kernel_rfl) (by kernel_rfl) _ ?_
 rintro _ ⟨x, y, z, rfl⟩
 refine ⟨fun _ => rfl, fun _ => none, ?_⟩
 show owed c0 (fun _ => none) Tryd.f135 [wd x, wd y, wd z] (wd (mjW (toW (wd x)) (toW (wd y)) (toW (wd z))))
 rw [vc135, toW_wd, toW_wd, toW_wd, orW, andW, andW, orW, mj_eq]
 and_intros <;> first | rfl | omega | trivial
theorem byte_at {l : List Int} (h : isBytes l) {i : Nat} (hi : i < l.length) : ∃ b : Nat, l.getD i 0 = (b : Int) ∧ b < 256 := by
 have := h (l.getD i 0) (by rw [List.getD_eq_getElem?_getD, List.getElem?_eq_getElem hi]; exact List.getElem_mem hi)
 exact ⟨(l.getD i 0).toNat, by omega, by omega⟩
theorem or_add {a b k : Nat} (hb : b < 2 ^ k) (ha : a % 2 ^ k = 0) : a ||| b = a + b := by
 have e : a = 2 ^ k * (a / 2 ^ k) := by have := Nat.div_add_mod a (2 ^ k); omega
 rw [e, Nat.two_pow_add_eq_or_of_lt hb]
theorem w4_eq {a b c d : Nat} (ha : a < 256) (hb : b < 256) (hc : c < 256) (hd : d < 256) :
  ior .u32 (ior .u32 (ior .u32 (ishl .u32 (IntKind.u32.wrap (a : Int)) 24) (ishl .u32 (IntKind.u32.wrap (b : Int)) 16)) (ishl .u32 (IntKind.u32.wrap (c : Int)) 8)) (IntKind.u32.wrap (d : Int)) = ((w4 a b c d).toNat : Int) := by
 have k : kb .u32 = 4294967296 := rfl
 have sh : ∀ (x m : Nat), x < 256 → m ≤ 24 → ishl .u32 (IntKind.u32.wrap (x : Int)) (m : Int) = ((x * 2 ^ m : Nat) : Int) := by
  intro x m hx hm
  have : x * 2 ^ m < 4294967296 := by
   have : 2 ^ m ≤ 2 ^ 24 := Nat.pow_le_pow_right (by decide) hm
   have h2 : x * 2 ^ m ≤ 255 * 2 ^ 24 := Nat.mul_le_mul (by omega) this
   omega
  rw [wrapN .u32 (by rw [k]; omega), ishlN .u32 (by show m ≤ 32; omega), wrapN .u32 (by rw [k]; exact this)]
 rw [show (24 : Int) = ((24 : Nat) : Int) from rfl, show (16 : Int) = ((16 : Nat) : Int) from rfl, show (8 : Int) = ((8 : Nat) : Int) from rfl,
  sh a 24 ha (by decide), sh b 16 hb (by decide), sh c 8 hc (by decide), wrapN .u32 (n := d) (by rw [k]; omega)]
 have o1 : a * 2 ^ 24 ||| b * 2 ^ 16 = a * 2 ^ 24 + b * 2 ^ 16 := or_add (k := 24) (by omega) (by omega)
 have o2 : (a * 2 ^ 24 + b * 2 ^ 16) ||| c * 2 ^ 8 = a * 2 ^ 24 + b * 2 ^ 16 + c * 2 ^ 8 := or_add (k := 16) (by omega) (by omega)
 have o3 : (a * 2 ^ 24 + b * 2 ^ 16 + c * 2 ^ 8) ||| d = a * 2 ^ 24 + b * 2 ^ 16 + c * 2 ^ 8 + d := or_add (k := 8) (by omega) (by omega)
 rw [iorN .u32 (by rw [k]; omega) (by rw [k]; omega), o1, iorN .u32 (by rw [k]; omega) (by rw [k]; omega), o2, iorN .u32 (by rw [k]; omega) (by rw [k]; omega), o3]
 unfold w4
 rw [Int.toNat_natCast, Int.toNat_natCast, Int.toNat_natCast, Int.toNat_natCast, ofW _ (by omega)]
set_option maxRecDepth 100000 in
theorem m129 : Meets Tryd.prog 129 sp129 := by
 refine meets_of_owed (C := c0) ⟨tab_ok, fun f s h => by cases h⟩ (by kernel_rfl) (by kernel_rfl : Tryd.prog.funcs[129]? = some Tryd.f129) (by kernel_rfl) (by kernel_rfl) (by kernel_rfl) _ ?_
 rintro _ ⟨l, i, rfl, hb, hi, hi2⟩
 refine ⟨fun _ => rfl, fun _ => none, ?_⟩
 show owed c0 (fun _ => none) Tryd.f129 [.ints .u8 l, i64 (i : Int)] (wd (wat l ((i : Int)).toNat))
 rw [vc129]
 have e1 : IntKind.i64.wrap ((i : Int) + 1) = ((i + 1 : Nat) : Int) := by rw [wi (by omega) (by omega)]; omega
 have e2 : IntKind.i64.wrap ((i : Int) + 2) = ((i + 2 : Nat) : Int) := by rw [wi (by omega) (by omega)]; omega
 have e3 : IntKind.i64.wrap ((i : Int) + 3) = ((i + 3 : Nat) : Int) := by rw [wi (by omega) (by omega)]; omega
 rw [e1, e2, e3, Int.toNat_natCast, Int.toNat_natCast, Int.toNat_natCast, Int.toNat_natCast]
 unfold wat
 obtain ⟨a, ea, ha⟩ := byte_at hb (i := i) (by omega)
 obtain ⟨b, eb, hbb⟩ := byte_at hb (i := i + 1) (by omega)
 obtain ⟨c, ec, hc⟩ := byte_at hb (i := i + 2) (by omega)
 obtain ⟨d, ed, hd⟩ := byte_at hb (i := i + 3) (by omega)
 rw [ea, eb, ec, ed, w4_eq ha hbb hc hd]
 and_intros <;> first | rfl | omega | trivial
end Go.Proofs.YtkicjckhkefnpaaDoor
namespace Go.Proofs.YtkicjckhkefnpaaDoor
open Go Go.Vg
structure R8 where
 a : W
 b : W
 c : W
 d : W
 e : W
 f : W
 g : W
 h : W
def R8.l (x : R8) : List Int := [(x.a.toNat : Int), (x.b.toNat : Int), (x.c.toNat : Int), (x.d.toNat : Int), (x.e.toNat : Int), (x.f.toNat : Int), (x.g.toNat : Int), (x.h.toNat : Int)]
def sA (x : W) : W := (rr x 7 ^^^ rr x 18) ^^^ (x >>> 3)
def sB (x : W) : W := (rr x 17 ^^^ rr x 19) ^^^ (x >>> 10)
def sC (x : W) : W := (rr x 6 ^^^ rr x 11) ^^^ rr x 25
def sD (x : W) : W := (rr x 2 ^^^ rr x 13) ^^^ rr x 22
def wsR (l : List Int) : Nat → List W
 | 0 => []
 | t + 1 => (if t < 16 then wat l (4 * t) else (((wsR l t).getD 15 0 + sA ((wsR l t).getD 14 0)) + (wsR l t).getD 6 0) + sB ((wsR l t).getD 1 0)) :: wsR l t
def wn (l : List Int) (t : Nat) : W := (wsR l (t + 1)).getD 0 0
def wl (l : List Int) (n : Nat) : List Int := (List.range n).map fun t => ((wn l t).toNat : Int)
def kW (t : Nat) : W := BitVec.ofInt 32 (gl0.getD t 0)
def rdS (x : R8) (k w : W) : R8 :=
 let one := (((x.h + sC x.e) + chW x.e x.f x.g) + k) + w
 let two := sD x.a + mjW x.a x.b x.c
 ⟨one + two, x.a, x.b, x.c, x.d + one, x.e, x.f, x.g⟩
def rd (x : R8) (l : List Int) : Nat → R8
 | 0 => x
 | t + 1 => rdS (rd x l t) (kW t) (wn l t)
def add8 (x v : R8) : R8 := ⟨x.a + v.a, x.b + v.b, x.c + v.c, x.d + v.d, x.e + v.e, x.f + v.f, x.g + v.g, x.h + v.h⟩
def pr (x : R8) (l : List Int) : R8 := add8 x (rd x l 64)
def mixL (x : R8) (l : List Int) (i : Nat) : List Int := (pr x l).l.take i ++ x.l.drop i
def ofR (d : List Int) : R8 := ⟨BitVec.ofInt 32 (d.getD 0 0), BitVec.ofInt 32 (d.getD 1 0), BitVec.ofInt 32 (d.getD 2 0), BitVec.ofInt 32 (d.getD 3 0), BitVec.ofInt 32 (d.getD 4 0), BitVec.ofInt 32 (d.getD 5 0), BitVec.ofInt 32 (d.getD 6 0), BitVec.ofInt 32 (d.getD 7 0)⟩
def prL (h l : List Int) : List Int := (pr (ofR h) l).l
abbrev a8 (l : List Int) : D := .arr .u32 8 l
def sp117 : Go.Vg.Spec := ⟨fun ds => ∃ (x : R8) (l : List Int), ds = [a8 x.l, .arr .u8 64 l] ∧ isBytes l ∧ l.length = 64, fun ds => a8 (prL (arrOf (ds.headD default)) (arrOf (ds.getD 1 default))), true, [114, 115]⟩
def sp128 : Go.Vg.Spec := ⟨fun ds => ∃ (x : R8) (l : List Int), ds = [.ints .u32 x.l, .str l] ∧ isBytes l ∧ l.length = 64, fun ds => .ints .u32 (prL (intsOf (ds.headD default)) (strOf (ds.getD 1 default))), false, [170, 9]⟩
def c117 : Ctx := ⟨tab, lkS [(129, sp129), (130, sp130)], [], []⟩
def c128 : Ctx := ⟨tab, lkS [(133, sp133), (134, sp134), (135, sp135)], [24], []⟩
def inv117 (x : R8) (l : List Int) : Nat → Option Inv
 | 3 => some ⟨Nat, fun i => [(20, .d (i64 i))], fun i => [(5, .fix (.arr .u32 64 (wl l i ++ List.replicate (64 - i) 0)))], fun s => (slotN s 20).toNat, fun _ i => i ≤ 64, fun i => 64 - i⟩
 | 12 => some ⟨Nat, fun i => [(70, .d (i64 i))], fun i => [(9, .fix (a8 (rd x l i).l))], fun s => (slotN s 70).toNat, fun _ i => i ≤ 64, fun i => 64 - i⟩
 | 20 => some ⟨Nat, fun i => [(148, .d (i64 i))], fun i => [(2, .fix (a8 (mixL x l i)))], fun s => (slotN s 148).toNat, fun _ i => i ≤ 8, fun i => 8 - i⟩
 | _ => none
set_option maxRecDepth 100000 in
theorem vc117  (x : R8) (l : List Int) (F : D)  :
    (owed c117 (inv117 x l) Tryd.f117 [a8 x.l, .arr .u8 64 l] F) = (
 (True ∧ false = false) ∧ (True ∧ false = false) ∧ (True ∧ 8 ≠ 0) ∧ (True ∧ 64 ≠ 0) ∧ True ∧ (((AV.d (D.val (.int .i64 0)) = AV.d (D.val (.int .i64 (↑(Int.toNat (0 : Int)) : Int))) ∧ True) ∧ (sm (some (Blk.fix (D.arr .u32 8 [(↑(BitVec.toNat x.a) : Int), (↑(BitVec.toNat x.b) : Int), (↑(BitVec.toNat x.c) : Int), (↑(BitVec.toNat x.d) : Int), (↑(BitVec.toNat x.e) : Int), (↑(BitVec.toNat x.f) : Int), (↑(BitVec.toNat x.g) : Int), (↑(BitVec.toNat x.h) : Int)]))) ∧ sm (some (Blk.fix (D.arr .u8 64 l))) ∧ sm (some (Blk.fix (D.arr .u32 8 [(0 : Int), (0 : Int), (0 : Int), (0 : Int), (0 : Int), (0 : Int), (0 : Int), (0 : Int)]))) ∧ some (Blk.fix (D.arr .u32 64 (List.replicate 64 (0 : Int)))) = some (Blk.fix (D.arr .u32 64 (wl l (Int.toNat (0 : Int)) ++ (List.replicate 64 (0 : Int))))) ∧ True) ∧ true = true) ∧ Int.toNat (0 : Int) ≤ 64) ∧ ∀ (x_1 : Nat), x_1 ≤ 64 → true = true ∧ True ∧ match decide ((↑x_1 : Int) < (64 : Int)) with
 | true => True ∧ True ∧ True ∧ True ∧ match decide ((↑x_1 : Int) < (16 : Int)) with
  | true => True ∧ ((0 : Int) ≤ 0 ∧ (0 : Int) ≤ (↑(64 : Nat) : Int) ∧ (↑(64 : Nat) : Int) ≤ (↑(64 : Nat) : Int) ∧ 64 = 64 ∧ 1 = 1) ∧ True ∧ True ∧ (∃ (l_1 : List Int), ∃ (i : Nat), [D.ints .u8 (List.take ((↑(64 : Nat) : Int).toNat - Int.toNat (0 : Int)) (List.drop 0 l)), D.val (.int .i64 (IntKind.i64.wrap ((4 : Int) * (↑x_1 : Int))))] = [D.ints .u8 l_1, D.val (.int .i64 (↑i : Int))] ∧ isBytes l_1 ∧ i + 3 < l_1.length ∧ i < 1000) ∧ ((0 : Int) ≤ (↑x_1 : Int) ∧ (↑x_1 : Int) < (↑(64 : Nat) : Int) ∧ 64 = 64 ∧ 1 = 1) ∧ (((↑x_1 : Int).toNat < 64 ∧ ([] : List Nat) = [] ∧ true = true) ∧ 1 ≠ 0 ∧ 1 = 1 ∧ false = false) ∧ True ∧ True ∧ ((AV.d (D.val (.int .i64 (IntKind.i64.wrap ((↑x_1 : Int) + (1 : Int))))) = AV.d (D.val (.int .i64 (↑(IntKind.i64.wrap ((↑x_1 : Int) + (1 : Int))).toNat : Int))) ∧ True) ∧ (sm (some (Blk.fix (D.arr .u32 8 [(↑(BitVec.toNat x.a) : Int), (↑(BitVec.toNat x.b) : Int), (↑(BitVec.toNat x.c) : Int), (↑(BitVec.toNat x.d) : Int), (↑(BitVec.toNat x.e) : Int), (↑(BitVec.toNat x.f) : Int), (↑(BitVec.toNat x.g) : Int), (↑(BitVec.toNat x.h) : Int)]))) ∧ sm (some (Blk.fix (D.arr .u8 64 l))) ∧ sm (some (Blk.fix (D.arr .u32 8 [(0 : Int), (0 : Int), (0 : Int), (0 : Int), (0 : Int), (0 : Int), (0 : Int), (0 : Int)]))) ∧ some (Blk.fix (D.arr .u32 64 ((wl l x_1 ++ List.replicate (64 - x_1) (0 : Int)).set (↑x_1 : Int).toNat (↑(BitVec.toNat (wat (List.take ((↑(64 : Nat) : Int).toNat - Int.toNat (0 : Int)) (List.drop 0 l)) (IntKind.i64.wrap ((4 : Int) * (↑x_1 : Int))).toNat)) : Int)))) = some (Blk.fix (D.arr .u32 64 (wl l (IntKind.i64.wrap ((↑x_1 : Int) + (1 : Int))).toNat ++ List.replicate (64 - (IntKind.i64.wrap ((↑x_1 : Int) + (1 : Int))).toNat) (0 : Int)))) ∧ True) ∧ true = true) ∧ (IntKind.i64.wrap ((↑x_1 : Int) + (1 : Int))).toNat ≤ 64 ∧ 64 - (IntKind.i64.wrap ((↑x_1 : Int) + (1 : Int))).toNat < 64 - x_1
  | false => True ∧ True ∧ ((0 : Int) ≤ IntKind.i64.wrap ((↑x_1 : Int) - (15 : Int)) ∧ IntKind.i64.wrap ((↑x_1 : Int) - (15 : Int)) < (↑(64 : Nat) : Int) ∧ 64 = 64 ∧ 1 = 1) ∧ (1 ≠ 0 ∧ 1 = 1 ∧ false = false) ∧ True ∧ True ∧ ((0 : Int) ≤ IntKind.i64.wrap ((↑x_1 : Int) - (2 : Int)) ∧ IntKind.i64.wrap ((↑x_1 : Int) - (2 : Int)) < (↑(64 : Nat) : Int) ∧ 64 = 64 ∧ 1 = 1) ∧ (1 ≠ 0 ∧ 1 = 1 ∧ false = false) ∧ True ∧ True ∧ True ∧ True ∧ True ∧ ((0 : Int) ≤ IntKind.i64.wrap ((↑x_1 : Int) - (16 : Int)) ∧ IntKind.i64.wrap ((↑x_1 : Int) - (16 : Int)) < (↑(64 : Nat) : Int) ∧ 64 = 64 ∧ 1 = 1) ∧ (1 ≠ 0 ∧ 1 = 1 ∧ false = false) ∧ True ∧ (∃ (x : W), ∃ (n : Nat), [D.val (.int .u32 ((wl l x_1 ++ List.replicate (64 - x_1) (0 : Int)).getD (IntKind.i64.wrap ((↑x_1 : Int) - (15 : Int))).toNat (0 : Int))), D.val (.int .i64 7)] = [D.val (.int .u32 (↑(BitVec.toNat x) : Int)), D.val (.int .i64 (↑n : Int))] ∧ 1 ≤ n ∧ n ≤ 31) ∧ True ∧ (∃ (x : W), ∃ (n : Nat), [D.val (.int .u32 ((wl l x_1 ++ List.replicate (64 - x_1) (0 : Int)).getD (IntKind.i64.wrap ((↑x_1 : Int) - (15 : Int))).toNat (0 : Int))), D.val (.int .i64 18)] = [D.val (.int .u32 (↑(BitVec.toNat x) : Int)), D.val (.int .i64 (↑n : Int))] ∧ 1 ≤ n ∧ n ≤ 31) ∧ True ∧ True ∧ (0 : Int) ≤ 3 ∧ True ∧ True ∧ True ∧ True ∧ ((0 : Int) ≤ IntKind.i64.wrap ((↑x_1 : Int) - (7 : Int)) ∧ IntKind.i64.wrap ((↑x_1 : Int) - (7 : Int)) < (↑(64 : Nat) : Int) ∧ 64 = 64 ∧ 1 = 1) ∧ (1 ≠ 0 ∧ 1 = 1 ∧ false = false) ∧ True ∧ True ∧ (∃ (x : W), ∃ (n : Nat), [D.val (.int .u32 ((wl l x_1 ++ List.replicate (64 - x_1) (0 : Int)).getD (IntKind.i64.wrap ((↑x_1 : Int) - (2 : Int))).toNat (0 : Int))), D.val (.int .i64 17)] = [D.val (.int .u32 (↑(BitVec.toNat x) : Int)), D.val (.int .i64 (↑n : Int))] ∧ 1 ≤ n ∧ n ≤ 31) ∧ True ∧ (∃ (x : W), ∃ (n : Nat), [D.val (.int .u32 ((wl l x_1 ++ List.replicate (64 - x_1) (0 : Int)).getD (IntKind.i64.wrap ((↑x_1 : Int) - (2 : Int))).toNat (0 : Int))), D.val (.int .i64 19)] = [D.val (.int .u32 (↑(BitVec.toNat x) : Int)), D.val (.int .i64 (↑n : Int))] ∧ 1 ≤ n ∧ n ≤ 31) ∧ True ∧ True ∧ (0 : Int) ≤ 10 ∧ True ∧ True ∧ ((0 : Int) ≤ (↑x_1 : Int) ∧ (↑x_1 : Int) < (↑(64 : Nat) : Int) ∧ 64 = 64 ∧ 1 = 1) ∧ (((↑x_1 : Int).toNat < 64 ∧ ([] : List Nat) = [] ∧ true = true) ∧ 1 ≠ 0 ∧ 1 = 1 ∧ false = false) ∧ True ∧ True ∧ ((AV.d (D.val (.int .i64 (IntKind.i64.wrap ((↑x_1 : Int) + (1 : Int))))) = AV.d (D.val (.int .i64 (↑(IntKind.i64.wrap ((↑x_1 : Int) + (1 : Int))).toNat : Int))) ∧ True) ∧ (sm (some (Blk.fix (D.arr .u32 8 [(↑(BitVec.toNat x.a) : Int), (↑(BitVec.toNat x.b) : Int), (↑(BitVec.toNat x.c) : Int), (↑(BitVec.toNat x.d) : Int), (↑(BitVec.toNat x.e) : Int), (↑(BitVec.toNat x.f) : Int), (↑(BitVec.toNat x.g) : Int), (↑(BitVec.toNat x.h) : Int)]))) ∧ sm (some (Blk.fix (D.arr .u8 64 l))) ∧ sm (some (Blk.fix (D.arr .u32 8 [(0 : Int), (0 : Int), (0 : Int), (0 : Int), (0 : Int), (0 : Int), (0 : Int), (0 : Int)]))) ∧ some (Blk.fix (D.arr .u32 64 ((wl l x_1 ++ List.replicate (64 - x_1) (0 : Int)).set (↑x_1 : Int).toNat (IntKind.u32.wrap (IntKind.u32.wrap
   (IntKind.u32.wrap ((wl l x_1 ++ List.replicate (64 - x_1) (0 : Int)).getD (IntKind.i64.wrap ((↑x_1 : Int) - (16 : Int))).toNat (0 : Int) + ixor IntKind.u32 (ixor IntKind.u32 (↑(BitVec.toNat (rr (toW (D.val (.int .u32 ((wl l x_1 ++ List.replicate (64 - x_1) (0 : Int)).getD (IntKind.i64.wrap ((↑x_1 : Int) - (15 : Int))).toNat (0 : Int))))) 7)) : Int) (↑(BitVec.toNat (rr (toW (D.val (.int .u32 ((wl l x_1 ++ List.replicate (64 - x_1) (0 : Int)).getD (IntKind.i64.wrap ((↑x_1 : Int) - (15 : Int))).toNat (0 : Int))))) 18)) : Int)) (ishr IntKind.u32 ((wl l x_1 ++ List.replicate (64 - x_1) (0 : Int)).getD (IntKind.i64.wrap ((↑x_1 : Int) - (15 : Int))).toNat (0 : Int)) (3 : Int))) + (wl l x_1 ++ List.replicate (64 - x_1) (0 : Int)).getD (IntKind.i64.wrap ((↑x_1 : Int) - (7 : Int))).toNat (0 : Int)) + ixor IntKind.u32 (ixor IntKind.u32 (↑(BitVec.toNat (rr (toW (D.val (.int .u32 ((wl l x_1 ++ List.replicate (64 - x_1) (0 : Int)).getD (IntKind.i64.wrap ((↑x_1 : Int) - (2 : Int))).toNat (0 : Int))))) 17)) : Int) (↑(BitVec.toNat (rr (toW (D.val (.int .u32 ((wl l x_1 ++ List.replicate (64 - x_1) (0 : Int)).getD (IntKind.i64.wrap ((↑x_1 : Int) - (2 : Int))).toNat (0 : Int))))) 19)) : Int)) (ishr IntKind.u32 ((wl l x_1 ++ List.replicate (64 - x_1) (0 : Int)).getD (IntKind.i64.wrap ((↑x_1 : Int) - (2 : Int))).toNat (0 : Int)) (10 : Int))))))) = some (Blk.fix (D.arr .u32 64 (wl l (IntKind.i64.wrap ((↑x_1 : Int) + (1 : Int))).toNat ++ List.replicate (64 - (IntKind.i64.wrap ((↑x_1 : Int) + (1 : Int))).toNat) (0 : Int)))) ∧ True) ∧ true = true) ∧ (IntKind.i64.wrap ((↑x_1 : Int) + (1 : Int))).toNat ≤ 64 ∧ 64 - (IntKind.i64.wrap ((↑x_1 : Int) + (1 : Int))).toNat < 64 - x_1
 | false => (8 ≠ 0 ∧ 8 = 8 ∧ true = true) ∧ (True ∧ 8 ≠ 0) ∧ (Sk.arr 8 = Sk.arr 8 ∧ 8 ≠ 0 ∧ 8 = 8 ∧ false = false) ∧ True ∧ (((AV.d (D.val (.int .i64 0)) = AV.d (D.val (.int .i64 (↑(Int.toNat (0 : Int)) : Int))) ∧ True) ∧ (sm (some (Blk.fix (D.arr .u32 8 [(↑(BitVec.toNat x.a) : Int), (↑(BitVec.toNat x.b) : Int), (↑(BitVec.toNat x.c) : Int), (↑(BitVec.toNat x.d) : Int), (↑(BitVec.toNat x.e) : Int), (↑(BitVec.toNat x.f) : Int), (↑(BitVec.toNat x.g) : Int), (↑(BitVec.toNat x.h) : Int)]))) ∧ sm (some (Blk.fix (D.arr .u8 64 l))) ∧ sm (some (Blk.fix (D.arr .u32 8 [(0 : Int), (0 : Int), (0 : Int), (0 : Int), (0 : Int), (0 : Int), (0 : Int), (0 : Int)]))) ∧ sm (some (Blk.fix (D.arr .u32 64 (wl l x_1 ++ List.replicate (64 - x_1) (0 : Int))))) ∧ some (Blk.fix (D.arr .u32 8 [(↑(BitVec.toNat x.a) : Int), (↑(BitVec.toNat x.b) : Int), (↑(BitVec.toNat x.c) : Int), (↑(BitVec.toNat x.d) : Int), (↑(BitVec.toNat x.e) : Int), (↑(BitVec.toNat x.f) : Int), (↑(BitVec.toNat x.g) : Int), (↑(BitVec.toNat x.h) : Int)])) = some (Blk.fix (D.arr .u32 8 [(↑(BitVec.toNat (rd x l (Int.toNat (0 : Int))).a) : Int), (↑(BitVec.toNat (rd x l (Int.toNat (0 : Int))).b) : Int), (↑(BitVec.toNat (rd x l (Int.toNat (0 : Int))).c) : Int), (↑(BitVec.toNat (rd x l (Int.toNat (0 : Int))).d) : Int), (↑(BitVec.toNat (rd x l (Int.toNat (0 : Int))).e) : Int), (↑(BitVec.toNat (rd x l (Int.toNat (0 : Int))).f) : Int), (↑(BitVec.toNat (rd x l (Int.toNat (0 : Int))).g) : Int), (↑(BitVec.toNat (rd x l (Int.toNat (0 : Int))).h) : Int)])) ∧ True) ∧ true = true) ∧ Int.toNat (0 : Int) ≤ 64) ∧ ∀ (x_2 : Nat), x_2 ≤ 64 → true = true ∧ True ∧ match decide ((↑x_2 : Int) < (64 : Int)) with
  | true => True ∧ True ∧ ((0 : Int) ≤ 0 ∧ (0 : Int) < (↑(8 : Nat) : Int) ∧ 8 = 8 ∧ 1 = 1) ∧ (1 ≠ 0 ∧ 1 = 1 ∧ false = false) ∧ ((0 : Int) ≤ 1 ∧ (1 : Int) < (↑(8 : Nat) : Int) ∧ 8 = 8 ∧ 1 = 1) ∧ (1 ≠ 0 ∧ 1 = 1 ∧ false = false) ∧ ((0 : Int) ≤ 2 ∧ (2 : Int) < (↑(8 : Nat) : Int) ∧ 8 = 8 ∧ 1 = 1) ∧ (1 ≠ 0 ∧ 1 = 1 ∧ false = false) ∧ ((0 : Int) ≤ 4 ∧ (4 : Int) < (↑(8 : Nat) : Int) ∧ 8 = 8 ∧ 1 = 1) ∧ (1 ≠ 0 ∧ 1 = 1 ∧ false = false) ∧ ((0 : Int) ≤ 5 ∧ (5 : Int) < (↑(8 : Nat) : Int) ∧ 8 = 8 ∧ 1 = 1) ∧ (1 ≠ 0 ∧ 1 = 1 ∧ false = false) ∧ ((0 : Int) ≤ 6 ∧ (6 : Int) < (↑(8 : Nat) : Int) ∧ 8 = 8 ∧ 1 = 1) ∧ (1 ≠ 0 ∧ 1 = 1 ∧ false = false) ∧ True ∧ True ∧ True ∧ True ∧ True ∧ True ∧ ((0 : Int) ≤ 7 ∧ (7 : Int) < (↑(8 : Nat) : Int) ∧ 8 = 8 ∧ 1 = 1) ∧ (1 ≠ 0 ∧ 1 = 1 ∧ false = false) ∧ True ∧ (∃ (x_3 : W), ∃ (n : Nat), [D.val (.int .u32 (↑(BitVec.toNat (rd x l x_2).e) : Int)), D.val (.int .i64 6)] = [D.val (.int .u32 (↑(BitVec.toNat x_3) : Int)), D.val (.int .i64 (↑n : Int))] ∧ 1 ≤ n ∧ n ≤ 31) ∧ True ∧ (∃ (x_3 : W), ∃ (n : Nat), [D.val (.int .u32 (↑(BitVec.toNat (rd x l x_2).e) : Int)), D.val (.int .i64 11)] = [D.val (.int .u32 (↑(BitVec.toNat x_3) : Int)), D.val (.int .i64 (↑n : Int))] ∧ 1 ≤ n ∧ n ≤ 31) ∧ True ∧ True ∧ (∃ (x_3 : W), ∃ (n : Nat), [D.val (.int .u32 (↑(BitVec.toNat (rd x l x_2).e) : Int)), D.val (.int .i64 25)] = [D.val (.int .u32 (↑(BitVec.toNat x_3) : Int)), D.val (.int .i64 (↑n : Int))] ∧ 1 ≤ n ∧ n ≤ 31) ∧ True ∧ True ∧ True ∧ True ∧ True ∧ True ∧ True ∧ True ∧ True ∧ True ∧ True ∧ True ∧ ((0 : Int) ≤ (↑x_2 : Int) ∧ (↑x_2 : Int) < (↑(64 : Nat) : Int) ∧ 64 = 64 ∧ 1 = 1) ∧ (1 ≠ 0 ∧ 1 = 1 ∧ false = false) ∧ True ∧ True ∧ ((0 : Int) ≤ (↑x_2 : Int) ∧ (↑x_2 : Int) < (↑(64 : Nat) : Int) ∧ 64 = 64 ∧ 1 = 1) ∧ (1 ≠ 0 ∧ 1 = 1 ∧ false = false) ∧ True ∧ True ∧ True ∧ (∃ (x_3 : W), ∃ (n : Nat), [D.val (.int .u32 (↑(BitVec.toNat (rd x l x_2).a) : Int)), D.val (.int .i64 2)] = [D.val (.int .u32 (↑(BitVec.toNat x_3) : Int)), D.val (.int .i64 (↑n : Int))] ∧ 1 ≤ n ∧ n ≤ 31) ∧ True ∧ (∃ (x_3 : W), ∃ (n : Nat), [D.val (.int .u32 (↑(BitVec.toNat (rd x l x_2).a) : Int)), D.val (.int .i64 13)] = [D.val (.int .u32 (↑(BitVec.toNat x_3) : Int)), D.val (.int .i64 (↑n : Int))] ∧ 1 ≤ n ∧ n ≤ 31) ∧ True ∧ True ∧ (∃ (x_3 : W), ∃ (n : Nat), [D.val (.int .u32 (↑(BitVec.toNat (rd x l x_2).a) : Int)), D.val (.int .i64 22)] = [D.val (.int .u32 (↑(BitVec.toNat x_3) : Int)), D.val (.int .i64 (↑n : Int))] ∧ 1 ≤ n ∧ n ≤ 31) ∧ True ∧ True ∧ True ∧ True ∧ True ∧ True ∧ True ∧ True ∧ True ∧ True ∧ True ∧ True ∧ True ∧ True ∧ True ∧ True ∧ True ∧ True ∧ True ∧ True ∧ ((0 : Int) ≤ 3 ∧ (3 : Int) < (↑(8 : Nat) : Int) ∧ 8 = 8 ∧ 1 = 1) ∧ (1 ≠ 0 ∧ 1 = 1 ∧ false = false) ∧ True ∧ True ∧ True ∧ True ∧ True ∧ (1 = 1 ∧ false = false ∧ (0 < 8 ∧ ([] : List Nat) = [] ∧ true = true) ∧ false = false ∧ (1 < 8 ∧ ([] : List Nat) = [] ∧ true = true) ∧ false = false ∧ (2 < 8 ∧ ([] : List Nat) = [] ∧ true = true) ∧ false = false ∧ (3 < 8 ∧ ([] : List Nat) = [] ∧ true = true) ∧ false = false ∧ (4 < 8 ∧ ([] : List Nat) = [] ∧ true = true) ∧
   false = false ∧ (5 < 8 ∧ ([] : List Nat) = [] ∧ true = true) ∧ false = false ∧ (6 < 8 ∧ ([] : List Nat) = [] ∧ true = true) ∧ false = false ∧ (7 < 8 ∧ ([] : List Nat) = [] ∧ true = true) ∧ True) ∧ (Sk.arr 8 = Sk.arr 8 ∧ 8 ≠ 0 ∧ 8 = 8 ∧ false = false) ∧ True ∧ True ∧ ((AV.d (D.val (.int .i64 (IntKind.i64.wrap ((↑x_2 : Int) + (1 : Int))))) = AV.d (D.val (.int .i64 (↑(IntKind.i64.wrap ((↑x_2 : Int) + (1 : Int))).toNat : Int))) ∧ True) ∧ (sm (some (Blk.fix (D.arr .u32 8 [(↑(BitVec.toNat x.a) : Int), (↑(BitVec.toNat x.b) : Int), (↑(BitVec.toNat x.c) : Int), (↑(BitVec.toNat x.d) : Int), (↑(BitVec.toNat x.e) : Int), (↑(BitVec.toNat x.f) : Int), (↑(BitVec.toNat x.g) : Int), (↑(BitVec.toNat x.h) : Int)]))) ∧ sm (some (Blk.fix (D.arr .u8 64 l))) ∧ sm (some (Blk.fix (D.arr .u32 8 [(0 : Int), (0 : Int), (0 : Int), (0 : Int), (0 : Int), (0 : Int), (0 : Int), (0 : Int)]))) ∧ sm (some (Blk.fix (D.arr .u32 64 (wl l x_1 ++ List.replicate (64 - x_1) (0 : Int))))) ∧ some (Blk.fix (D.arr .u32 8 [IntKind.u32.wrap (IntKind.u32.wrap (IntKind.u32.wrap (IntKind.u32.wrap (IntKind.u32.wrap ((↑(BitVec.toNat (rd x l x_2).h) : Int) + ixor IntKind.u32 (ixor IntKind.u32 (↑(BitVec.toNat (rr (toW (D.val (.int .u32 (↑(BitVec.toNat (rd x l x_2).e) : Int)))) 6)) : Int) (↑(BitVec.toNat (rr (toW (D.val (.int .u32 (↑(BitVec.toNat (rd x l x_2).e) : Int)))) 11)) : Int)) (↑(BitVec.toNat (rr (toW (D.val (.int .u32 (↑(BitVec.toNat (rd x l x_2).e) : Int)))) 25)) : Int)) + ixor IntKind.u32 (iand IntKind.u32 (↑(BitVec.toNat (rd x l x_2).e) : Int) (↑(BitVec.toNat (rd x l x_2).f) : Int)) (iand IntKind.u32 (ixor IntKind.u32 IntKind.u32.max (↑(BitVec.toNat (rd x l x_2).e) : Int)) (↑(BitVec.toNat (rd x l x_2).g) : Int))) + gl0.getD (↑x_2 : Int).toNat (0 : Int)) + (wl l x_1 ++ List.replicate (64 - x_1) (0 : Int)).getD (↑x_2 : Int).toNat (0 : Int)) + IntKind.u32.wrap (ixor IntKind.u32 (ixor IntKind.u32 (↑(BitVec.toNat (rr (toW (D.val (.int .u32 (↑(BitVec.toNat (rd x l x_2).a) : Int)))) 2)) : Int) (↑(BitVec.toNat (rr (toW (D.val (.int .u32 (↑(BitVec.toNat (rd x l x_2).a) : Int)))) 13)) : Int)) (↑(BitVec.toNat (rr (toW (D.val (.int .u32 (↑(BitVec.toNat (rd x l x_2).a) : Int)))) 22)) : Int) + ixor IntKind.u32 (ixor IntKind.u32 (iand IntKind.u32 (↑(BitVec.toNat (rd x l x_2).a) : Int) (↑(BitVec.toNat (rd x l x_2).b) : Int)) (iand IntKind.u32 (↑(BitVec.toNat (rd x l x_2).a) : Int) (↑(BitVec.toNat (rd x l x_2).c) : Int))) (iand IntKind.u32 (↑(BitVec.toNat (rd x l x_2).b) : Int) (↑(BitVec.toNat (rd x l x_2).c) : Int)))), (↑(BitVec.toNat (rd x l x_2).a) : Int), (↑(BitVec.toNat (rd x l x_2).b) : Int), (↑(BitVec.toNat (rd x l x_2).c) : Int), IntKind.u32.wrap ((↑(BitVec.toNat (rd x l x_2).d) : Int) + IntKind.u32.wrap (IntKind.u32.wrap (IntKind.u32.wrap (IntKind.u32.wrap ((↑(BitVec.toNat (rd x l x_2).h) : Int) + ixor IntKind.u32 (ixor IntKind.u32 (↑(BitVec.toNat (rr (toW (D.val (.int .u32 (↑(BitVec.toNat (rd x l x_2).e) : Int)))) 6)) : Int) (↑(BitVec.toNat (rr (toW (D.val (.int .u32 (↑(BitVec.toNat (rd x l x_2).e) : Int)))) 11)) : Int))
   (↑(BitVec.toNat (rr (toW (D.val (.int .u32 (↑(BitVec.toNat (rd x l x_2).e) : Int)))) 25)) : Int)) + ixor IntKind.u32 (iand IntKind.u32 (↑(BitVec.toNat (rd x l x_2).e) : Int) (↑(BitVec.toNat (rd x l x_2).f) : Int)) (iand IntKind.u32 (ixor IntKind.u32 IntKind.u32.max (↑(BitVec.toNat (rd x l x_2).e) : Int)) (↑(BitVec.toNat (rd x l x_2).g) : Int))) + gl0.getD (↑x_2 : Int).toNat (0 : Int)) + (wl l x_1 ++ List.replicate (64 - x_1) (0 : Int)).getD (↑x_2 : Int).toNat (0 : Int))), (↑(BitVec.toNat (rd x l x_2).e) : Int), (↑(BitVec.toNat (rd x l x_2).f) : Int), (↑(BitVec.toNat (rd x l x_2).g) : Int)])) = some (Blk.fix (D.arr .u32 8 [(↑(BitVec.toNat (rd x l (IntKind.i64.wrap ((↑x_2 : Int) + (1 : Int))).toNat).a) : Int), (↑(BitVec.toNat (rd x l (IntKind.i64.wrap ((↑x_2 : Int) + (1 : Int))).toNat).b) : Int), (↑(BitVec.toNat (rd x l (IntKind.i64.wrap ((↑x_2 : Int) + (1 : Int))).toNat).c) : Int), (↑(BitVec.toNat (rd x l (IntKind.i64.wrap ((↑x_2 : Int) + (1 : Int))).toNat).d) : Int), (↑(BitVec.toNat (rd x l (IntKind.i64.wrap ((↑x_2 : Int) + (1 : Int))).toNat).e) : Int), (↑(BitVec.toNat (rd x l (IntKind.i64.wrap ((↑x_2 : Int) + (1 : Int))).toNat).f) : Int), (↑(BitVec.toNat (rd x l (IntKind.i64.wrap ((↑x_2 : Int) + (1 : Int))).toNat).g) : Int), (↑(BitVec.toNat (rd x l (IntKind.i64.wrap ((↑x_2 : Int) + (1 : Int))).toNat).h) : Int)])) ∧ True) ∧ true = true) ∧ (IntKind.i64.wrap ((↑x_2 : Int) + (1 : Int))).toNat ≤ 64 ∧ 64 - (IntKind.i64.wrap ((↑x_2 : Int) + (1 : Int))).toNat < 64 - x_2
  | false => True ∧ (((AV.d (D.val (.int .i64 0)) = AV.d (D.val (.int .i64 (↑(Int.toNat (0 : Int)) : Int))) ∧ True) ∧ (some (Blk.fix (D.arr .u32 8 [(↑(BitVec.toNat x.a) : Int), (↑(BitVec.toNat x.b) : Int), (↑(BitVec.toNat x.c) : Int), (↑(BitVec.toNat x.d) : Int), (↑(BitVec.toNat x.e) : Int), (↑(BitVec.toNat x.f) : Int), (↑(BitVec.toNat x.g) : Int), (↑(BitVec.toNat x.h) : Int)])) = some (Blk.fix (D.arr .u32 8 (mixL x l (Int.toNat (0 : Int))))) ∧ sm (some (Blk.fix (D.arr .u8 64 l))) ∧ sm (some (Blk.fix (D.arr .u32 8 [(0 : Int), (0 : Int), (0 : Int), (0 : Int), (0 : Int), (0 : Int), (0 : Int), (0 : Int)]))) ∧ sm (some (Blk.fix (D.arr .u32 64 (wl l x_1 ++ List.replicate (64 - x_1) (0 : Int))))) ∧ sm (some (Blk.fix (D.arr .u32 8 [(↑(BitVec.toNat (rd x l x_2).a) : Int), (↑(BitVec.toNat (rd x l x_2).b) : Int), (↑(BitVec.toNat (rd x l x_2).c) : Int), (↑(BitVec.toNat (rd x l x_2).d) : Int), (↑(BitVec.toNat (rd x l x_2).e) : Int), (↑(BitVec.toNat (rd x l x_2).f) : Int), (↑(BitVec.toNat (rd x l x_2).g) : Int), (↑(BitVec.toNat (rd x l x_2).h) : Int)]))) ∧ True) ∧ true = true) ∧ Int.toNat (0 : Int) ≤ 8) ∧ ∀ (x_3 : Nat), x_3 ≤ 8 → true = true ∧ True ∧ match decide ((↑x_3 : Int) < (8 : Int)) with
   | true => True ∧ True ∧ True ∧ ((0 : Int) ≤ (↑x_3 : Int) ∧ (↑x_3 : Int) < (↑(8 : Nat) : Int) ∧ 8 = 8 ∧ 1 = 1) ∧ (1 ≠ 0 ∧ 1 = 1 ∧ false = false) ∧ True ∧ ((0 : Int) ≤ (↑x_3 : Int) ∧ (↑x_3 : Int) < (↑(8 : Nat) : Int) ∧ 8 = 8 ∧ 1 = 1) ∧ (1 ≠ 0 ∧ 1 = 1 ∧ false = false) ∧ True ∧ ((0 : Int) ≤ (↑x_3 : Int) ∧ (↑x_3 : Int) < (↑(8 : Nat) : Int) ∧ 8 = 8 ∧ 1 = 1) ∧ (((↑x_3 : Int).toNat < 8 ∧ ([] : List Nat) = [] ∧ true = true) ∧ 1 ≠ 0 ∧ 1 = 1 ∧ false = false) ∧ True ∧ True ∧ ((AV.d (D.val (.int .i64 (IntKind.i64.wrap ((↑x_3 : Int) + (1 : Int))))) = AV.d (D.val (.int .i64 (↑(IntKind.i64.wrap ((↑x_3 : Int) + (1 : Int))).toNat : Int))) ∧ True) ∧ (some (Blk.fix (D.arr .u32 8 ((mixL x l x_3).set (↑x_3 : Int).toNat (IntKind.u32.wrap ((mixL x l x_3).getD (↑x_3 : Int).toNat (0 : Int) + [(↑(BitVec.toNat (rd x l x_2).a) : Int), (↑(BitVec.toNat (rd x l x_2).b) : Int), (↑(BitVec.toNat (rd x l x_2).c) : Int), (↑(BitVec.toNat (rd x l x_2).d) : Int), (↑(BitVec.toNat (rd x l x_2).e) : Int), (↑(BitVec.toNat (rd x l x_2).f) : Int), (↑(BitVec.toNat (rd x l x_2).g) : Int), (↑(BitVec.toNat (rd x l x_2).h) : Int)].getD (↑x_3 : Int).toNat (0 : Int)))))) = some (Blk.fix (D.arr .u32 8 (mixL x l (IntKind.i64.wrap ((↑x_3 : Int) + (1 : Int))).toNat))) ∧ sm (some (Blk.fix (D.arr .u8 64 l))) ∧ sm (some (Blk.fix (D.arr .u32 8 [(0 : Int), (0 : Int), (0 : Int), (0 : Int), (0 : Int), (0 : Int), (0 : Int), (0 : Int)]))) ∧ sm (some (Blk.fix (D.arr .u32 64 (wl l x_1 ++ List.replicate (64 - x_1) (0 : Int))))) ∧ sm (some (Blk.fix (D.arr .u32 8 [(↑(BitVec.toNat (rd x l x_2).a) : Int), (↑(BitVec.toNat (rd x l x_2).b) : Int), (↑(BitVec.toNat (rd x l x_2).c) : Int), (↑(BitVec.toNat (rd x l x_2).d) : Int), (↑(BitVec.toNat (rd x l x_2).e) : Int), (↑(BitVec.toNat (rd x l x_2).f) : Int), (↑(BitVec.toNat (rd x l x_2).g) : Int), (↑(BitVec.toNat (rd x l x_2).h) : Int)]))) ∧ True) ∧ true = true) ∧ (IntKind.i64.wrap ((↑x_3 : Int) + (1 : Int))).toNat ≤ 8 ∧ 8 - (IntKind.i64.wrap ((↑x_3 : Int) + (1 : Int))).toNat < 8 - x_3
   | false => (8 ≠ 0 ∧ 8 = 8 ∧ true = true) ∧ (Sk.arr 8 = Sk.arr 8 ∧ 8 ≠ 0 ∧ 8 = 8 ∧ false = false) ∧ ((8 ≠ 0 ∧ 8 = 8 ∧ true = true) ∧ True) ∧ D.arr .u32 8 (mixL x l x_3) = F) := by kernel_rfl
end Go.Proofs.YtkicjckhkefnpaaDoor
namespace Go.Proofs.YtkicjckhkefnpaaDoor
open Go Go.Vg
theorem wsR_get (l : List Int) : ∀ t i, i < t → (wsR l t).getD i 0 = wn l (t - 1 - i)
 | 0, _, h => by omega
 | t + 1, 0, _ => rfl
 | t + 1, i + 1, h => by
  rw [wsR, List.getD_cons_succ, wsR_get l t i (by omega)]
  congr 1
  omega
theorem wn_lo (l : List Int) {t : Nat} (h : t < 16) : wn l t = wat l (4 * t) := by
 unfold wn
 rw [wsR, List.getD_cons_zero, if_pos h]
theorem wn_hi (l : List Int) {t : Nat} (h : 16 ≤ t) : wn l t = ((wn l (t - 16) + sA (wn l (t - 15))) + wn l (t - 7)) + sB (wn l (t - 2)) := by
 have e : wn l t = (wsR l (t + 1)).getD 0 0 := rfl
 rw [e, wsR, List.getD_cons_zero, if_neg (by omega), wsR_get l t 15 (by omega), wsR_get l t 14 (by omega), wsR_get l t 6 (by omega), wsR_get l t 1 (by omega)]
 rw [show t - 1 - 15 = t - 16 by omega, show t - 1 - 14 = t - 15 by omega, show t - 1 - 6 = t - 7 by omega, show t - 1 - 1 = t - 2 by omega]
theorem wl_len (l : List Int) (n : Nat) : (wl l n).length = n := by unfold wl; simp
theorem wl_get (l : List Int) {n j : Nat} (h : j < n) (r : List Int) : (wl l n ++ r).getD j 0 = ((wn l j).toNat : Int) := by
 rw [List.getD_eq_getElem?_getD, List.getElem?_append_left (by rw [wl_len]; exact h)]
 unfold wl
 simp [h]
theorem wl_succ (l : List Int) (n : Nat) : wl l (n + 1) = wl l n ++ [((wn l n).toNat : Int)] := by
 unfold wl
 rw [List.range_succ, List.map_append]
 rfl
theorem wl_set (l : List Int) {n : Nat} (h : n < 64) : (wl l n ++ List.replicate (64 - n) 0).set n ((wn l n).toNat : Int) = wl l (n + 1) ++ List.replicate (64 - (n + 1)) 0 := by
 have e : 64 - n = (64 - (n + 1)) + 1 := by omega
 rw [wl_succ, e, List.replicate_succ, List.set_append_right _ _ (by rw [wl_len]; omega), wl_len, Nat.sub_self, List.set_cons_zero, List.append_assoc]
 rfl
theorem gl_ok : (gl0.all fun n => decide (0 ≤ n) && decide (n < 4294967296)) = true ∧ gl0.length = 64 ∧ gl1 = gl0 := ⟨by decide +kernel, rfl, rfl⟩
theorem kW_eq {t : Nat} (h : t < 64) : gl0.getD t 0 = ((kW t).toNat : Int) := by
 have hl := gl_ok.2.1
 have hm : gl0.getD t 0 ∈ gl0 := by
  rw [List.getD_eq_getElem?_getD, List.getElem?_eq_getElem (by omega)]
  exact List.getElem_mem _
 have := List.all_eq_true.1 gl_ok.1 _ hm
 simp only [Bool.and_eq_true, decide_eq_true_eq] at this
 unfold kW
 generalize gl0.getD t 0 = z at *
 obtain ⟨n, rfl⟩ := Int.eq_ofNat_of_zero_le this.1
 rw [BitVec.ofInt_natCast, ofW _ (by omega)]
theorem shr3 (x : W) : ishr .u32 (x.toNat : Int) 3 = ((x >>> 3).toNat : Int) := shrW x (n := 3) (by decide)
theorem shr10 (x : W) : ishr .u32 (x.toNat : Int) 10 = ((x >>> 10).toNat : Int) := shrW x (n := 10) (by decide)
theorem notW' (x : W) : ixor .u32 IntKind.u32.max (x.toNat : Int) = ((~~~x).toNat : Int) := notW x
theorem mix_gen (x v : R8) {i : Nat} (h : i < 8) : ((add8 x v).l.take i ++ x.l.drop i).set i (IntKind.u32.wrap (((add8 x v).l.take i ++ x.l.drop i).getD i 0 + v.l.getD i 0)) = (add8 x v).l.take (i + 1) ++ x.l.drop (i + 1) := by
 rcases (by omega : i = 0 ∨ i = 1 ∨ i = 2 ∨ i = 3 ∨ i = 4 ∨ i = 5 ∨ i = 6 ∨ i = 7) with rfl | rfl | rfl | rfl | rfl | rfl | rfl | rfl <;>
  simp [R8.l, add8, addW]
theorem mix_step (x : R8) (l : List Int) {i : Nat} (h : i < 8) : (mixL x l i).set i (IntKind.u32.wrap ((mixL x l i).getD i 0 + (rd x l 64).l.getD i 0)) = mixL x l (i + 1) := by
 unfold mixL pr
 exact mix_gen _ _ h
theorem ofR_l (x : R8) : ofR x.l = x := by
 have h : ∀ y : W, BitVec.ofInt 32 (y.toNat : Int) = y := toW_wd
 show R8.mk (BitVec.ofInt 32 (x.a.toNat : Int)) (BitVec.ofInt 32 (x.b.toNat : Int)) (BitVec.ofInt 32 (x.c.toNat : Int)) (BitVec.ofInt 32 (x.d.toNat : Int)) (BitVec.ofInt 32 (x.e.toNat : Int)) (BitVec.ofInt 32 (x.f.toNat : Int)) (BitVec.ofInt 32 (x.g.toNat : Int)) (BitVec.ofInt 32 (x.h.toNat : Int)) = x
 simp only [h]
theorem fA (x : W) : (rr x 7 ^^^ rr x 18) ^^^ x >>> 3 = sA x := rfl
theorem fB (x : W) : (rr x 17 ^^^ rr x 19) ^^^ x >>> 10 = sB x := rfl
theorem fC (x : W) : (rr x 6 ^^^ rr x 11) ^^^ rr x 25 = sC x := rfl
theorem fD (x : W) : (rr x 2 ^^^ rr x 13) ^^^ rr x 22 = sD x := rfl
theorem fch (x y z : W) : (x &&& y) ^^^ (~~~x &&& z) = chW x y z := rfl
theorem fmj (x y z : W) : ((x &&& y) ^^^ (x &&& z)) ^^^ (y &&& z) = mjW x y z := rfl
theorem rd_succ (x : R8) (l : List Int) (t : Nat) : rd x l (t + 1) = rdS (rd x l t) (kW t) (wn l t) := rfl
set_option maxRecDepth 100000 in
theorem m117 : Meets Tryd.prog 117 sp117 := by
 refine meets_of_owed (C := c117) ⟨tab_ok, lkS_ok ⟨m129, m130, trivial⟩⟩ (by kernel_rfl) (by kernel_rfl : Tryd.prog.funcs[117]? = some Tryd.f117) (by kernel_rfl) (by kernel_rfl) (by kernel_rfl) _ ?_
 rintro _ ⟨x, l, rfl, hb, hl⟩
 refine ⟨fun _ => rfl, inv117 x l, ?_⟩
 show owed c117 (inv117 x l) Tryd.f117 [a8 x.l, .arr .u8 64 l] (a8 (prL x.l l))
 unfold prL
 rw [vc117, ofR_l]
 have hw0 : wl l 0 = [] := rfl
 have hm0 : mixL x l 0 = x.l := rfl
 have hr0 : rd x l 0 = x := rfl
 have hxl : [((x.a.toNat : Nat) : Int), ((x.b.toNat : Nat) : Int), ((x.c.toNat : Nat) : Int), ((x.d.toNat : Nat) : Int), ((x.e.toNat : Nat) : Int), ((x.f.toNat : Nat) : Int), ((x.g.toNat : Nat) : Int), ((x.h.toNat : Nat) : Int)] = x.l := rfl
 simp (decide := true) only [eq_self, true_and, and_true, ne_eq, not_false_eq_true, Int.toNat_natCast, hw0, List.nil_append, Int.toNat_zero, hm0, hr0, hxl]
 refine ⟨rfl, fun t ht => ?_⟩
 split
 ·rename_i h
  have h : t < 64 := by have := of_decide_eq_true h; omega
  have ew : IntKind.i64.wrap ((t : Int) + 1) = ((t + 1 : Nat) : Int) := by rw [wi (by omega) (by omega)]; omega
  split
  ·rename_i h2
   have h2 : t < 16 := by have := of_decide_eq_true h2; omega
   have e4 : IntKind.i64.wrap (4 * (t : Int)) = ((4 * t : Nat) : Int) := by rw [wi (by omega) (by omega)]; omega
   rw [e4, ew, Int.toNat_natCast, Int.toNat_natCast]
   simp only [List.drop_zero, Nat.sub_zero, List.take_of_length_le (Nat.le_of_eq hl), ← wn_lo l h2, wl_set l h]
   refine ⟨⟨l, 4 * t, rfl, hb, by omega, by omega⟩, ?_⟩
   and_intros <;> first | exact trivial | rfl | omega
  ·rename_i h2
   have h2 : 16 ≤ t := by have := of_decide_eq_false h2; omega
   have e15 : IntKind.i64.wrap ((t : Int) - 15) = ((t - 15 : Nat) : Int) := by rw [wi (by omega) (by omega)]; omega
   have e16 : IntKind.i64.wrap ((t : Int) - 16) = ((t - 16 : Nat) : Int) := by rw [wi (by omega) (by omega)]; omega
   have e7 : IntKind.i64.wrap ((t : Int) - 7) = ((t - 7 : Nat) : Int) := by rw [wi (by omega) (by omega)]; omega
   have e2 : IntKind.i64.wrap ((t : Int) - 2) = ((t - 2 : Nat) : Int) := by rw [wi (by omega) (by omega)]; omega
   have g15 := wl_get l (n := t) (j := t - 15) (by omega) (List.replicate (64 - t) 0)
   have g16 := wl_get l (n := t) (j := t - 16) (by omega) (List.replicate (64 - t) 0)
   have g7 := wl_get l (n := t) (j := t - 7) (by omega) (List.replicate (64 - t) 0)
   have g2 := wl_get l (n := t) (j := t - 2) (by omega) (List.replicate (64 - t) 0)
   simp only [e15, e16, e7, e2, ew, Int.toNat_natCast, g15, g16, g7, g2, toW_wd, xorW, shr3, shr10, addW, fA, fB, ← wn_hi l h2, wl_set l h]
   and_intros <;> first | exact trivial | rfl | omega | exact ⟨_, 7, rfl, by decide, by decide⟩ | exact ⟨_, 18, rfl, by decide, by decide⟩ | exact ⟨_, 17, rfl, by decide, by decide⟩ | exact ⟨_, 19, rfl, by decide, by decide⟩
 ·rename_i h
  obtain rfl : t = 64 := by have := of_decide_eq_false h; omega
  refine ⟨rfl, fun t ht => ?_⟩
  split
  ·rename_i h
   have h : t < 64 := by have := of_decide_eq_true h; omega
   have ew : IntKind.i64.wrap ((t : Int) + 1) = ((t + 1 : Nat) : Int) := by rw [wi (by omega) (by omega)]; omega
   have gt := wl_get l (n := 64) (j := t) h (List.replicate (64 - 64) 0)
   simp only [ew, Int.toNat_natCast, gt, kW_eq h, toW_wd, xorW, andW, notW', addW, fC, fD, fch, fmj, rd_succ]
   and_intros <;> first | exact trivial | rfl | omega | exact ⟨_, 6, rfl, by decide, by decide⟩ | exact ⟨_, 11, rfl, by decide, by decide⟩ | exact ⟨_, 25, rfl, by decide, by decide⟩ | exact ⟨_, 2, rfl, by decide, by decide⟩ | exact ⟨_, 13, rfl, by decide, by decide⟩ | exact ⟨_, 22, rfl, by decide, by decide⟩
  ·rename_i h
   obtain rfl : t = 64 := by have := of_decide_eq_false h; omega
   refine ⟨rfl, fun t ht => ?_⟩
   split
   ·rename_i h
    have h : t < 8 := by have := of_decide_eq_true h; omega
    have ew : IntKind.i64.wrap ((t : Int) + 1) = ((t + 1 : Nat) : Int) := by rw [wi (by omega) (by omega)]; omega
    have hs := mix_step x l h
    simp only [R8.l] at hs
    simp only [ew, Int.toNat_natCast, hs]
    and_intros <;> first | exact trivial | rfl | omega
   ·rename_i h
    obtain rfl : t = 8 := by have := of_decide_eq_false h; omega
    rfl
end Go.Proofs.YtkicjckhkefnpaaDoor
namespace Go.Proofs.YtkicjckhkefnpaaDoor
open Go Go.Vg
def pw (l : List Int) (i : Nat) : Nat → W
 | 0 => 0
 | k + 1 => pw l i k * 256 + BitVec.ofNat 32 (l.getD (i + k) 0).toNat
def inv128 (x : R8) (l : List Int) : Nat → Option Inv
 | 3 => some ⟨Nat, fun i => [(6, .d (i64 ((4 * i : Nat) : Int))), (5, .row 24), (24, .any)], fun i => [(24, .row 113 (.ints .u32 (wl l i)))], fun s => (slotN s 6).toNat / 4, fun _ i => i ≤ 16, fun i => 16 - i⟩
 | 7 => some ⟨Nat × Nat, fun i => [(29, .d (i64 (i.1 : Int))), (7, .d (wd (pw l i.2 i.1)))], fun _ => [], fun s => ((slotN s 29).toNat, (slotN s 6).toNat), fun s i => i.1 ≤ 4 ∧ (i.2 : Int) = slotN s 6, fun i => 4 - i.1⟩
 | 12 => some ⟨Nat, fun _ => [(5, .row 24)], fun i => [(24, .row 113 (.ints .u32 (wl l i)))], fun s => (rowD s 24).length, fun _ i => 16 ≤ i ∧ i ≤ 64, fun i => 64 - i⟩
 | 18 => some ⟨Nat, fun i => [(119, .d (i64 i)), (12, .d (wd (rd x l i).a)), (13, .d (wd (rd x l i).b)), (14, .d (wd (rd x l i).c)), (15, .d (wd (rd x l i).d)), (16, .d (wd (rd x l i).e)), (17, .d (wd (rd x l i).f)), (18, .d (wd (rd x l i).g)), (19, .d (wd (rd x l i).h))],
   fun _ => [], fun s => (slotN s 119).toNat, fun _ i => i ≤ 64, fun i => 64 - i⟩
 | _ => none
set_option maxRecDepth 100000 in
theorem vc128  (x : R8) (l : List Int) (F : D)  :
    (owed c128 (inv128 x l) Tryd.f128 [.ints .u32 x.l, .str l] F) = (
 True ∧ ((0 : Int) ≤ 0 ∧ (0 : Int) ≤ 64 ∧ (64 : Int) ≤ 281474976710656 ∧ (↑(4 : Nat) : Int) * (64 : Int) ≤ 281474976710656 ∧ 1 = 1) ∧ True ∧ True ∧ (((sm (AV.d (D.ints .u32 [(↑(BitVec.toNat x.a) : Int), (↑(BitVec.toNat x.b) : Int), (↑(BitVec.toNat x.c) : Int), (↑(BitVec.toNat x.d) : Int), (↑(BitVec.toNat x.e) : Int), (↑(BitVec.toNat x.f) : Int), (↑(BitVec.toNat x.g) : Int), (↑(BitVec.toNat x.h) : Int)])) ∧ sm (AV.d (D.str l)) ∧ sm (AV.d (D.val (Value.slice none 0 0))) ∧ sm (AV.row 24) ∧ AV.d (D.val (.int .i64 0)) = AV.d (D.val (.int .i64 (↑(0 : Nat) : Int))) ∧ True) ∧ (some (Blk.row (113 : TypeId) (D.ints .u32 [])) = some (Blk.row (113 : TypeId) (D.ints .u32 (wl l (0 / 4 : Nat)))) ∧ True) ∧ true = true) ∧ (0 / 4 : Nat) ≤ 16) ∧ ∀ (x_1 : Nat), x_1 ≤ 16 → true = true ∧ True ∧ True ∧ match decide ((↑(4 * x_1) : Int) < (64 : Int)) with
 | true => True ∧ True ∧ (((sm (AV.d (D.ints .u32 [(↑(BitVec.toNat x.a) : Int), (↑(BitVec.toNat x.b) : Int), (↑(BitVec.toNat x.c) : Int), (↑(BitVec.toNat x.d) : Int), (↑(BitVec.toNat x.e) : Int), (↑(BitVec.toNat x.f) : Int), (↑(BitVec.toNat x.g) : Int), (↑(BitVec.toNat x.h) : Int)])) ∧ sm (AV.d (D.str l)) ∧ sm (AV.d (D.val (Value.slice none 0 0))) ∧ sm (AV.row 24) ∧ sm (AV.d (D.val (.int .i64 (↑(4 * x_1) : Int)))) ∧ AV.d (D.val (.int .u32 0)) = AV.d (D.val (.int .u32 (↑(BitVec.toNat (pw l (↑(4 * x_1) : Int).toNat 0)) : Int))) ∧ sm (AV.d (D.val (.int .i64 (↑(4 * x_1) : Int)))) ∧ sm (AV.d (D.val (Value.bool (decide ((↑(4 * x_1) : Int) < (64 : Int)))))) ∧ AV.d (D.val (.int .i64 0)) = AV.d (D.val (.int .i64 (↑(0 : Nat) : Int))) ∧ True) ∧ (sm (some (Blk.row (113 : TypeId) (D.ints .u32 (wl l x_1)))) ∧ True) ∧ true = true) ∧ 0 ≤ 4 ∧ (↑(↑(4 * x_1) : Int).toNat : Int) = (↑(4 * x_1) : Int)) ∧ ∀ (x_2 : Nat × Nat), x_2.fst ≤ 4 ∧ (↑x_2.snd : Int) = (↑(4 * x_1) : Int) → true = true ∧ True ∧ match decide ((↑x_2.fst : Int) < (4 : Int)) with
  | true => True ∧ True ∧ True ∧ True ∧ True ∧ True ∧ True ∧ True ∧ ((0 : Int) ≤ IntKind.i64.wrap ((↑(4 * x_1) : Int) + (↑x_2.fst : Int)) ∧ IntKind.i64.wrap ((↑(4 * x_1) : Int) + (↑x_2.fst : Int)) < (↑l.length : Int)) ∧ True ∧ True ∧ True ∧ True ∧ True ∧ ((sm (AV.d (D.ints .u32 [(↑(BitVec.toNat x.a) : Int), (↑(BitVec.toNat x.b) : Int), (↑(BitVec.toNat x.c) : Int), (↑(BitVec.toNat x.d) : Int), (↑(BitVec.toNat x.e) : Int), (↑(BitVec.toNat x.f) : Int), (↑(BitVec.toNat x.g) : Int), (↑(BitVec.toNat x.h) : Int)])) ∧ sm (AV.d (D.str l)) ∧ sm (AV.d (D.val (Value.slice none 0 0))) ∧ sm (AV.row 24) ∧ sm (AV.d (D.val (.int .i64 (↑(4 * x_1) : Int)))) ∧ AV.d (D.val (.int .u32 (IntKind.u32.wrap (IntKind.u32.wrap ((↑(BitVec.toNat (pw l x_2.snd x_2.fst)) : Int) * (256 : Int)) + IntKind.u32.wrap (l.getD (IntKind.i64.wrap ((↑(4 * x_1) : Int) + (↑x_2.fst : Int))).toNat (0 : Int)))))) = AV.d (D.val (.int .u32 (↑(BitVec.toNat (pw l (↑(4 * x_1) : Int).toNat (IntKind.i64.wrap ((↑x_2.fst : Int) + (1 : Int))).toNat)) : Int))) ∧ sm (AV.d (D.val (.int .i64 (↑(4 * x_1) : Int)))) ∧ sm (AV.d (D.val (Value.bool (decide ((↑(4 * x_1) : Int) < (64 : Int)))))) ∧ AV.d (D.val (.int .i64 (IntKind.i64.wrap ((↑x_2.fst : Int) + (1 : Int))))) = AV.d (D.val (.int .i64 (↑(IntKind.i64.wrap ((↑x_2.fst : Int) + (1 : Int))).toNat : Int))) ∧ True) ∧ (sm (some (Blk.row (113 : TypeId) (D.ints .u32 (wl l x_1)))) ∧ True) ∧ true = true) ∧ ((IntKind.i64.wrap ((↑x_2.fst : Int) + (1 : Int))).toNat ≤ 4 ∧ (↑(↑(4 * x_1) : Int).toNat : Int) = (↑(4 * x_1) : Int)) ∧ 4 - (IntKind.i64.wrap ((↑x_2.fst : Int) + (1 : Int))).toNat < 4 - x_2.fst
  | false => True ∧ True ∧ (1 = 1 ∧ 1 ≤ 4096) ∧ ((113 : TypeId) = (113 : TypeId) ∧ 170 = 170 ∧ true = true ∧ (wl l x_1 ++ [(↑(BitVec.toNat (pw l x_2.snd x_2.fst)) : Int)]).length ≤ 140737488355328 ∧ (wl l x_1 ++ [(↑(BitVec.toNat (pw l x_2.snd x_2.fst)) : Int)]).length * 4 ≤ 140737488355328 ∧ 1 ≠ 0 ∧ 1 = 1) ∧ True ∧ True ∧ True ∧ True ∧ ((sm (AV.d (D.ints .u32 [(↑(BitVec.toNat x.a) : Int), (↑(BitVec.toNat x.b) : Int), (↑(BitVec.toNat x.c) : Int), (↑(BitVec.toNat x.d) : Int), (↑(BitVec.toNat x.e) : Int), (↑(BitVec.toNat x.f) : Int), (↑(BitVec.toNat x.g) : Int), (↑(BitVec.toNat x.h) : Int)])) ∧ sm (AV.d (D.str l)) ∧ sm (AV.d (D.val (Value.slice none 0 0))) ∧ sm (AV.row 24) ∧ AV.d (D.val (.int .i64 (IntKind.i64.wrap ((↑(4 * x_1) : Int) + (4 : Int))))) = AV.d (D.val (.int .i64 (↑(4 * ((IntKind.i64.wrap ((↑(4 * x_1) : Int) + (4 : Int))).toNat / 4)) : Int))) ∧ True) ∧ (some (Blk.row (113 : TypeId) (D.ints .u32 (wl l x_1 ++ [(↑(BitVec.toNat (pw l x_2.snd x_2.fst)) : Int)]))) = some (Blk.row (113 : TypeId) (D.ints .u32 (wl l ((IntKind.i64.wrap ((↑(4 * x_1) : Int) + (4 : Int))).toNat / 4)))) ∧ True) ∧ true = true) ∧ (IntKind.i64.wrap ((↑(4 * x_1) : Int) + (4 : Int))).toNat / 4 ≤ 16 ∧ 16 - (IntKind.i64.wrap ((↑(4 * x_1) : Int) + (4 : Int))).toNat / 4 < 16 - x_1
 | false => (((sm (AV.row 24) ∧ True) ∧ (some (Blk.row (113 : TypeId) (D.ints .u32 (wl l x_1))) = some (Blk.row (113 : TypeId) (D.ints .u32 (wl l (wl l x_1).length))) ∧ True) ∧ true = true) ∧ 16 ≤ (wl l x_1).length ∧ (wl l x_1).length ≤ 64) ∧ ∀ (x_2 : Nat), 16 ≤ x_2 ∧ x_2 ≤ 64 → true = true ∧ True ∧ True ∧ True ∧ match decide ((↑(wl l x_2).length : Int) < (64 : Int)) with
  | true => True ∧ True ∧ True ∧ True ∧ True ∧ True ∧ ((0 : Int) ≤ IntKind.i64.wrap ((↑(wl l x_2).length : Int) - (15 : Int)) ∧ IntKind.i64.wrap ((↑(wl l x_2).length : Int) - (15 : Int)) < (↑(wl l x_2).length : Int) ∧ 1 = 1) ∧ ((IntKind.i64.wrap ((↑(wl l x_2).length : Int) - (15 : Int))).toNat < (wl l x_2).length ∧ 1 = 1 ∧ false = false) ∧ True ∧ True ∧ True ∧ ((0 : Int) ≤ IntKind.i64.wrap ((↑(wl l x_2).length : Int) - (2 : Int)) ∧ IntKind.i64.wrap ((↑(wl l x_2).length : Int) - (2 : Int)) < (↑(wl l x_2).length : Int) ∧ 1 = 1) ∧ ((IntKind.i64.wrap ((↑(wl l x_2).length : Int) - (2 : Int))).toNat < (wl l x_2).length ∧ 1 = 1 ∧ false = false) ∧ True ∧ True ∧ True ∧ True ∧ True ∧ True ∧ ((0 : Int) ≤ IntKind.i64.wrap ((↑(wl l x_2).length : Int) - (16 : Int)) ∧ IntKind.i64.wrap ((↑(wl l x_2).length : Int) - (16 : Int)) < (↑(wl l x_2).length : Int) ∧ 1 = 1) ∧ ((IntKind.i64.wrap ((↑(wl l x_2).length : Int) - (16 : Int))).toNat < (wl l x_2).length ∧ 1 = 1 ∧ false = false) ∧ True ∧ True ∧ True ∧ ((0 : Int) ≤ IntKind.i64.wrap ((↑(wl l x_2).length : Int) - (7 : Int)) ∧ IntKind.i64.wrap ((↑(wl l x_2).length : Int) - (7 : Int)) < (↑(wl l x_2).length : Int) ∧ 1 = 1) ∧ ((IntKind.i64.wrap ((↑(wl l x_2).length : Int) - (7 : Int))).toNat < (wl l x_2).length ∧ 1 = 1 ∧ false = false) ∧ True ∧ True ∧ (∃ (x : W), ∃ (n : Nat), [D.val (.int .u32 ((wl l x_2).getD (IntKind.i64.wrap ((↑(wl l x_2).length : Int) - (15 : Int))).toNat (0 : Int))), D.val (.int .u64 7)] = [D.val (.int .u32 (↑(BitVec.toNat x) : Int)), D.val (.int .u64 (↑n : Int))] ∧ 1 ≤ n ∧ n ≤ 31) ∧ True ∧ (∃ (x : W), ∃ (n : Nat), [D.val (.int .u32 ((wl l x_2).getD (IntKind.i64.wrap ((↑(wl l x_2).length : Int) - (15 : Int))).toNat (0 : Int))), D.val (.int .u64 18)] = [D.val (.int .u32 (↑(BitVec.toNat x) : Int)), D.val (.int .u64 (↑n : Int))] ∧ 1 ≤ n ∧ n ≤ 31) ∧ True ∧ True ∧ (8 : Int) ≠ 0 ∧ True ∧ True ∧ True ∧ (∃ (x : W), ∃ (n : Nat), [D.val (.int .u32 ((wl l x_2).getD (IntKind.i64.wrap ((↑(wl l x_2).length : Int) - (2 : Int))).toNat (0 : Int))), D.val (.int .u64 17)] = [D.val (.int .u32 (↑(BitVec.toNat x) : Int)), D.val (.int .u64 (↑n : Int))] ∧ 1 ≤ n ∧ n ≤ 31) ∧ True ∧ (∃ (x : W), ∃ (n : Nat), [D.val (.int .u32 ((wl l x_2).getD (IntKind.i64.wrap ((↑(wl l x_2).length : Int) - (2 : Int))).toNat (0 : Int))), D.val (.int .u64 19)] = [D.val (.int .u32 (↑(BitVec.toNat x) : Int)), D.val (.int .u64 (↑n : Int))] ∧ 1 ≤ n ∧ n ≤ 31) ∧ True ∧ True ∧ (1024 : Int) ≠ 0 ∧ True ∧ True ∧ (1 = 1 ∧ 1 ≤ 4096) ∧ ((113 : TypeId) = (113 : TypeId) ∧ 170 = 170 ∧ true = true ∧ (wl l x_2 ++ [IntKind.u32.wrap (IntKind.u32.wrap (IntKind.u32.wrap ((wl l x_2).getD (IntKind.i64.wrap ((↑(wl l x_2).length : Int) - (16 : Int))).toNat (0 : Int) + (wl l x_2).getD (IntKind.i64.wrap ((↑(wl l x_2).length : Int) - (7 : Int))).toNat (0 : Int)) + ixor IntKind.u32 (ixor IntKind.u32 (↑(BitVec.toNat (rr (toW (D.val (.int .u32 ((wl l x_2).getD (IntKind.i64.wrap ((↑(wl l x_2).length : Int) - (15 : Int))).toNat (0 : Int))))) 7)) : Int) (↑(BitVec.toNat (rr (toW (D.val (.int .u32 ((wl l x_2).getD (IntKind.i64.wrap ((↑(wl l x_2).length : Int) - (15 : Int))).toNat (0 : Int))))) 18)) : Int))
   (IntKind.u32.wrap (((wl l x_2).getD (IntKind.i64.wrap ((↑(wl l x_2).length : Int) - (15 : Int))).toNat (0 : Int)).tdiv (8 : Int)))) + ixor IntKind.u32 (ixor IntKind.u32 (↑(BitVec.toNat (rr (toW (D.val (.int .u32 ((wl l x_2).getD (IntKind.i64.wrap ((↑(wl l x_2).length : Int) - (2 : Int))).toNat (0 : Int))))) 17)) : Int) (↑(BitVec.toNat (rr (toW (D.val (.int .u32 ((wl l x_2).getD (IntKind.i64.wrap ((↑(wl l x_2).length : Int) - (2 : Int))).toNat (0 : Int))))) 19)) : Int)) (IntKind.u32.wrap (((wl l x_2).getD (IntKind.i64.wrap ((↑(wl l x_2).length : Int) - (2 : Int))).toNat (0 : Int)).tdiv (1024 : Int))))]).length ≤ 140737488355328 ∧ (wl l x_2 ++ [IntKind.u32.wrap (IntKind.u32.wrap (IntKind.u32.wrap ((wl l x_2).getD (IntKind.i64.wrap ((↑(wl l x_2).length : Int) - (16 : Int))).toNat (0 : Int) + (wl l x_2).getD (IntKind.i64.wrap ((↑(wl l x_2).length : Int) - (7 : Int))).toNat (0 : Int)) + ixor IntKind.u32 (ixor IntKind.u32 (↑(BitVec.toNat (rr (toW (D.val (.int .u32 ((wl l x_2).getD (IntKind.i64.wrap ((↑(wl l x_2).length : Int) - (15 : Int))).toNat (0 : Int))))) 7)) : Int) (↑(BitVec.toNat (rr (toW (D.val (.int .u32 ((wl l x_2).getD (IntKind.i64.wrap ((↑(wl l x_2).length : Int) - (15 : Int))).toNat (0 : Int))))) 18)) : Int)) (IntKind.u32.wrap (((wl l x_2).getD (IntKind.i64.wrap ((↑(wl l x_2).length : Int) - (15 : Int))).toNat (0 : Int)).tdiv (8 : Int)))) + ixor IntKind.u32 (ixor IntKind.u32 (↑(BitVec.toNat (rr (toW (D.val (.int .u32 ((wl l x_2).getD (IntKind.i64.wrap ((↑(wl l x_2).length : Int) - (2 : Int))).toNat (0 : Int))))) 17)) : Int) (↑(BitVec.toNat (rr (toW (D.val (.int .u32 ((wl l x_2).getD (IntKind.i64.wrap ((↑(wl l x_2).length : Int) - (2 : Int))).toNat (0 : Int))))) 19)) : Int)) (IntKind.u32.wrap (((wl l x_2).getD (IntKind.i64.wrap ((↑(wl l x_2).length : Int) - (2 : Int))).toNat (0 : Int)).tdiv (1024 : Int))))]).length * 4 ≤ 140737488355328 ∧ 1 ≠ 0 ∧ 1 = 1) ∧ True ∧ ((sm (AV.row 24) ∧ True) ∧ (some (Blk.row (113 : TypeId) (D.ints .u32 (wl l x_2 ++ [IntKind.u32.wrap (IntKind.u32.wrap (IntKind.u32.wrap ((wl l x_2).getD (IntKind.i64.wrap ((↑(wl l x_2).length : Int) - (16 : Int))).toNat (0 : Int) + (wl l x_2).getD (IntKind.i64.wrap ((↑(wl l x_2).length : Int) - (7 : Int))).toNat (0 : Int)) + ixor IntKind.u32 (ixor IntKind.u32 (↑(BitVec.toNat (rr (toW (D.val (.int .u32 ((wl l x_2).getD (IntKind.i64.wrap ((↑(wl l x_2).length : Int) - (15 : Int))).toNat (0 : Int))))) 7)) : Int) (↑(BitVec.toNat (rr (toW (D.val (.int .u32 ((wl l x_2).getD (IntKind.i64.wrap ((↑(wl l x_2).length : Int) - (15 : Int))).toNat (0 : Int))))) 18)) : Int)) (IntKind.u32.wrap (((wl l x_2).getD (IntKind.i64.wrap ((↑(wl l x_2).length : Int) - (15 : Int))).toNat (0 : Int)).tdiv (8 : Int)))) + ixor IntKind.u32 (ixor IntKind.u32 (↑(BitVec.toNat (rr (toW (D.val (.int .u32 ((wl l x_2).getD (IntKind.i64.wrap ((↑(wl l x_2).length : Int) - (2 : Int))).toNat (0 : Int))))) 17)) : Int) (↑(BitVec.toNat (rr (toW (D.val (.int .u32 ((wl l x_2).getD (IntKind.i64.wrap ((↑(wl l x_2).length : Int) - (2 : Int))).toNat (0 : Int))))) 19)) : Int))
   (IntKind.u32.wrap (((wl l x_2).getD (IntKind.i64.wrap ((↑(wl l x_2).length : Int) - (2 : Int))).toNat (0 : Int)).tdiv (1024 : Int))))]))) = some (Blk.row (113 : TypeId) (D.ints .u32 (wl l (wl l x_2 ++ [IntKind.u32.wrap (IntKind.u32.wrap (IntKind.u32.wrap ((wl l x_2).getD (IntKind.i64.wrap ((↑(wl l x_2).length : Int) - (16 : Int))).toNat (0 : Int) + (wl l x_2).getD (IntKind.i64.wrap ((↑(wl l x_2).length : Int) - (7 : Int))).toNat (0 : Int)) + ixor IntKind.u32 (ixor IntKind.u32 (↑(BitVec.toNat (rr (toW (D.val (.int .u32 ((wl l x_2).getD (IntKind.i64.wrap ((↑(wl l x_2).length : Int) - (15 : Int))).toNat (0 : Int))))) 7)) : Int) (↑(BitVec.toNat (rr (toW (D.val (.int .u32 ((wl l x_2).getD (IntKind.i64.wrap ((↑(wl l x_2).length : Int) - (15 : Int))).toNat (0 : Int))))) 18)) : Int)) (IntKind.u32.wrap (((wl l x_2).getD (IntKind.i64.wrap ((↑(wl l x_2).length : Int) - (15 : Int))).toNat (0 : Int)).tdiv (8 : Int)))) + ixor IntKind.u32 (ixor IntKind.u32 (↑(BitVec.toNat (rr (toW (D.val (.int .u32 ((wl l x_2).getD (IntKind.i64.wrap ((↑(wl l x_2).length : Int) - (2 : Int))).toNat (0 : Int))))) 17)) : Int) (↑(BitVec.toNat (rr (toW (D.val (.int .u32 ((wl l x_2).getD (IntKind.i64.wrap ((↑(wl l x_2).length : Int) - (2 : Int))).toNat (0 : Int))))) 19)) : Int)) (IntKind.u32.wrap (((wl l x_2).getD (IntKind.i64.wrap ((↑(wl l x_2).length : Int) - (2 : Int))).toNat (0 : Int)).tdiv (1024 : Int))))]).length))) ∧ True) ∧ true = true) ∧ (16 ≤ (wl l x_2 ++ [IntKind.u32.wrap (IntKind.u32.wrap (IntKind.u32.wrap ((wl l x_2).getD (IntKind.i64.wrap ((↑(wl l x_2).length : Int) - (16 : Int))).toNat (0 : Int) + (wl l x_2).getD (IntKind.i64.wrap ((↑(wl l x_2).length : Int) - (7 : Int))).toNat (0 : Int)) + ixor IntKind.u32 (ixor IntKind.u32 (↑(BitVec.toNat (rr (toW (D.val (.int .u32 ((wl l x_2).getD (IntKind.i64.wrap ((↑(wl l x_2).length : Int) - (15 : Int))).toNat (0 : Int))))) 7)) : Int) (↑(BitVec.toNat (rr (toW (D.val (.int .u32 ((wl l x_2).getD (IntKind.i64.wrap ((↑(wl l x_2).length : Int) - (15 : Int))).toNat (0 : Int))))) 18)) : Int)) (IntKind.u32.wrap (((wl l x_2).getD (IntKind.i64.wrap ((↑(wl l x_2).length : Int) - (15 : Int))).toNat (0 : Int)).tdiv (8 : Int)))) + ixor IntKind.u32 (ixor IntKind.u32 (↑(BitVec.toNat (rr (toW (D.val (.int .u32 ((wl l x_2).getD (IntKind.i64.wrap ((↑(wl l x_2).length : Int) - (2 : Int))).toNat (0 : Int))))) 17)) : Int) (↑(BitVec.toNat (rr (toW (D.val (.int .u32 ((wl l x_2).getD (IntKind.i64.wrap ((↑(wl l x_2).length : Int) - (2 : Int))).toNat (0 : Int))))) 19)) : Int)) (IntKind.u32.wrap (((wl l x_2).getD (IntKind.i64.wrap ((↑(wl l x_2).length : Int) - (2 : Int))).toNat (0 : Int)).tdiv (1024 : Int))))]).length ∧ (wl l x_2 ++ [IntKind.u32.wrap (IntKind.u32.wrap (IntKind.u32.wrap ((wl l x_2).getD (IntKind.i64.wrap ((↑(wl l x_2).length : Int) - (16 : Int))).toNat (0 : Int) + (wl l x_2).getD (IntKind.i64.wrap ((↑(wl l x_2).length : Int) - (7 : Int))).toNat (0 : Int)) + ixor IntKind.u32 (ixor IntKind.u32 (↑(BitVec.toNat (rr (toW (D.val (.int .u32 ((wl l x_2).getD (IntKind.i64.wrap ((↑(wl l x_2).length : Int) - (15 : Int))).toNat (0 : Int))))) 7)) : Int)
   (↑(BitVec.toNat (rr (toW (D.val (.int .u32 ((wl l x_2).getD (IntKind.i64.wrap ((↑(wl l x_2).length : Int) - (15 : Int))).toNat (0 : Int))))) 18)) : Int)) (IntKind.u32.wrap (((wl l x_2).getD (IntKind.i64.wrap ((↑(wl l x_2).length : Int) - (15 : Int))).toNat (0 : Int)).tdiv (8 : Int)))) + ixor IntKind.u32 (ixor IntKind.u32 (↑(BitVec.toNat (rr (toW (D.val (.int .u32 ((wl l x_2).getD (IntKind.i64.wrap ((↑(wl l x_2).length : Int) - (2 : Int))).toNat (0 : Int))))) 17)) : Int) (↑(BitVec.toNat (rr (toW (D.val (.int .u32 ((wl l x_2).getD (IntKind.i64.wrap ((↑(wl l x_2).length : Int) - (2 : Int))).toNat (0 : Int))))) 19)) : Int)) (IntKind.u32.wrap (((wl l x_2).getD (IntKind.i64.wrap ((↑(wl l x_2).length : Int) - (2 : Int))).toNat (0 : Int)).tdiv (1024 : Int))))]).length ≤ 64) ∧ 64 - (wl l x_2 ++ [IntKind.u32.wrap (IntKind.u32.wrap (IntKind.u32.wrap ((wl l x_2).getD (IntKind.i64.wrap ((↑(wl l x_2).length : Int) - (16 : Int))).toNat (0 : Int) + (wl l x_2).getD (IntKind.i64.wrap ((↑(wl l x_2).length : Int) - (7 : Int))).toNat (0 : Int)) + ixor IntKind.u32 (ixor IntKind.u32 (↑(BitVec.toNat (rr (toW (D.val (.int .u32 ((wl l x_2).getD (IntKind.i64.wrap ((↑(wl l x_2).length : Int) - (15 : Int))).toNat (0 : Int))))) 7)) : Int) (↑(BitVec.toNat (rr (toW (D.val (.int .u32 ((wl l x_2).getD (IntKind.i64.wrap ((↑(wl l x_2).length : Int) - (15 : Int))).toNat (0 : Int))))) 18)) : Int)) (IntKind.u32.wrap (((wl l x_2).getD (IntKind.i64.wrap ((↑(wl l x_2).length : Int) - (15 : Int))).toNat (0 : Int)).tdiv (8 : Int)))) + ixor IntKind.u32 (ixor IntKind.u32 (↑(BitVec.toNat (rr (toW (D.val (.int .u32 ((wl l x_2).getD (IntKind.i64.wrap ((↑(wl l x_2).length : Int) - (2 : Int))).toNat (0 : Int))))) 17)) : Int) (↑(BitVec.toNat (rr (toW (D.val (.int .u32 ((wl l x_2).getD (IntKind.i64.wrap ((↑(wl l x_2).length : Int) - (2 : Int))).toNat (0 : Int))))) 19)) : Int)) (IntKind.u32.wrap (((wl l x_2).getD (IntKind.i64.wrap ((↑(wl l x_2).length : Int) - (2 : Int))).toNat (0 : Int)).tdiv (1024 : Int))))]).length < 64 - x_2
  | false => True ∧ ((0 : Int) ≤ 0 ∧ (0 : Int) < (↑(8 : Nat) : Int) ∧ 1 = 1) ∧ (1 ≠ 0 ∧ 1 = 1 ∧ false = false) ∧ True ∧ ((0 : Int) ≤ 1 ∧ (1 : Int) < (↑(8 : Nat) : Int) ∧ 1 = 1) ∧ (1 ≠ 0 ∧ 1 = 1 ∧ false = false) ∧ True ∧ ((0 : Int) ≤ 2 ∧ (2 : Int) < (↑(8 : Nat) : Int) ∧ 1 = 1) ∧ (1 ≠ 0 ∧ 1 = 1 ∧ false = false) ∧ True ∧ ((0 : Int) ≤ 3 ∧ (3 : Int) < (↑(8 : Nat) : Int) ∧ 1 = 1) ∧ (1 ≠ 0 ∧ 1 = 1 ∧ false = false) ∧ True ∧ ((0 : Int) ≤ 4 ∧ (4 : Int) < (↑(8 : Nat) : Int) ∧ 1 = 1) ∧ (1 ≠ 0 ∧ 1 = 1 ∧ false = false) ∧ True ∧ ((0 : Int) ≤ 5 ∧ (5 : Int) < (↑(8 : Nat) : Int) ∧ 1 = 1) ∧ (1 ≠ 0 ∧ 1 = 1 ∧ false = false) ∧ True ∧ ((0 : Int) ≤ 6 ∧ (6 : Int) < (↑(8 : Nat) : Int) ∧ 1 = 1) ∧ (1 ≠ 0 ∧ 1 = 1 ∧ false = false) ∧ True ∧ ((0 : Int) ≤ 7 ∧ (7 : Int) < (↑(8 : Nat) : Int) ∧ 1 = 1) ∧ (1 ≠ 0 ∧ 1 = 1 ∧ false = false) ∧ True ∧ True ∧ True ∧ True ∧ True ∧ True ∧ True ∧ True ∧ True ∧ True ∧ True ∧ (((sm (AV.d (D.ints .u32 [(↑(BitVec.toNat x.a) : Int), (↑(BitVec.toNat x.b) : Int), (↑(BitVec.toNat x.c) : Int), (↑(BitVec.toNat x.d) : Int), (↑(BitVec.toNat x.e) : Int), (↑(BitVec.toNat x.f) : Int), (↑(BitVec.toNat x.g) : Int), (↑(BitVec.toNat x.h) : Int)])) ∧ sm (AV.d (D.str l)) ∧ sm (AV.d (D.val (Value.slice none 0 0))) ∧ sm (AV.row 24) ∧ sm (AV.d (D.val (.int .i64 (↑(4 * x_1) : Int)))) ∧ AV.d (D.val (.int .u32 (↑(BitVec.toNat x.a) : Int))) = AV.d (D.val (.int .u32 (↑(BitVec.toNat (rd x l (Int.toNat (0 : Int))).a) : Int))) ∧ AV.d (D.val (.int .u32 (↑(BitVec.toNat x.b) : Int))) = AV.d (D.val (.int .u32 (↑(BitVec.toNat (rd x l (Int.toNat (0 : Int))).b) : Int))) ∧ AV.d (D.val (.int .u32 (↑(BitVec.toNat x.c) : Int))) = AV.d (D.val (.int .u32 (↑(BitVec.toNat (rd x l (Int.toNat (0 : Int))).c) : Int))) ∧ AV.d (D.val (.int .u32 (↑(BitVec.toNat x.d) : Int))) = AV.d (D.val (.int .u32 (↑(BitVec.toNat (rd x l (Int.toNat (0 : Int))).d) : Int))) ∧ AV.d (D.val (.int .u32 (↑(BitVec.toNat x.e) : Int))) = AV.d (D.val (.int .u32 (↑(BitVec.toNat (rd x l (Int.toNat (0 : Int))).e) : Int))) ∧ AV.d (D.val (.int .u32 (↑(BitVec.toNat x.f) : Int))) = AV.d (D.val (.int .u32 (↑(BitVec.toNat (rd x l (Int.toNat (0 : Int))).f) : Int))) ∧ AV.d (D.val (.int .u32 (↑(BitVec.toNat x.g) : Int))) = AV.d (D.val (.int .u32 (↑(BitVec.toNat (rd x l (Int.toNat (0 : Int))).g) : Int))) ∧ AV.d (D.val (.int .u32 (↑(BitVec.toNat x.h) : Int))) = AV.d (D.val (.int .u32 (↑(BitVec.toNat (rd x l (Int.toNat (0 : Int))).h) : Int))) ∧ sm (AV.d (D.val (.int .i64 (↑(4 * x_1) : Int)))) ∧ sm (AV.d (D.val (Value.bool (decide ((↑(4 * x_1) : Int) < (64 : Int)))))) ∧ sm (AV.row 24) ∧ sm (AV.d (D.val (.int .i64 (↑(wl l x_2).length : Int)))) ∧ sm (AV.d (D.val (Value.bool (decide ((↑(wl l x_2).length : Int) < (64 : Int)))))) ∧ sm (AV.d (D.ints .u32 [(↑(BitVec.toNat x.a) : Int), (↑(BitVec.toNat x.b) : Int), (↑(BitVec.toNat x.c) : Int), (↑(BitVec.toNat x.d) : Int), (↑(BitVec.toNat x.e) : Int), (↑(BitVec.toNat x.f) : Int), (↑(BitVec.toNat x.g) : Int), (↑(BitVec.toNat x.h) : Int)])) ∧ sm (AV.dat (D.val (.int .u32 (↑(BitVec.toNat x.a) : Int)))) ∧
   sm (AV.d (D.val (.int .u32 (↑(BitVec.toNat x.a) : Int)))) ∧ sm (AV.d (D.ints .u32 [(↑(BitVec.toNat x.a) : Int), (↑(BitVec.toNat x.b) : Int), (↑(BitVec.toNat x.c) : Int), (↑(BitVec.toNat x.d) : Int), (↑(BitVec.toNat x.e) : Int), (↑(BitVec.toNat x.f) : Int), (↑(BitVec.toNat x.g) : Int), (↑(BitVec.toNat x.h) : Int)])) ∧ sm (AV.dat (D.val (.int .u32 (↑(BitVec.toNat x.b) : Int)))) ∧ sm (AV.d (D.val (.int .u32 (↑(BitVec.toNat x.b) : Int)))) ∧ sm (AV.d (D.ints .u32 [(↑(BitVec.toNat x.a) : Int), (↑(BitVec.toNat x.b) : Int), (↑(BitVec.toNat x.c) : Int), (↑(BitVec.toNat x.d) : Int), (↑(BitVec.toNat x.e) : Int), (↑(BitVec.toNat x.f) : Int), (↑(BitVec.toNat x.g) : Int), (↑(BitVec.toNat x.h) : Int)])) ∧ sm (AV.dat (D.val (.int .u32 (↑(BitVec.toNat x.c) : Int)))) ∧ sm (AV.d (D.val (.int .u32 (↑(BitVec.toNat x.c) : Int)))) ∧ sm (AV.d (D.ints .u32 [(↑(BitVec.toNat x.a) : Int), (↑(BitVec.toNat x.b) : Int), (↑(BitVec.toNat x.c) : Int), (↑(BitVec.toNat x.d) : Int), (↑(BitVec.toNat x.e) : Int), (↑(BitVec.toNat x.f) : Int), (↑(BitVec.toNat x.g) : Int), (↑(BitVec.toNat x.h) : Int)])) ∧ sm (AV.dat (D.val (.int .u32 (↑(BitVec.toNat x.d) : Int)))) ∧ sm (AV.d (D.val (.int .u32 (↑(BitVec.toNat x.d) : Int)))) ∧ sm (AV.d (D.ints .u32 [(↑(BitVec.toNat x.a) : Int), (↑(BitVec.toNat x.b) : Int), (↑(BitVec.toNat x.c) : Int), (↑(BitVec.toNat x.d) : Int), (↑(BitVec.toNat x.e) : Int), (↑(BitVec.toNat x.f) : Int), (↑(BitVec.toNat x.g) : Int), (↑(BitVec.toNat x.h) : Int)])) ∧ sm (AV.dat (D.val (.int .u32 (↑(BitVec.toNat x.e) : Int)))) ∧ sm (AV.d (D.val (.int .u32 (↑(BitVec.toNat x.e) : Int)))) ∧ sm (AV.d (D.ints .u32 [(↑(BitVec.toNat x.a) : Int), (↑(BitVec.toNat x.b) : Int), (↑(BitVec.toNat x.c) : Int), (↑(BitVec.toNat x.d) : Int), (↑(BitVec.toNat x.e) : Int), (↑(BitVec.toNat x.f) : Int), (↑(BitVec.toNat x.g) : Int), (↑(BitVec.toNat x.h) : Int)])) ∧ sm (AV.dat (D.val (.int .u32 (↑(BitVec.toNat x.f) : Int)))) ∧ sm (AV.d (D.val (.int .u32 (↑(BitVec.toNat x.f) : Int)))) ∧ sm (AV.d (D.ints .u32 [(↑(BitVec.toNat x.a) : Int), (↑(BitVec.toNat x.b) : Int), (↑(BitVec.toNat x.c) : Int), (↑(BitVec.toNat x.d) : Int), (↑(BitVec.toNat x.e) : Int), (↑(BitVec.toNat x.f) : Int), (↑(BitVec.toNat x.g) : Int), (↑(BitVec.toNat x.h) : Int)])) ∧ sm (AV.dat (D.val (.int .u32 (↑(BitVec.toNat x.g) : Int)))) ∧ sm (AV.d (D.val (.int .u32 (↑(BitVec.toNat x.g) : Int)))) ∧ sm (AV.d (D.ints .u32 [(↑(BitVec.toNat x.a) : Int), (↑(BitVec.toNat x.b) : Int), (↑(BitVec.toNat x.c) : Int), (↑(BitVec.toNat x.d) : Int), (↑(BitVec.toNat x.e) : Int), (↑(BitVec.toNat x.f) : Int), (↑(BitVec.toNat x.g) : Int), (↑(BitVec.toNat x.h) : Int)])) ∧ sm (AV.dat (D.val (.int .u32 (↑(BitVec.toNat x.h) : Int)))) ∧ sm (AV.d (D.val (.int .u32 (↑(BitVec.toNat x.h) : Int)))) ∧ sm (AV.row 24) ∧ sm (AV.d (D.val (.int .i64 (↑(wl l x_2).length : Int)))) ∧ AV.d (D.val (.int .i64 0)) = AV.d (D.val (.int .i64 (↑(Int.toNat (0 : Int)) : Int))) ∧ True) ∧ (sm (some (Blk.row (113 : TypeId) (D.ints .u32 (wl l x_2)))) ∧ True) ∧ true = true) ∧ Int.toNat (0 : Int) ≤ 64) ∧
   ∀ (x_3 : Nat), x_3 ≤ 64 → true = true ∧ True ∧ match decide ((↑x_3 : Int) < (↑(wl l x_2).length : Int)) with
   | true => True ∧ ((0 : Int) ≤ (↑x_3 : Int) ∧ (↑x_3 : Int) < (↑(wl l x_2).length : Int) ∧ 1 = 1) ∧ ((↑x_3 : Int).toNat < (wl l x_2).length ∧ 1 = 1 ∧ false = false) ∧ True ∧ True ∧ True ∧ True ∧ (∃ (x_4 : W), ∃ (n : Nat), [D.val (.int .u32 (↑(BitVec.toNat (rd x l x_3).e) : Int)), D.val (.int .u64 6)] = [D.val (.int .u32 (↑(BitVec.toNat x_4) : Int)), D.val (.int .u64 (↑n : Int))] ∧ 1 ≤ n ∧ n ≤ 31) ∧ True ∧ (∃ (x_4 : W), ∃ (n : Nat), [D.val (.int .u32 (↑(BitVec.toNat (rd x l x_3).e) : Int)), D.val (.int .u64 11)] = [D.val (.int .u32 (↑(BitVec.toNat x_4) : Int)), D.val (.int .u64 (↑n : Int))] ∧ 1 ≤ n ∧ n ≤ 31) ∧ True ∧ True ∧ (∃ (x_4 : W), ∃ (n : Nat), [D.val (.int .u32 (↑(BitVec.toNat (rd x l x_3).e) : Int)), D.val (.int .u64 25)] = [D.val (.int .u32 (↑(BitVec.toNat x_4) : Int)), D.val (.int .u64 (↑n : Int))] ∧ 1 ≤ n ∧ n ≤ 31) ∧ True ∧ True ∧ True ∧ True ∧ True ∧ (∃ (x_4 : W), ∃ (y : W), ∃ (z : W), [D.val (.int .u32 (↑(BitVec.toNat (rd x l x_3).e) : Int)), D.val (.int .u32 (↑(BitVec.toNat (rd x l x_3).f) : Int)), D.val (.int .u32 (↑(BitVec.toNat (rd x l x_3).g) : Int))] = [D.val (.int .u32 (↑(BitVec.toNat x_4) : Int)), D.val (.int .u32 (↑(BitVec.toNat y) : Int)), D.val (.int .u32 (↑(BitVec.toNat z) : Int))]) ∧ True ∧ True ∧ ((0 : Int) ≤ (↑x_3 : Int) ∧ (↑x_3 : Int) < (↑(64 : Nat) : Int) ∧ 64 = 64 ∧ 1 = 1) ∧ (1 ≠ 0 ∧ 1 = 1 ∧ false = false) ∧ True ∧ True ∧ True ∧ True ∧ True ∧ (∃ (x_4 : W), ∃ (n : Nat), [D.val (.int .u32 (↑(BitVec.toNat (rd x l x_3).a) : Int)), D.val (.int .u64 2)] = [D.val (.int .u32 (↑(BitVec.toNat x_4) : Int)), D.val (.int .u64 (↑n : Int))] ∧ 1 ≤ n ∧ n ≤ 31) ∧ True ∧ (∃ (x_4 : W), ∃ (n : Nat), [D.val (.int .u32 (↑(BitVec.toNat (rd x l x_3).a) : Int)), D.val (.int .u64 13)] = [D.val (.int .u32 (↑(BitVec.toNat x_4) : Int)), D.val (.int .u64 (↑n : Int))] ∧ 1 ≤ n ∧ n ≤ 31) ∧ True ∧ True ∧ (∃ (x_4 : W), ∃ (n : Nat), [D.val (.int .u32 (↑(BitVec.toNat (rd x l x_3).a) : Int)), D.val (.int .u64 22)] = [D.val (.int .u32 (↑(BitVec.toNat x_4) : Int)), D.val (.int .u64 (↑n : Int))] ∧ 1 ≤ n ∧ n ≤ 31) ∧ True ∧ True ∧ True ∧ True ∧ (∃ (x_4 : W), ∃ (y : W), ∃ (z : W), [D.val (.int .u32 (↑(BitVec.toNat (rd x l x_3).a) : Int)), D.val (.int .u32 (↑(BitVec.toNat (rd x l x_3).b) : Int)), D.val (.int .u32 (↑(BitVec.toNat (rd x l x_3).c) : Int))] = [D.val (.int .u32 (↑(BitVec.toNat x_4) : Int)), D.val (.int .u32 (↑(BitVec.toNat y) : Int)), D.val (.int .u32 (↑(BitVec.toNat z) : Int))]) ∧ True ∧ True ∧ True ∧ True ∧ True ∧ True ∧ True ∧ True ∧ True ∧ True ∧ True ∧ True ∧ True ∧ True ∧ True ∧ True ∧ True ∧ True ∧ True ∧ True ∧ True ∧ True ∧ True ∧ True ∧ ((sm (AV.d (D.ints .u32 [(↑(BitVec.toNat x.a) : Int), (↑(BitVec.toNat x.b) : Int), (↑(BitVec.toNat x.c) : Int), (↑(BitVec.toNat x.d) : Int), (↑(BitVec.toNat x.e) : Int), (↑(BitVec.toNat x.f) : Int), (↑(BitVec.toNat x.g) : Int), (↑(BitVec.toNat x.h) : Int)])) ∧ sm (AV.d (D.str l)) ∧ sm (AV.d (D.val (Value.slice none 0 0))) ∧ sm (AV.row 24) ∧ sm (AV.d (D.val (.int .i64 (↑(4 * x_1) : Int)))) ∧ AV.d (D.val (Value.int IntKind.u32
    (IntKind.u32.wrap (IntKind.u32.wrap (IntKind.u32.wrap (IntKind.u32.wrap (IntKind.u32.wrap ((↑(BitVec.toNat (rd x l x_3).h) : Int) + ixor IntKind.u32 (ixor IntKind.u32 (↑(BitVec.toNat (rr (toW (D.val (.int .u32 (↑(BitVec.toNat (rd x l x_3).e) : Int)))) 6)) : Int) (↑(BitVec.toNat (rr (toW (D.val (.int .u32 (↑(BitVec.toNat (rd x l x_3).e) : Int)))) 11)) : Int)) (↑(BitVec.toNat (rr (toW (D.val (.int .u32 (↑(BitVec.toNat (rd x l x_3).e) : Int)))) 25)) : Int)) + (↑(BitVec.toNat (chW (toW (D.val (.int .u32 (↑(BitVec.toNat (rd x l x_3).e) : Int)))) (toW (D.val (.int .u32 (↑(BitVec.toNat (rd x l x_3).f) : Int)))) (toW (D.val (.int .u32 (↑(BitVec.toNat (rd x l x_3).g) : Int)))))) : Int)) + gl1.getD (↑x_3 : Int).toNat (0 : Int)) + (wl l x_2).getD (↑x_3 : Int).toNat (0 : Int)) + IntKind.u32.wrap (ixor IntKind.u32 (ixor IntKind.u32 (↑(BitVec.toNat (rr (toW (D.val (.int .u32 (↑(BitVec.toNat (rd x l x_3).a) : Int)))) 2)) : Int) (↑(BitVec.toNat (rr (toW (D.val (.int .u32 (↑(BitVec.toNat (rd x l x_3).a) : Int)))) 13)) : Int)) (↑(BitVec.toNat (rr (toW (D.val (.int .u32 (↑(BitVec.toNat (rd x l x_3).a) : Int)))) 22)) : Int) + (↑(BitVec.toNat (mjW (toW (D.val (.int .u32 (↑(BitVec.toNat (rd x l x_3).a) : Int)))) (toW (D.val (.int .u32 (↑(BitVec.toNat (rd x l x_3).b) : Int)))) (toW (D.val (.int .u32 (↑(BitVec.toNat (rd x l x_3).c) : Int)))))) : Int)))))) = AV.d (D.val (.int .u32 (↑(BitVec.toNat (rd x l (IntKind.i64.wrap ((↑x_3 : Int) + (1 : Int))).toNat).a) : Int))) ∧ AV.d (D.val (.int .u32 (↑(BitVec.toNat (rd x l x_3).a) : Int))) = AV.d (D.val (.int .u32 (↑(BitVec.toNat (rd x l (IntKind.i64.wrap ((↑x_3 : Int) + (1 : Int))).toNat).b) : Int))) ∧ AV.d (D.val (.int .u32 (↑(BitVec.toNat (rd x l x_3).b) : Int))) = AV.d (D.val (.int .u32 (↑(BitVec.toNat (rd x l (IntKind.i64.wrap ((↑x_3 : Int) + (1 : Int))).toNat).c) : Int))) ∧ AV.d (D.val (.int .u32 (↑(BitVec.toNat (rd x l x_3).c) : Int))) = AV.d (D.val (.int .u32 (↑(BitVec.toNat (rd x l (IntKind.i64.wrap ((↑x_3 : Int) + (1 : Int))).toNat).d) : Int))) ∧ AV.d (D.val (Value.int IntKind.u32 (IntKind.u32.wrap ((↑(BitVec.toNat (rd x l x_3).d) : Int) + IntKind.u32.wrap (IntKind.u32.wrap (IntKind.u32.wrap (IntKind.u32.wrap ((↑(BitVec.toNat (rd x l x_3).h) : Int) + ixor IntKind.u32 (ixor IntKind.u32 (↑(BitVec.toNat (rr (toW (D.val (.int .u32 (↑(BitVec.toNat (rd x l x_3).e) : Int)))) 6)) : Int) (↑(BitVec.toNat (rr (toW (D.val (.int .u32 (↑(BitVec.toNat (rd x l x_3).e) : Int)))) 11)) : Int)) (↑(BitVec.toNat (rr (toW (D.val (.int .u32 (↑(BitVec.toNat (rd x l x_3).e) : Int)))) 25)) : Int)) + (↑(BitVec.toNat (chW (toW (D.val (.int .u32 (↑(BitVec.toNat (rd x l x_3).e) : Int)))) (toW (D.val (.int .u32 (↑(BitVec.toNat (rd x l x_3).f) : Int)))) (toW (D.val (.int .u32 (↑(BitVec.toNat (rd x l x_3).g) : Int)))))) : Int)) + gl1.getD (↑x_3 : Int).toNat (0 : Int)) + (wl l x_2).getD (↑x_3 : Int).toNat (0 : Int)))))) = AV.d (D.val (.int .u32 (↑(BitVec.toNat (rd x l (IntKind.i64.wrap ((↑x_3 : Int) + (1 : Int))).toNat).e) : Int))) ∧ AV.d (D.val (.int .u32 (↑(BitVec.toNat (rd x l x_3).e) : Int))) =
    AV.d (D.val (.int .u32 (↑(BitVec.toNat (rd x l (IntKind.i64.wrap ((↑x_3 : Int) + (1 : Int))).toNat).f) : Int))) ∧ AV.d (D.val (.int .u32 (↑(BitVec.toNat (rd x l x_3).f) : Int))) = AV.d (D.val (.int .u32 (↑(BitVec.toNat (rd x l (IntKind.i64.wrap ((↑x_3 : Int) + (1 : Int))).toNat).g) : Int))) ∧ AV.d (D.val (.int .u32 (↑(BitVec.toNat (rd x l x_3).g) : Int))) = AV.d (D.val (Value.int IntKind.u32 (↑(BitVec.toNat (rd x l (IntKind.i64.wrap ((↑x_3 : Int) + (1 : Int))).toNat).h) : Int))) ∧ sm (AV.d (D.val (.int .i64 (↑(4 * x_1) : Int)))) ∧ sm (AV.d (D.val (Value.bool (decide ((↑(4 * x_1) : Int) < (64 : Int)))))) ∧ sm (AV.row 24) ∧ sm (AV.d (D.val (.int .i64 (↑(wl l x_2).length : Int)))) ∧ sm (AV.d (D.val (Value.bool (decide ((↑(wl l x_2).length : Int) < (64 : Int)))))) ∧ sm (AV.d (D.ints .u32 [(↑(BitVec.toNat x.a) : Int), (↑(BitVec.toNat x.b) : Int), (↑(BitVec.toNat x.c) : Int), (↑(BitVec.toNat x.d) : Int), (↑(BitVec.toNat x.e) : Int), (↑(BitVec.toNat x.f) : Int), (↑(BitVec.toNat x.g) : Int), (↑(BitVec.toNat x.h) : Int)])) ∧ sm (AV.dat (D.val (.int .u32 (↑(BitVec.toNat x.a) : Int)))) ∧ sm (AV.d (D.val (.int .u32 (↑(BitVec.toNat x.a) : Int)))) ∧ sm (AV.d (D.ints .u32 [(↑(BitVec.toNat x.a) : Int), (↑(BitVec.toNat x.b) : Int), (↑(BitVec.toNat x.c) : Int), (↑(BitVec.toNat x.d) : Int), (↑(BitVec.toNat x.e) : Int), (↑(BitVec.toNat x.f) : Int), (↑(BitVec.toNat x.g) : Int), (↑(BitVec.toNat x.h) : Int)])) ∧ sm (AV.dat (D.val (.int .u32 (↑(BitVec.toNat x.b) : Int)))) ∧ sm (AV.d (D.val (.int .u32 (↑(BitVec.toNat x.b) : Int)))) ∧ sm (AV.d (D.ints .u32 [(↑(BitVec.toNat x.a) : Int), (↑(BitVec.toNat x.b) : Int), (↑(BitVec.toNat x.c) : Int), (↑(BitVec.toNat x.d) : Int), (↑(BitVec.toNat x.e) : Int), (↑(BitVec.toNat x.f) : Int), (↑(BitVec.toNat x.g) : Int), (↑(BitVec.toNat x.h) : Int)])) ∧ sm (AV.dat (D.val (.int .u32 (↑(BitVec.toNat x.c) : Int)))) ∧ sm (AV.d (D.val (.int .u32 (↑(BitVec.toNat x.c) : Int)))) ∧ sm (AV.d (D.ints .u32 [(↑(BitVec.toNat x.a) : Int), (↑(BitVec.toNat x.b) : Int), (↑(BitVec.toNat x.c) : Int), (↑(BitVec.toNat x.d) : Int), (↑(BitVec.toNat x.e) : Int), (↑(BitVec.toNat x.f) : Int), (↑(BitVec.toNat x.g) : Int), (↑(BitVec.toNat x.h) : Int)])) ∧ sm (AV.dat (D.val (.int .u32 (↑(BitVec.toNat x.d) : Int)))) ∧ sm (AV.d (D.val (.int .u32 (↑(BitVec.toNat x.d) : Int)))) ∧ sm (AV.d (D.ints .u32 [(↑(BitVec.toNat x.a) : Int), (↑(BitVec.toNat x.b) : Int), (↑(BitVec.toNat x.c) : Int), (↑(BitVec.toNat x.d) : Int), (↑(BitVec.toNat x.e) : Int), (↑(BitVec.toNat x.f) : Int), (↑(BitVec.toNat x.g) : Int), (↑(BitVec.toNat x.h) : Int)])) ∧ sm (AV.dat (D.val (.int .u32 (↑(BitVec.toNat x.e) : Int)))) ∧ sm (AV.d (D.val (.int .u32 (↑(BitVec.toNat x.e) : Int)))) ∧ sm (AV.d (D.ints .u32 [(↑(BitVec.toNat x.a) : Int), (↑(BitVec.toNat x.b) : Int), (↑(BitVec.toNat x.c) : Int), (↑(BitVec.toNat x.d) : Int), (↑(BitVec.toNat x.e) : Int), (↑(BitVec.toNat x.f) : Int), (↑(BitVec.toNat x.g) : Int), (↑(BitVec.toNat x.h) : Int)])) ∧ sm (AV.dat (D.val (.int .u32 (↑(BitVec.toNat x.f) : Int)))) ∧
    sm (AV.d (D.val (.int .u32 (↑(BitVec.toNat x.f) : Int)))) ∧ sm (AV.d (D.ints .u32 [(↑(BitVec.toNat x.a) : Int), (↑(BitVec.toNat x.b) : Int), (↑(BitVec.toNat x.c) : Int), (↑(BitVec.toNat x.d) : Int), (↑(BitVec.toNat x.e) : Int), (↑(BitVec.toNat x.f) : Int), (↑(BitVec.toNat x.g) : Int), (↑(BitVec.toNat x.h) : Int)])) ∧ sm (AV.dat (D.val (.int .u32 (↑(BitVec.toNat x.g) : Int)))) ∧ sm (AV.d (D.val (.int .u32 (↑(BitVec.toNat x.g) : Int)))) ∧ sm (AV.d (D.ints .u32 [(↑(BitVec.toNat x.a) : Int), (↑(BitVec.toNat x.b) : Int), (↑(BitVec.toNat x.c) : Int), (↑(BitVec.toNat x.d) : Int), (↑(BitVec.toNat x.e) : Int), (↑(BitVec.toNat x.f) : Int), (↑(BitVec.toNat x.g) : Int), (↑(BitVec.toNat x.h) : Int)])) ∧ sm (AV.dat (D.val (.int .u32 (↑(BitVec.toNat x.h) : Int)))) ∧ sm (AV.d (D.val (Value.int IntKind.u32 (↑(BitVec.toNat x.h) : Int)))) ∧ sm (AV.row 24) ∧ sm (AV.d (D.val (Value.int IntKind.i64 (↑(wl l x_2).length : Int)))) ∧ AV.d (D.val (Value.int IntKind.i64 (IntKind.i64.wrap ((↑x_3 : Int) + (1 : Int))))) = AV.d (D.val (Value.int IntKind.i64 (↑(IntKind.i64.wrap ((↑x_3 : Int) + (1 : Int))).toNat : Int))) ∧ True) ∧ (sm (some (Blk.row (113 : TypeId) (D.ints .u32 (wl l x_2)))) ∧ True) ∧ true = true) ∧ (IntKind.i64.wrap ((↑x_3 : Int) + (1 : Int))).toNat ≤ 64 ∧ 64 - (IntKind.i64.wrap ((↑x_3 : Int) + (1 : Int))).toNat < 64 - x_3
   | false => True ∧ ((0 : Int) ≤ 0 ∧ (0 : Int) < (↑(8 : Nat) : Int) ∧ 1 = 1) ∧ (1 ≠ 0 ∧ 1 = 1 ∧ false = false) ∧ True ∧ True ∧ True ∧ ((0 : Int) ≤ 1 ∧ (1 : Int) < (↑(8 : Nat) : Int) ∧ 1 = 1) ∧ (1 ≠ 0 ∧ 1 = 1 ∧ false = false) ∧ True ∧ True ∧ True ∧ ((0 : Int) ≤ 2 ∧ (2 : Int) < (↑(8 : Nat) : Int) ∧ 1 = 1) ∧ (1 ≠ 0 ∧ 1 = 1 ∧ false = false) ∧ True ∧ True ∧ True ∧ ((0 : Int) ≤ 3 ∧ (3 : Int) < (↑(8 : Nat) : Int) ∧ 1 = 1) ∧ (1 ≠ 0 ∧ 1 = 1 ∧ false = false) ∧ True ∧ True ∧ True ∧ ((0 : Int) ≤ 4 ∧ (4 : Int) < (↑(8 : Nat) : Int) ∧ 1 = 1) ∧ (1 ≠ 0 ∧ 1 = 1 ∧ false = false) ∧ True ∧ True ∧ True ∧ ((0 : Int) ≤ 5 ∧ (5 : Int) < (↑(8 : Nat) : Int) ∧ 1 = 1) ∧ (1 ≠ 0 ∧ 1 = 1 ∧ false = false) ∧ True ∧ True ∧ True ∧ ((0 : Int) ≤ 6 ∧ (6 : Int) < (↑(8 : Nat) : Int) ∧ 1 = 1) ∧ (1 ≠ 0 ∧ 1 = 1 ∧ false = false) ∧ True ∧ True ∧ True ∧ ((0 : Int) ≤ 7 ∧ (7 : Int) < (↑(8 : Nat) : Int) ∧ 1 = 1) ∧ (1 ≠ 0 ∧ 1 = 1 ∧ false = false) ∧ True ∧ True ∧ (1 = 1 ∧ 8 ≤ 4096) ∧ True ∧ (false = false ∧ True) ∧ D.ints .u32 [IntKind.u32.wrap ((↑(BitVec.toNat x.a) : Int) + (↑(BitVec.toNat (rd x l x_3).a) : Int)), IntKind.u32.wrap ((↑(BitVec.toNat x.b) : Int) + (↑(BitVec.toNat (rd x l x_3).b) : Int)), IntKind.u32.wrap ((↑(BitVec.toNat x.c) : Int) + (↑(BitVec.toNat (rd x l x_3).c) : Int)), IntKind.u32.wrap ((↑(BitVec.toNat x.d) : Int) + (↑(BitVec.toNat (rd x l x_3).d) : Int)), IntKind.u32.wrap ((↑(BitVec.toNat x.e) : Int) + (↑(BitVec.toNat (rd x l x_3).e) : Int)), IntKind.u32.wrap ((↑(BitVec.toNat x.f) : Int) + (↑(BitVec.toNat (rd x l x_3).f) : Int)), IntKind.u32.wrap ((↑(BitVec.toNat x.g) : Int) + (↑(BitVec.toNat (rd x l x_3).g) : Int)), IntKind.u32.wrap ((↑(BitVec.toNat x.h) : Int) + (↑(BitVec.toNat (rd x l x_3).h) : Int))] = F) := by kernel_rfl
end Go.Proofs.YtkicjckhkefnpaaDoor
namespace Go.Proofs.YtkicjckhkefnpaaDoor
open Go Go.Vg
theorem mulW (x : W) : IntKind.u32.wrap ((x.toNat : Int) * 256) = ((x * 256).toNat : Int) := by
 rw [w32, BitVec.toNat_mul]
 have : (256 : W).toNat = 256 := rfl
 rw [this]
 omega
theorem bytW {l : List Int} (h : isBytes l) {i : Nat} (hi : i < l.length) : IntKind.u32.wrap (l.getD i 0) = ((BitVec.ofNat 32 (l.getD i 0).toNat).toNat : Int) := by
 obtain ⟨b, e, hb⟩ := byte_at h hi
 rw [e, Int.toNat_natCast, wN32, BitVec.toNat_ofNat]
theorem pw_wat {l : List Int} (h : isBytes l) {i : Nat} (hi : i + 3 < l.length) : pw l i 4 = wat l i := by
 obtain ⟨a, ea, ha⟩ := byte_at h (i := i) (by omega)
 obtain ⟨b, eb, hb⟩ := byte_at h (i := i + 1) (by omega)
 obtain ⟨c, ec, hc⟩ := byte_at h (i := i + 2) (by omega)
 obtain ⟨d, ed, hd⟩ := byte_at h (i := i + 3) (by omega)
 unfold wat
 simp only [pw, Nat.add_zero]
 rw [ea, eb, ec, ed]
 unfold w4
 simp only [Int.toNat_natCast]
 apply BitVec.eq_of_toNat_eq
 have h256 : (256 : W).toNat = 256 := rfl
 simp only [BitVec.toNat_add, BitVec.toNat_mul, BitVec.toNat_ofNat, h256]
 simp only [show (2 : Nat) ^ 32 = 4294967296 from rfl]
 omega
theorem quoW (x : W) (k : Nat) (hk : k ≤ 32) : IntKind.u32.wrap (((x.toNat : Nat) : Int).tdiv ((2 ^ k : Nat) : Int)) = ((x >>> k).toNat : Int) := by
 have hx := x.isLt
 have : x.toNat / 2 ^ k < 4294967296 := Nat.lt_of_le_of_lt (Nat.div_le_self _ _) hx
 rw [tdivN, wrapN .u32 (show _ < 4294967296 from this), BitVec.toNat_ushiftRight, Nat.shiftRight_eq_div_pow]
theorem quo8 (x : W) : IntKind.u32.wrap (((x.toNat : Nat) : Int).tdiv 8) = ((x >>> 3).toNat : Int) := quoW x 3 (by decide)
theorem quo1024 (x : W) : IntKind.u32.wrap (((x.toNat : Nat) : Int).tdiv 1024) = ((x >>> 10).toNat : Int) := quoW x 10 (by decide)
theorem sched (a b c d : W) : ((a + b) + c) + d = ((a + c) + b) + d := by
 rw [BitVec.add_assoc a b c, BitVec.add_comm b c, ← BitVec.add_assoc]
theorem wl_get' (l : List Int) {n j : Nat} (h : j < n) : (wl l n).getD j 0 = ((wn l j).toNat : Int) := by
 have := wl_get l h []
 rwa [List.append_nil] at this
set_option maxRecDepth 100000 in
theorem m128 : Meets Tryd.prog 128 sp128 := by
 refine meets_of_owed (C := c128) ⟨tab_ok, lkS_ok ⟨m133, m134, m135, trivial⟩⟩ (by kernel_rfl) (by kernel_rfl : Tryd.prog.funcs[128]? = some Tryd.f128) (by kernel_rfl) (by kernel_rfl) (by kernel_rfl) _ ?_
 rintro _ ⟨x, l, rfl, hb, hl⟩
 refine ⟨(fun h => by cases h), inv128 x l, ?_⟩
 show owed c128 (inv128 x l) Tryd.f128 [.ints .u32 x.l, .str l] (.ints .u32 (prL x.l l))
 unfold prL
 rw [vc128, ofR_l]
 have hw0 : wl l (0 / 4) = [] := rfl
 have hp0 : ∀ i, pw l i 0 = 0 := fun _ => rfl
 have hz : ((BitVec.toNat (0 : W) : Nat) : Int) = 0 := rfl
 have hr0 : rd x l 0 = x := rfl
 simp (decide := true) only [eq_self, true_and, and_true, ne_eq, not_false_eq_true, Int.toNat_natCast, hw0, hp0, hz, Int.toNat_zero, hr0]
 refine ⟨by and_intros <;> first | rfl | omega | decide | trivial, fun i hi => ?_⟩
 split
 ·rename_i h
  have h : i < 16 := by have := of_decide_eq_true h; omega
  refine ⟨by and_intros <;> first | rfl | omega | decide | trivial, ?_⟩
  rintro ⟨k, at_⟩ ⟨hk, hat⟩
  simp only at hk hat ⊢
  obtain rfl : at_ = 4 * i := by omega
  split
  ·rename_i h2
   have h2 : k < 4 := by have := of_decide_eq_true h2; omega
   have e1 : IntKind.i64.wrap (((4 * i : Nat) : Int) + (k : Int)) = ((4 * i + k : Nat) : Int) := by rw [wi (by omega) (by omega)]; omega
   have e2 : IntKind.i64.wrap ((k : Int) + 1) = ((k + 1 : Nat) : Int) := by rw [wi (by omega) (by omega)]; omega
   simp only [e1, e2, Int.toNat_natCast, mulW, bytW hb (i := 4 * i + k) (by omega), addW]
   and_intros <;> first | rfl | omega | trivial
  ·rename_i h2
   obtain rfl : k = 4 := by have := of_decide_eq_false h2; omega
   have e4 : IntKind.i64.wrap (((4 * i : Nat) : Int) + 4) = ((4 * i + 4 : Nat) : Int) := by rw [wi (by omega) (by omega)]; omega
   rw [e4, Int.toNat_natCast, show (4 * i + 4) / 4 = i + 1 by omega, pw_wat hb (by omega), ← wn_lo l h, ← wl_succ, wl_len]
   and_intros <;> first | rfl | omega | trivial
 ·rename_i h
  obtain rfl : i = 16 := by have := of_decide_eq_false h; omega
  simp only [wl_len]
  refine ⟨by and_intros <;> first | rfl | omega | decide | trivial, ?_⟩
  rintro n ⟨hn, hn2⟩
  split
  ·rename_i h
   have h : n < 64 := by have := of_decide_eq_true h; omega
   have e15 : IntKind.i64.wrap ((n : Int) - 15) = ((n - 15 : Nat) : Int) := by rw [wi (by omega) (by omega)]; omega
   have e16 : IntKind.i64.wrap ((n : Int) - 16) = ((n - 16 : Nat) : Int) := by rw [wi (by omega) (by omega)]; omega
   have e7 : IntKind.i64.wrap ((n : Int) - 7) = ((n - 7 : Nat) : Int) := by rw [wi (by omega) (by omega)]; omega
   have e2 : IntKind.i64.wrap ((n : Int) - 2) = ((n - 2 : Nat) : Int) := by rw [wi (by omega) (by omega)]; omega
   have g15 := wl_get' l (n := n) (j := n - 15) (by omega)
   have g16 := wl_get' l (n := n) (j := n - 16) (by omega)
   have g7 := wl_get' l (n := n) (j := n - 7) (by omega)
   have g2 := wl_get' l (n := n) (j := n - 2) (by omega)
   have hs : wn l (n - 16) + wn l (n - 7) + sA (wn l (n - 15)) + sB (wn l (n - 2)) = wn l n := by rw [sched, ← wn_hi l hn]
   simp only [e15, e16, e7, e2, Int.toNat_natCast, g15, g16, g7, g2, toW_wd, xorW, quo8, quo1024, addW, fA, fB, hs, ← wl_succ, wl_len]
   and_intros <;> first | exact trivial | rfl | omega | exact ⟨_, 7, rfl, by decide, by decide⟩ | exact ⟨_, 18, rfl, by decide, by decide⟩ | exact ⟨_, 17, rfl, by decide, by decide⟩ | exact ⟨_, 19, rfl, by decide, by decide⟩
  ·rename_i h
   obtain rfl : n = 64 := by have := of_decide_eq_false h; omega
   refine ⟨by and_intros <;> first | rfl | omega | decide | trivial, fun t ht => ?_⟩
   split
   ·rename_i h
    have h : t < 64 := by have := of_decide_eq_true h; omega
    have ew : IntKind.i64.wrap ((t : Int) + 1) = ((t + 1 : Nat) : Int) := by rw [wi (by omega) (by omega)]; omega
    have gt := wl_get' l (n := 64) (j := t) h
    simp only [ew, Int.toNat_natCast, gt, gl_ok.2.2, kW_eq h, toW_wd, xorW, addW, fC, fD, rd_succ]
    and_intros <;> first | exact trivial | rfl | omega | exact ⟨_, 6, rfl, by decide, by decide⟩ | exact ⟨_, 11, rfl, by decide, by decide⟩ | exact ⟨_, 25, rfl, by decide, by decide⟩ | exact ⟨_, 2, rfl, by decide, by decide⟩ | exact ⟨_, 13, rfl, by decide, by decide⟩ | exact ⟨_, 22, rfl, by decide, by decide⟩ | exact ⟨_, _, _, rfl⟩
   ·rename_i h
    obtain rfl : t = 64 := by have := of_decide_eq_false h; omega
    simp only [addW]
    and_intros <;> first | exact trivial | rfl | omega
end Go.Proofs.YtkicjckhkefnpaaDoor
namespace Go.Proofs.YtkicjckhkefnpaaDoor
open Go Go.Vg
structure HS where
 h : R8
 n : Nat
 l : List Int
abbrev stD (s : HS) : D := .st [a8 s.h.l, .val (.int .u64 (s.n : Int)), .arr .u8 64 s.l]
def stp (s : HS) (b : Int) : HS :=
 let l' := s.l.set (s.n % 64) b
 let n' := (s.n + 1) % 18446744073709551616
 if n' % 64 = 0 then ⟨pr s.h l', n', l'⟩ else ⟨s.h, n', l'⟩
def wrS (s : HS) (p : List Int) : HS := p.foldl stp s
def ofS (d : D) : HS := ⟨ofR (arrOf (fldOf d 0)), (numOf (fldOf d 1)).toNat, arrOf (fldOf d 2)⟩
def okS (s : HS) : Prop := s.l.length = 64 ∧ isBytes s.l ∧ s.n < 18446744073709551616
def sp76 : Go.Vg.Spec := ⟨fun ds => ∃ s p, ds = [stD s, .ints .u8 p] ∧ okS s ∧ isBytes p ∧ p.length ≤ 1000000000000000, fun ds => stD (wrS (ofS (ds.headD default)) (intsOf (ds.getD 1 default))), true, [117, 26]⟩
def zc (n : Nat) : Nat := (119 - n % 64) % 64
def tl (b : Nat) : Nat → List Int
 | 0 => []
 | k + 1 => ((b / 256 ^ k % 256 : Nat) : Int) :: tl b k
def padL (n : Nat) : List Int := 128 :: (List.replicate (zc n) 0 ++ tl (8 * n % 18446744073709551616) 8)
def sp118 : Go.Vg.Spec := ⟨fun ds => ∃ n, ds = [.val (.int .u64 ((n : Nat) : Int))] ∧ n < 18446744073709551616, fun ds => .ints .u8 (padL (numOf (ds.headD default)).toNat), false, [73]⟩
def sp127 : Go.Vg.Spec := ⟨fun ds => ∃ n, ds = [.val (.int .u64 ((n : Nat) : Int))] ∧ n < 18446744073709551616, fun ds => .str (padL (numOf (ds.headD default)).toNat), true, [73]⟩
def c76 : Ctx := ⟨tab, lkS [(117, sp117)], [], []⟩
def c118 : Ctx := ⟨tab, fun _ => none, [5], []⟩
def inv76 (s : HS) (p : List Int) : Nat → Option Inv
 | 2 => some ⟨Nat, fun i => [(9, .d (i64 i))], fun i => [(2, .fix (stD (wrS s (p.take i))))], fun s => (slotN s 9).toNat, fun _ i => i ≤ p.length, fun i => p.length - i⟩
 | _ => none
def pz (n i : Nat) : List Int := 128 :: List.replicate i 0
def pt (n i : Nat) : List Int := 128 :: (List.replicate (zc n) 0 ++ (tl (8 * n % 18446744073709551616) 8).take i)
def inv118 (n : Nat) : Nat → Option Inv
 | 2 => some ⟨Nat, fun _ => [(3, .row 5), (5, .any)], fun i => [(5, .row 5 (.ints .u8 (pz n i)))], fun s => (rowD s 5).length - 1, fun _ i => i ≤ zc n, fun i => zc n - i⟩
 | 5 => some ⟨Nat, fun i => [(16, .d (i64 i)), (3, .row 5), (7, .any)], fun i => [(5, .row 5 (.ints .u8 (pt n i)))], fun s => (slotN s 16).toNat, fun _ i => i ≤ 8, fun i => 8 - i⟩
 | _ => none
def inv127 (n : Nat) : Nat → Option Inv
 | 3 => some ⟨Nat, fun i => [(3, .d (.str (pz n i)))], fun _ => [], fun s => (strOf (slotD s 3)).length - 1, fun _ i => i ≤ zc n, fun i => zc n - i⟩
 | 8 => some ⟨Nat, fun i => [(21, .d (i64 i)), (5, .d (.val (.int .u64 ((8 * n % 18446744073709551616 / 256 ^ i : Nat) : Int)))), (6, .d (.str (tl (8 * n % 18446744073709551616) i)))], fun _ => [], fun s => (slotN s 21).toNat, fun _ i => i ≤ 8, fun i => 8 - i⟩
 | _ => none
set_option maxRecDepth 100000 in
theorem vc76  (s : HS) (p : List Int) (F : D)  :
    (owed c76 (inv76 s p) Tryd.f76 [stD s, .ints .u8 p] F) = (
 (True ∧ false = false) ∧ (True ∧ 73 ≠ 0) ∧ True ∧ True ∧ True ∧ (((AV.d (D.val (.int .i64 0)) = AV.d (D.val (.int .i64 (↑(Int.toNat (0 : Int)) : Int))) ∧ True) ∧ (some (Blk.fix (D.st [D.arr .u32 8 [(↑(BitVec.toNat s.h.a) : Int), (↑(BitVec.toNat s.h.b) : Int), (↑(BitVec.toNat s.h.c) : Int), (↑(BitVec.toNat s.h.d) : Int), (↑(BitVec.toNat s.h.e) : Int), (↑(BitVec.toNat s.h.f) : Int), (↑(BitVec.toNat s.h.g) : Int), (↑(BitVec.toNat s.h.h) : Int)], D.val (.int .u64 (↑s.n : Int)), D.arr .u8 64 s.l])) = some (Blk.fix (D.st [D.arr .u32 8 [(↑(BitVec.toNat (wrS s (List.take (Int.toNat (0 : Int)) p)).h.a) : Int), (↑(BitVec.toNat (wrS s (List.take (Int.toNat (0 : Int)) p)).h.b) : Int), (↑(BitVec.toNat (wrS s (List.take (Int.toNat (0 : Int)) p)).h.c) : Int), (↑(BitVec.toNat (wrS s (List.take (Int.toNat (0 : Int)) p)).h.d) : Int), (↑(BitVec.toNat (wrS s (List.take (Int.toNat (0 : Int)) p)).h.e) : Int), (↑(BitVec.toNat (wrS s (List.take (Int.toNat (0 : Int)) p)).h.f) : Int), (↑(BitVec.toNat (wrS s (List.take (Int.toNat (0 : Int)) p)).h.g) : Int), (↑(BitVec.toNat (wrS s (List.take (Int.toNat (0 : Int)) p)).h.h) : Int)], D.val (.int .u64 (↑(wrS s (List.take (Int.toNat (0 : Int)) p)).n : Int)), D.arr .u8 64 (wrS s (List.take (Int.toNat (0 : Int)) p)).l])) ∧ sm (some (Blk.fix (D.st [D.arr .u32 8 [(0 : Int), (0 : Int), (0 : Int), (0 : Int), (0 : Int), (0 : Int), (0 : Int), (0 : Int)], D.val (.int .u64 0), D.arr .u8 64 (List.replicate 64 (0 : Int))]))) ∧ True) ∧ true = true) ∧ Int.toNat (0 : Int) ≤ p.length) ∧ ∀ (x : Nat), x ≤ p.length → true = true ∧ True ∧ match decide ((↑x : Int) < (↑p.length : Int)) with
 | true => ((0 : Int) ≤ (↑x : Int) ∧ (↑x : Int) < (↑p.length : Int) ∧ 1 = 1) ∧ (1 ≠ 0 ∧ 1 = 1 ∧ false = false) ∧ True ∧ (Sk.st [Sk.arr 8, Sk.one, Sk.arr 64] = Sk.st [Sk.arr 8, Sk.one, Sk.arr 64] ∧ 1 < 3) ∧ (1 ≠ 0 ∧ 1 = 1 ∧ false = false) ∧ (64 : Int) ≠ 0 ∧ True ∧ (Sk.st [Sk.arr 8, Sk.one, Sk.arr 64] = Sk.st [Sk.arr 8, Sk.one, Sk.arr 64] ∧ 2 < 3) ∧ ((0 : Int) ≤ (↑(wrS s (List.take x p)).n : Int).tmod (64 : Int) ∧ (↑(wrS s (List.take x p)).n : Int).tmod (64 : Int) < (↑(64 : Nat) : Int) ∧ 64 = 64 ∧ 1 = 1) ∧ ((2 < 3 ∧ ((↑(wrS s (List.take x p)).n : Int).tmod (64 : Int)).toNat < 64 ∧ ([] : List Nat) = [] ∧ true = true) ∧ 1 ≠ 0 ∧ 1 = 1 ∧ false = false) ∧ (Sk.st [Sk.arr 8, Sk.one, Sk.arr 64] = Sk.st [Sk.arr 8, Sk.one, Sk.arr 64] ∧ 1 < 3) ∧ (1 ≠ 0 ∧ 1 = 1 ∧ false = false) ∧ True ∧ (Sk.st [Sk.arr 8, Sk.one, Sk.arr 64] = Sk.st [Sk.arr 8, Sk.one, Sk.arr 64] ∧ 1 < 3) ∧ ((1 < 3 ∧ Sk.one = Sk.one) ∧ 1 ≠ 0 ∧ 1 = 1 ∧ false = false) ∧ (Sk.st [Sk.arr 8, Sk.one, Sk.arr 64] = Sk.st [Sk.arr 8, Sk.one, Sk.arr 64] ∧ 1 < 3) ∧ (1 ≠ 0 ∧ 1 = 1 ∧ false = false) ∧ (64 : Int) ≠ 0 ∧ True ∧ match (IntKind.u64.wrap ((↑(wrS s (List.take x p)).n : Int) + (1 : Int))).tmod (64 : Int) == (0 : Int) with
  | true => (Sk.st [Sk.arr 8, Sk.one, Sk.arr 64] = Sk.st [Sk.arr 8, Sk.one, Sk.arr 64] ∧ 0 < 3) ∧ (8 ≠ 0 ∧ 8 = 8 ∧ true = true) ∧ (Sk.st [Sk.arr 8, Sk.one, Sk.arr 64] = Sk.st [Sk.arr 8, Sk.one, Sk.arr 64] ∧ 2 < 3) ∧ (64 ≠ 0 ∧ 64 = 64 ∧ true = true) ∧ (∃ (x_1 : R8), ∃ (l : List Int), [D.arr .u32 8 [(↑(BitVec.toNat (wrS s (List.take x p)).h.a) : Int), (↑(BitVec.toNat (wrS s (List.take x p)).h.b) : Int), (↑(BitVec.toNat (wrS s (List.take x p)).h.c) : Int), (↑(BitVec.toNat (wrS s (List.take x p)).h.d) : Int), (↑(BitVec.toNat (wrS s (List.take x p)).h.e) : Int), (↑(BitVec.toNat (wrS s (List.take x p)).h.f) : Int), (↑(BitVec.toNat (wrS s (List.take x p)).h.g) : Int), (↑(BitVec.toNat (wrS s (List.take x p)).h.h) : Int)], D.arr .u8 64 ((wrS s (List.take x p)).l.set ((↑(wrS s (List.take x p)).n : Int).tmod (64 : Int)).toNat (p.getD (↑x : Int).toNat (0 : Int)))] = [D.arr .u32 8 [(↑(BitVec.toNat x_1.a) : Int), (↑(BitVec.toNat x_1.b) : Int), (↑(BitVec.toNat x_1.c) : Int), (↑(BitVec.toNat x_1.d) : Int), (↑(BitVec.toNat x_1.e) : Int), (↑(BitVec.toNat x_1.f) : Int), (↑(BitVec.toNat x_1.g) : Int), (↑(BitVec.toNat x_1.h) : Int)], D.arr .u8 64 l] ∧ isBytes l ∧ l.length = 64) ∧ (Sk.st [Sk.arr 8, Sk.one, Sk.arr 64] = Sk.st [Sk.arr 8, Sk.one, Sk.arr 64] ∧ 0 < 3) ∧ ((0 < 3 ∧ Sk.arr 8 = Sk.arr 8) ∧ 8 ≠ 0 ∧ 8 = 8 ∧ false = false) ∧ True ∧ True ∧ ((AV.d (D.val (.int .i64 (IntKind.i64.wrap ((↑x : Int) + (1 : Int))))) = AV.d (D.val (.int .i64 (↑(IntKind.i64.wrap ((↑x : Int) + (1 : Int))).toNat : Int))) ∧ True) ∧ (some (Blk.fix (D.st [D.arr .u32 8 (prL [(↑(BitVec.toNat (wrS s (List.take x p)).h.a) : Int), (↑(BitVec.toNat (wrS s (List.take x p)).h.b) : Int), (↑(BitVec.toNat (wrS s (List.take x p)).h.c) : Int), (↑(BitVec.toNat (wrS s (List.take x p)).h.d) : Int), (↑(BitVec.toNat (wrS s (List.take x p)).h.e) : Int), (↑(BitVec.toNat (wrS s (List.take x p)).h.f) : Int), (↑(BitVec.toNat (wrS s (List.take x p)).h.g) : Int), (↑(BitVec.toNat (wrS s (List.take x p)).h.h) : Int)] ((wrS s (List.take x p)).l.set ((↑(wrS s (List.take x p)).n : Int).tmod (64 : Int)).toNat (p.getD (↑x : Int).toNat (0 : Int)))), D.val (.int .u64 (IntKind.u64.wrap ((↑(wrS s (List.take x p)).n : Int) + (1 : Int)))), D.arr .u8 64 ((wrS s (List.take x p)).l.set ((↑(wrS s (List.take x p)).n : Int).tmod (64 : Int)).toNat (p.getD (↑x : Int).toNat (0 : Int)))])) = some (Blk.fix (D.st [D.arr .u32 8 [(↑(BitVec.toNat (wrS s (List.take (IntKind.i64.wrap ((↑x : Int) + (1 : Int))).toNat p)).h.a) : Int), (↑(BitVec.toNat (wrS s (List.take (IntKind.i64.wrap ((↑x : Int) + (1 : Int))).toNat p)).h.b) : Int), (↑(BitVec.toNat (wrS s (List.take (IntKind.i64.wrap ((↑x : Int) + (1 : Int))).toNat p)).h.c) : Int), (↑(BitVec.toNat (wrS s (List.take (IntKind.i64.wrap ((↑x : Int) + (1 : Int))).toNat p)).h.d) : Int), (↑(BitVec.toNat (wrS s (List.take (IntKind.i64.wrap ((↑x : Int) + (1 : Int))).toNat p)).h.e) : Int), (↑(BitVec.toNat (wrS s (List.take (IntKind.i64.wrap ((↑x : Int) + (1 : Int))).toNat p)).h.f) : Int), (↑(BitVec.toNat (wrS s (List.take (IntKind.i64.wrap ((↑x : Int) + (1 : Int))).toNat p)).h.g) : Int), (↑(BitVec.toNat (wrS s (List.take (IntKind.i64.wrap ((↑x : Int) + (1 : Int))).toNat p)).h.h) : Int)],
   D.val (.int .u64 (↑(wrS s (List.take (IntKind.i64.wrap ((↑x : Int) + (1 : Int))).toNat p)).n : Int)), D.arr .u8 64 (wrS s (List.take (IntKind.i64.wrap ((↑x : Int) + (1 : Int))).toNat p)).l])) ∧ sm (some (Blk.fix (D.st [D.arr .u32 8 [(0 : Int), (0 : Int), (0 : Int), (0 : Int), (0 : Int), (0 : Int), (0 : Int), (0 : Int)], D.val (.int .u64 0), D.arr .u8 64 (List.replicate 64 (0 : Int))]))) ∧ True) ∧ true = true) ∧ (IntKind.i64.wrap ((↑x : Int) + (1 : Int))).toNat ≤ p.length ∧ p.length - (IntKind.i64.wrap ((↑x : Int) + (1 : Int))).toNat < p.length - x
  | false => True ∧ True ∧ ((AV.d (D.val (.int .i64 (IntKind.i64.wrap ((↑x : Int) + (1 : Int))))) = AV.d (D.val (.int .i64 (↑(IntKind.i64.wrap ((↑x : Int) + (1 : Int))).toNat : Int))) ∧ True) ∧ (some (Blk.fix (D.st [D.arr .u32 8 [(↑(BitVec.toNat (wrS s (List.take x p)).h.a) : Int), (↑(BitVec.toNat (wrS s (List.take x p)).h.b) : Int), (↑(BitVec.toNat (wrS s (List.take x p)).h.c) : Int), (↑(BitVec.toNat (wrS s (List.take x p)).h.d) : Int), (↑(BitVec.toNat (wrS s (List.take x p)).h.e) : Int), (↑(BitVec.toNat (wrS s (List.take x p)).h.f) : Int), (↑(BitVec.toNat (wrS s (List.take x p)).h.g) : Int), (↑(BitVec.toNat (wrS s (List.take x p)).h.h) : Int)], D.val (.int .u64 (IntKind.u64.wrap ((↑(wrS s (List.take x p)).n : Int) + (1 : Int)))), D.arr .u8 64 ((wrS s (List.take x p)).l.set ((↑(wrS s (List.take x p)).n : Int).tmod (64 : Int)).toNat (p.getD (↑x : Int).toNat (0 : Int)))])) = some (Blk.fix (D.st [D.arr .u32 8 [(↑(BitVec.toNat (wrS s (List.take (IntKind.i64.wrap ((↑x : Int) + (1 : Int))).toNat p)).h.a) : Int), (↑(BitVec.toNat (wrS s (List.take (IntKind.i64.wrap ((↑x : Int) + (1 : Int))).toNat p)).h.b) : Int), (↑(BitVec.toNat (wrS s (List.take (IntKind.i64.wrap ((↑x : Int) + (1 : Int))).toNat p)).h.c) : Int), (↑(BitVec.toNat (wrS s (List.take (IntKind.i64.wrap ((↑x : Int) + (1 : Int))).toNat p)).h.d) : Int), (↑(BitVec.toNat (wrS s (List.take (IntKind.i64.wrap ((↑x : Int) + (1 : Int))).toNat p)).h.e) : Int), (↑(BitVec.toNat (wrS s (List.take (IntKind.i64.wrap ((↑x : Int) + (1 : Int))).toNat p)).h.f) : Int), (↑(BitVec.toNat (wrS s (List.take (IntKind.i64.wrap ((↑x : Int) + (1 : Int))).toNat p)).h.g) : Int), (↑(BitVec.toNat (wrS s (List.take (IntKind.i64.wrap ((↑x : Int) + (1 : Int))).toNat p)).h.h) : Int)], D.val (.int .u64 (↑(wrS s (List.take (IntKind.i64.wrap ((↑x : Int) + (1 : Int))).toNat p)).n : Int)), D.arr .u8 64 (wrS s (List.take (IntKind.i64.wrap ((↑x : Int) + (1 : Int))).toNat p)).l])) ∧ sm (some (Blk.fix (D.st [D.arr .u32 8 [(0 : Int), (0 : Int), (0 : Int), (0 : Int), (0 : Int), (0 : Int), (0 : Int), (0 : Int)], D.val (.int .u64 0), D.arr .u8 64 (List.replicate 64 (0 : Int))]))) ∧ True) ∧ true = true) ∧ (IntKind.i64.wrap ((↑x : Int) + (1 : Int))).toNat ≤ p.length ∧ p.length - (IntKind.i64.wrap ((↑x : Int) + (1 : Int))).toNat < p.length - x
 | false => (73 ≠ 0 ∧ 73 = 73 ∧ true = true) ∧ (Sk.st [Sk.arr 8, Sk.one, Sk.arr 64] = Sk.st [Sk.arr 8, Sk.one, Sk.arr 64] ∧ 73 ≠ 0 ∧ 73 = 73 ∧ false = false) ∧ ((73 ≠ 0 ∧ 73 = 73 ∧ true = true) ∧ True) ∧ D.st [D.arr .u32 8 [(↑(BitVec.toNat (wrS s (List.take x p)).h.a) : Int), (↑(BitVec.toNat (wrS s (List.take x p)).h.b) : Int), (↑(BitVec.toNat (wrS s (List.take x p)).h.c) : Int), (↑(BitVec.toNat (wrS s (List.take x p)).h.d) : Int), (↑(BitVec.toNat (wrS s (List.take x p)).h.e) : Int), (↑(BitVec.toNat (wrS s (List.take x p)).h.f) : Int), (↑(BitVec.toNat (wrS s (List.take x p)).h.g) : Int), (↑(BitVec.toNat (wrS s (List.take x p)).h.h) : Int)], D.val (.int .u64 (↑(wrS s (List.take x p)).n : Int)), D.arr .u8 64 (wrS s (List.take x p)).l] = F) := by kernel_rfl
set_option maxRecDepth 100000 in
theorem vc118  (n : Nat) (F : D)  :
    (owed c118 (inv118 n) Tryd.f118 [.val (.int .u64 (n : Int))] F) = (
 True ∧ (1 = 1 ∧ 1 ≤ 4096) ∧ True ∧ (((sm (AV.d (D.val (.int .u64 (↑n : Int)))) ∧ sm (AV.d (D.val (Value.slice none 0 0))) ∧ sm (AV.row 5) ∧ True) ∧ (some (Blk.row (5 : TypeId) (D.ints .u8 [(128 : Int)])) = some (Blk.row (5 : TypeId) (D.ints .u8 (pz n (1 - 1)))) ∧ True) ∧ true = true) ∧ 1 - 1 ≤ zc n) ∧ ∀ (x : Nat), x ≤ zc n → true = true ∧ True ∧ True ∧ True ∧ True ∧ True ∧ (64 : Int) ≠ 0 ∧ True ∧ match (IntKind.u64.wrap ((↑n : Int) + IntKind.u64.wrap (↑(pz n x).length : Int))).tmod (64 : Int) != (56 : Int) with
 | true => True ∧ (1 = 1 ∧ 1 ≤ 4096) ∧ ((5 : TypeId) = (5 : TypeId) ∧ 26 = 26 ∧ true = true ∧ (pz n x ++ [(0 : Int)]).length ≤ 140737488355328 ∧ (pz n x ++ [(0 : Int)]).length * 1 ≤ 140737488355328 ∧ 1 ≠ 0 ∧ 1 = 1) ∧ True ∧ ((sm (AV.d (D.val (.int .u64 (↑n : Int)))) ∧ sm (AV.d (D.val (Value.slice none 0 0))) ∧ sm (AV.row 5) ∧ True) ∧ (some (Blk.row (5 : TypeId) (D.ints .u8 (pz n x ++ [(0 : Int)]))) = some (Blk.row (5 : TypeId) (D.ints .u8 (pz n ((pz n x ++ [(0 : Int)]).length - 1)))) ∧ True) ∧ true = true) ∧ (pz n x ++ [(0 : Int)]).length - 1 ≤ zc n ∧ zc n - ((pz n x ++ [(0 : Int)]).length - 1) < zc n - x
 | false => True ∧ (((sm (AV.d (D.val (.int .u64 (↑n : Int)))) ∧ sm (AV.d (D.val (Value.slice none 0 0))) ∧ sm (AV.row 5) ∧ sm (AV.d (D.val (.int .u64 (↑n : Int)))) ∧ sm (AV.d (D.val (.int .i64 (↑(pz n x).length : Int)))) ∧ sm (AV.d (D.val (.int .u64 (IntKind.u64.wrap (↑(pz n x).length : Int))))) ∧ sm (AV.d (D.val (.int .u64 (IntKind.u64.wrap ((↑n : Int) + IntKind.u64.wrap (↑(pz n x).length : Int)))))) ∧ sm (AV.d (D.val (.int .u64 ((IntKind.u64.wrap ((↑n : Int) + IntKind.u64.wrap (↑(pz n x).length : Int))).tmod (64 : Int))))) ∧ sm (AV.d (D.val (Value.bool ((IntKind.u64.wrap ((↑n : Int) + IntKind.u64.wrap (↑(pz n x).length : Int))).tmod (64 : Int) != (56 : Int))))) ∧ AV.d (D.val (.int .i64 0)) = AV.d (D.val (.int .i64 (↑(Int.toNat (0 : Int)) : Int))) ∧ True) ∧ (some (Blk.row (5 : TypeId) (D.ints .u8 (pz n x))) = some (Blk.row (5 : TypeId) (D.ints .u8 (pt n (Int.toNat (0 : Int))))) ∧ True) ∧ true = true) ∧ Int.toNat (0 : Int) ≤ 8) ∧ ∀ (x_1 : Nat), x_1 ≤ 8 → true = true ∧ True ∧ match decide ((↑x_1 : Int) < (8 : Int)) with
  | true => True ∧ True ∧ True ∧ True ∧ True ∧ True ∧ True ∧ True ∧ True ∧ (0 : Int) ≤ IntKind.u64.wrap (IntKind.i64.wrap ((56 : Int) - IntKind.i64.wrap ((8 : Int) * (↑x_1 : Int)))) ∧ True ∧ (1 = 1 ∧ 1 ≤ 4096) ∧ ((5 : TypeId) = (5 : TypeId) ∧ 26 = 26 ∧ true = true ∧ (pt n x_1 ++ [IntKind.u8.wrap (ishr IntKind.u64 (IntKind.u64.wrap ((8 : Int) * (↑n : Int))) (IntKind.u64.wrap (IntKind.i64.wrap ((56 : Int) - IntKind.i64.wrap ((8 : Int) * (↑x_1 : Int))))))]).length ≤ 140737488355328 ∧ (pt n x_1 ++ [IntKind.u8.wrap (ishr IntKind.u64 (IntKind.u64.wrap ((8 : Int) * (↑n : Int))) (IntKind.u64.wrap (IntKind.i64.wrap ((56 : Int) - IntKind.i64.wrap ((8 : Int) * (↑x_1 : Int))))))]).length * 1 ≤ 140737488355328 ∧ 1 ≠ 0 ∧ 1 = 1) ∧ True ∧ True ∧ True ∧ ((sm (AV.d (D.val (.int .u64 (↑n : Int)))) ∧ sm (AV.d (D.val (Value.slice none 0 0))) ∧ sm (AV.row 5) ∧ sm (AV.d (D.val (.int .u64 (↑n : Int)))) ∧ sm (AV.d (D.val (.int .i64 (↑(pz n x).length : Int)))) ∧ sm (AV.d (D.val (.int .u64 (IntKind.u64.wrap (↑(pz n x).length : Int))))) ∧ sm (AV.d (D.val (.int .u64 (IntKind.u64.wrap ((↑n : Int) + IntKind.u64.wrap (↑(pz n x).length : Int)))))) ∧ sm (AV.d (D.val (.int .u64 ((IntKind.u64.wrap ((↑n : Int) + IntKind.u64.wrap (↑(pz n x).length : Int))).tmod (64 : Int))))) ∧ sm (AV.d (D.val (Value.bool ((IntKind.u64.wrap ((↑n : Int) + IntKind.u64.wrap (↑(pz n x).length : Int))).tmod (64 : Int) != (56 : Int))))) ∧ AV.d (D.val (.int .i64 (IntKind.i64.wrap ((↑x_1 : Int) + (1 : Int))))) = AV.d (D.val (.int .i64 (↑(IntKind.i64.wrap ((↑x_1 : Int) + (1 : Int))).toNat : Int))) ∧ True) ∧ (some (Blk.row (5 : TypeId) (D.ints .u8 (pt n x_1 ++ [IntKind.u8.wrap (ishr IntKind.u64 (IntKind.u64.wrap ((8 : Int) * (↑n : Int))) (IntKind.u64.wrap (IntKind.i64.wrap ((56 : Int) - IntKind.i64.wrap ((8 : Int) * (↑x_1 : Int))))))]))) = some (Blk.row (5 : TypeId) (D.ints .u8 (pt n (IntKind.i64.wrap ((↑x_1 : Int) + (1 : Int))).toNat))) ∧ True) ∧ true = true) ∧ (IntKind.i64.wrap ((↑x_1 : Int) + (1 : Int))).toNat ≤ 8 ∧ 8 - (IntKind.i64.wrap ((↑x_1 : Int) + (1 : Int))).toNat < 8 - x_1
  | false => True ∧ True ∧ (false = false ∧ True) ∧ D.ints .u8 (pt n x_1) = F) := by kernel_rfl
set_option maxRecDepth 100000 in
theorem vc127  (n : Nat) (F : D)  :
    (owed c0 (inv127 n) Tryd.f127 [.val (.int .u64 (n : Int))] F) = (
 True ∧ True ∧ True ∧ (64 : Int) ≠ 0 ∧ True ∧ (((AV.d (D.str (ints { data := { toList := [128] } })) = AV.d (D.str (pz n ((ints { data := { toList := [128] } }).length - 1))) ∧ True) ∧ True ∧ true = true) ∧ (ints { data := { toList := [128] } }).length - 1 ≤ zc n) ∧ ∀ (x : Nat), x ≤ zc n → true = true ∧ True ∧ True ∧ True ∧ True ∧ True ∧ True ∧ (64 : Int) ≠ 0 ∧ True ∧ match (IntKind.u64.wrap (IntKind.u64.wrap ((↑n : Int).tmod (64 : Int) + IntKind.u64.wrap (↑(pz n x).length : Int)) + (8 : Int))).tmod (64 : Int) != (0 : Int) with
 | true => True ∧ (↑((pz n x).length + (ints { data := { toList := [0] } }).length) : Int) ≤ (9223372036854775807 : Int) ∧ True ∧ ((AV.d (D.str (pz n x ++ ints { data := { toList := [0] } })) = AV.d (D.str (pz n ((pz n x ++ ints { data := { toList := [0] } }).length - 1))) ∧ True) ∧ True ∧ true = true) ∧ (pz n x ++ ints { data := { toList := [0] } }).length - 1 ≤ zc n ∧ zc n - ((pz n x ++ ints { data := { toList := [0] } }).length - 1) < zc n - x
 | false => True ∧ True ∧ True ∧ True ∧ True ∧ (((AV.d (D.val (.int .i64 0)) = AV.d (D.val (.int .i64 (↑(Int.toNat (0 : Int)) : Int))) ∧ AV.d (D.val (.int .u64 (IntKind.u64.wrap ((↑n : Int) * (8 : Int))))) = AV.d (D.val (.int .u64 (↑(8 * n % 18446744073709551616 / 1) : Int))) ∧ AV.d (D.str (ints { data := { toList := [] } })) = AV.d (D.str (tl (8 * n % 18446744073709551616) (Int.toNat (0 : Int)))) ∧ True) ∧ True ∧ true = true) ∧ Int.toNat (0 : Int) ≤ 8) ∧ ∀ (x_1 : Nat), x_1 ≤ 8 → true = true ∧ True ∧ match decide ((↑x_1 : Int) < (8 : Int)) with
  | true => True ∧ (256 : Int) ≠ 0 ∧ True ∧ (1 = 1 ∧ 1 ≤ 4096) ∧ isBytes [IntKind.u8.wrap ((↑(8 * n % 18446744073709551616 / 256 ^ x_1) : Int).tmod (256 : Int))] ∧ True ∧ (↑(1 + (tl (8 * n % 18446744073709551616) x_1).length) : Int) ≤ (9223372036854775807 : Int) ∧ True ∧ True ∧ (256 : Int) ≠ 0 ∧ True ∧ True ∧ True ∧ ((AV.d (D.val (.int .i64 (IntKind.i64.wrap ((↑x_1 : Int) + (1 : Int))))) = AV.d (D.val (.int .i64 (↑(IntKind.i64.wrap ((↑x_1 : Int) + (1 : Int))).toNat : Int))) ∧ AV.d (D.val (.int .u64 (IntKind.u64.wrap ((↑(8 * n % 18446744073709551616 / 256 ^ x_1) : Int).tdiv (256 : Int))))) = AV.d (D.val (.int .u64 (↑(8 * n % 18446744073709551616 / 256 ^ (IntKind.i64.wrap ((↑x_1 : Int) + (1 : Int))).toNat) : Int))) ∧ AV.d (D.str (IntKind.u8.wrap ((↑(8 * n % 18446744073709551616 / 256 ^ x_1) : Int).tmod (256 : Int)) :: tl (8 * n % 18446744073709551616) x_1)) = AV.d (D.str (tl (8 * n % 18446744073709551616) (IntKind.i64.wrap ((↑x_1 : Int) + (1 : Int))).toNat)) ∧ True) ∧ True ∧ true = true) ∧ (IntKind.i64.wrap ((↑x_1 : Int) + (1 : Int))).toNat ≤ 8 ∧ 8 - (IntKind.i64.wrap ((↑x_1 : Int) + (1 : Int))).toNat < 8 - x_1
  | false => True ∧ True ∧ (↑((pz n x).length + (tl (8 * n % 18446744073709551616) x_1).length) : Int) ≤ (9223372036854775807 : Int) ∧ True ∧ (false = false ∧ True) ∧ D.str (pz n x ++ tl (8 * n % 18446744073709551616) x_1) = F) := by kernel_rfl
end Go.Proofs.YtkicjckhkefnpaaDoor
namespace Go.Proofs.YtkicjckhkefnpaaDoor
open Go Go.Vg
theorem prL_mk (x : R8) (l : List Int) : prL [(x.a.toNat : Int), (x.b.toNat : Int), (x.c.toNat : Int), (x.d.toNat : Int), (x.e.toNat : Int), (x.f.toNat : Int), (x.g.toNat : Int), (x.h.toNat : Int)] l =
  [((pr x l).a.toNat : Int), ((pr x l).b.toNat : Int), ((pr x l).c.toNat : Int), ((pr x l).d.toNat : Int), ((pr x l).e.toNat : Int), ((pr x l).f.toNat : Int), ((pr x l).g.toNat : Int), ((pr x l).h.toNat : Int)] := by
 show prL x.l l = (pr x l).l
 unfold prL
 rw [ofR_l]
theorem bytes_set {l : List Int} (h : isBytes l) {b : Int} (hb : 0 ≤ b ∧ b < 256) (i : Nat) : isBytes (l.set i b) := by
 intro x hx
 rcases List.mem_or_eq_of_mem_set hx with h1 | rfl
 ·exact h x h1
 ·exact hb
theorem stp_ok {s : HS} (h : okS s) {b : Int} (hb : 0 ≤ b ∧ b < 256) : okS (stp s b) := by
 unfold stp
 obtain ⟨h1, h2, h3⟩ := h
 have : (s.n + 1) % 18446744073709551616 < 18446744073709551616 := Nat.mod_lt _ (by decide)
 simp only
 split
 ·exact ⟨by simp [h1], bytes_set h2 hb _, this⟩
 ·exact ⟨by simp [h1], bytes_set h2 hb _, this⟩
theorem wr_ok : ∀ (p : List Int) {s : HS}, okS s → isBytes p → okS (wrS s p)
 | [], _, h, _ => h
 | b :: p, s, h, hp => by
  show okS (wrS (stp s b) p)
  exact wr_ok p (stp_ok h (hp b (by simp))) fun x hx => hp x (by simp [hx])
theorem wr_app (s : HS) (p q : List Int) : wrS s (p ++ q) = wrS (wrS s p) q := List.foldl_append
theorem take_snoc {p : List Int} {i : Nat} (h : i < p.length) : p.take (i + 1) = p.take i ++ [p.getD i 0] := by
 rw [List.take_add_one, List.getElem?_eq_getElem h, List.getD_eq_getElem?_getD, List.getElem?_eq_getElem h]
 rfl
theorem wr_snoc (s : HS) {p : List Int} {i : Nat} (h : i < p.length) : wrS s (p.take (i + 1)) = stp (wrS s (p.take i)) (p.getD i 0) := by
 rw [take_snoc h, wr_app]
 rfl
theorem bytes_take {l : List Int} (h : isBytes l) (n : Nat) : isBytes (l.take n) := fun x hx => h x (List.mem_of_mem_take hx)
theorem ofS_eq (s : HS) : ofS (stD s) = s := by
 show HS.mk (ofR s.h.l) ((s.n : Int)).toNat s.l = s
 rw [ofR_l, Int.toNat_natCast]
set_option maxRecDepth 100000 in
theorem m76 : Meets Tryd.prog 76 sp76 := by
 refine meets_of_owed (C := c76) ⟨tab_ok, lkS_ok ⟨m117, trivial⟩⟩ (by kernel_rfl) (by kernel_rfl : Tryd.prog.funcs[76]? = some Tryd.f76) (by kernel_rfl) (by kernel_rfl) (by kernel_rfl) _ ?_
 rintro _ ⟨s, p, rfl, hs, hp, hl⟩
 refine ⟨fun _ => rfl, inv76 s p, ?_⟩
 show owed c76 (inv76 s p) Tryd.f76 [stD s, .ints .u8 p] (stD (wrS (ofS (stD s)) p))
 rw [vc76, ofS_eq]
 have h0 : wrS s (List.take (Int.toNat 0) p) = s := rfl
 rw [h0]
 simp (decide := true) only [eq_self, true_and, and_true, ne_eq, not_false_eq_true]
 refine ⟨⟨rfl, Nat.zero_le _⟩, fun x hx => ?_⟩
 have hy := wr_ok (p.take x) hs (bytes_take hp x)
 split
 ·rename_i h
  have h : x < p.length := by have := of_decide_eq_true h; omega
  have es := wr_snoc s h
  have ew : IntKind.i64.wrap ((x : Int) + 1) = ((x + 1 : Nat) : Int) := by rw [wi (by omega) (by omega)]; omega
  obtain ⟨b, eb, hb⟩ := byte_at hp h
  rw [ew]
  simp only [Int.toNat_natCast, es, eb]
  generalize wrS s (p.take x) = y at *
  obtain ⟨y1, y2, y3⟩ := hy
  have em : ((y.n : Nat) : Int).tmod 64 = ((y.n % 64 : Nat) : Int) := tmodN _ 64
  have en : IntKind.u64.wrap ((y.n : Int) + 1) = (((y.n + 1) % 18446744073709551616 : Nat) : Int) := by rw [w64]; omega
  have em2 : (((y.n + 1) % 18446744073709551616 : Nat) : Int).tmod 64 = (((y.n + 1) % 18446744073709551616 % 64 : Nat) : Int) := tmodN _ 64
  rw [em, en, em2, Int.toNat_natCast]
  have hlt : y.n % 64 < 64 := Nat.mod_lt _ (by decide)
  unfold stp
  simp only
  split
  ·rename_i h2
   have h2 : (y.n + 1) % 18446744073709551616 % 64 = 0 := by have := eq_of_beq h2; omega
   rw [if_pos h2]
   refine ⟨by omega, by omega, by omega, ⟨_, _, rfl, bytes_set y2 (by omega) _, by simp [y1]⟩, ?_⟩
   rw [prL_mk]
   and_intros <;> first | trivial | rfl | omega
  ·rename_i h2
   have h2 : ¬ (y.n + 1) % 18446744073709551616 % 64 = 0 := fun h3 => by rw [h3] at h2; cases h2
   rw [if_neg h2]
   and_intros <;> first | trivial | rfl | omega
 ·rename_i h
  have h := of_decide_eq_false h
  rw [List.take_of_length_le (by omega)]
  rfl
theorem pz_len (n i : Nat) : (pz n i).length = i + 1 := by simp [pz]
theorem pz_succ (n i : Nat) : pz n i ++ [0] = pz n (i + 1) := by
 unfold pz
 rw [List.replicate_succ', List.cons_append]
theorem pz_end (n : Nat) : pz n (zc n) = pt n 0 := by unfold pz pt; simp
theorem zc_lt (n : Nat) : zc n < 64 := Nat.mod_lt _ (by decide)
theorem tl_len (b : Nat) : ∀ k, (tl b k).length = k
 | 0 => rfl
 | k + 1 => by rw [tl, List.length_cons, tl_len b k]
theorem tl_get (b : Nat) : ∀ k i, i < k → (tl b k).getD i 0 = ((b / 256 ^ (k - 1 - i) % 256 : Nat) : Int)
 | 0, _, h => by omega
 | k + 1, 0, _ => rfl
 | k + 1, i + 1, h => by
  rw [tl, List.getD_cons_succ, tl_get b k i (by omega), show k + 1 - 1 - (i + 1) = k - 1 - i by omega]
theorem pt_succ (n : Nat) {i : Nat} (h : i < 8) : pt n (i + 1) = pt n i ++ [((8 * n % 18446744073709551616 / 256 ^ (7 - i) % 256 : Nat) : Int)] := by
 unfold pt
 rw [take_snoc (by rw [tl_len]; exact h), tl_get _ 8 i h, show 8 - 1 - i = 7 - i by omega]
 simp
theorem pt_end (n : Nat) : pt n 8 = padL n := by
 unfold pt padL
 rw [List.take_of_length_le (by rw [tl_len]; exact Nat.le_refl _)]
theorem pt_len (n : Nat) {i : Nat} (h : i ≤ 8) : (pt n i).length ≤ 100 := by
 unfold pt
 have := zc_lt n
 simp
 omega
set_option maxRecDepth 100000 in
theorem m118 : Meets Tryd.prog 118 sp118 := by
 refine meets_of_owed (C := c118) ⟨tab_ok, fun f s h => by cases h⟩ (by kernel_rfl) (by kernel_rfl : Tryd.prog.funcs[118]? = some Tryd.f118) (by kernel_rfl) (by kernel_rfl) (by kernel_rfl) _ ?_
 rintro _ ⟨n, rfl, hn⟩
 refine ⟨(fun h => by cases h), inv118 n, ?_⟩
 show owed c118 (inv118 n) Tryd.f118 [.val (.int .u64 (n : Int))] (.ints .u8 (padL ((n : Int)).toNat))
 rw [vc118, Int.toNat_natCast]
 simp (decide := true) only [eq_self, true_and, and_true, ne_eq, not_false_eq_true, Nat.sub_self, pz_len]
 refine ⟨⟨rfl, Nat.zero_le _⟩, fun x hx => ?_⟩
 have hz := zc_lt n
 have e1 : IntKind.u64.wrap ((n : Int) + IntKind.u64.wrap ((x + 1 : Nat) : Int)) = (((n + x + 1) % 18446744073709551616 : Nat) : Int) := by
  rw [w64, w64]; omega
 have e2 : (((n + x + 1) % 18446744073709551616 : Nat) : Int).tmod 64 = (((n + x + 1) % 18446744073709551616 % 64 : Nat) : Int) := tmodN _ 64
 rw [e1, e2]
 have ez : zc n = (119 - n % 64) % 64 := rfl
 split
 ·rename_i h
  have h : (n + x + 1) % 18446744073709551616 % 64 ≠ 56 := by
   intro h3
   rw [h3] at h
   cases h
  rw [pz_succ, pz_len, Nat.add_sub_cancel]
  and_intros <;> first | rfl | omega
 ·rename_i h
  have h : (n + x + 1) % 18446744073709551616 % 64 = 56 := by
   have h3 := bne_eq_false_iff_eq.1 h
   omega
  obtain rfl : x = zc n := by omega
  rw [pz_end]
  refine ⟨⟨rfl, rfl⟩, fun i hi => ?_⟩
  split
  ·rename_i h4
   have h4 : i < 8 := by have := of_decide_eq_true h4; omega
   have ew : IntKind.i64.wrap ((i : Int) + 1) = ((i + 1 : Nat) : Int) := by rw [wi (by omega) (by omega)]; omega
   have e8 : IntKind.i64.wrap (8 * (i : Int)) = ((8 * i : Nat) : Int) := by rw [wi (by omega) (by omega)]; omega
   have e56 : IntKind.u64.wrap (IntKind.i64.wrap (56 - ((8 * i : Nat) : Int))) = ((8 * (7 - i) : Nat) : Int) := by
    rw [wi (by omega) (by omega), w64]; omega
   have en : IntKind.u64.wrap (8 * (n : Int)) = ((8 * n % 18446744073709551616 : Nat) : Int) := by rw [w64]; omega
   rw [ew, e8, e56, en, ishrN .u64 (show _ ≤ 64 by omega), wN8, Nat.pow_mul, show (2 : Nat) ^ 8 = 256 from rfl, ← pt_succ n h4, Int.toNat_natCast]
   have := pt_len n (i := i + 1) (by omega)
   and_intros <;> first | rfl | omega
  ·rename_i h4
   obtain rfl : i = 8 := by have := of_decide_eq_false h4; omega
   rw [pt_end]
set_option maxRecDepth 100000 in
theorem m127 : Meets Tryd.prog 127 sp127 := by
 refine meets_of_owed (C := c0) ⟨tab_ok, fun f s h => by cases h⟩ (by kernel_rfl) (by kernel_rfl : Tryd.prog.funcs[127]? = some Tryd.f127) (by kernel_rfl) (by kernel_rfl) (by kernel_rfl) _ ?_
 rintro _ ⟨n, rfl, hn⟩
 refine ⟨fun _ => rfl, inv127 n, ?_⟩
 show owed c0 (inv127 n) Tryd.f127 [.val (.int .u64 (n : Int))] (.str (padL ((n : Int)).toNat))
 rw [vc127, Int.toNat_natCast]
 have i0 : ints { data := { toList := [(0 : UInt8)] } } = [0] := rfl
 have i128 : ints { data := { toList := [(128 : UInt8)] } } = [128] := rfl
 have ie : ints { data := { toList := [] } } = [] := rfl
 rw [i0, i128, ie]
 simp (decide := true) only [eq_self, true_and, and_true, ne_eq, not_false_eq_true, Nat.sub_self, pz_len, List.length_cons, List.length_nil]
 refine ⟨⟨rfl, Nat.zero_le _⟩, fun x hx => ?_⟩
 have hz := zc_lt n
 have ez : zc n = (119 - n % 64) % 64 := rfl
 have e0 : ((n : Nat) : Int).tmod 64 = ((n % 64 : Nat) : Int) := tmodN _ 64
 have e1 : IntKind.u64.wrap (IntKind.u64.wrap (((n % 64 : Nat) : Int) + IntKind.u64.wrap ((x + 1 : Nat) : Int)) + 8) = ((n % 64 + x + 9 : Nat) : Int) := by
  rw [w64, w64, w64]; omega
 have e2 : ((n % 64 + x + 9 : Nat) : Int).tmod 64 = (((n % 64 + x + 9) % 64 : Nat) : Int) := tmodN _ 64
 rw [e0, e1, e2]
 split
 ·rename_i h
  have h : (n % 64 + x + 9) % 64 ≠ 0 := by
   intro h3
   rw [h3] at h
   cases h
  rw [pz_succ, pz_len, Nat.add_sub_cancel]
  and_intros <;> first | rfl | omega
 ·rename_i h
  have h : (n % 64 + x + 9) % 64 = 0 := by
   have h3 := bne_eq_false_iff_eq.1 h
   omega
  obtain rfl : x = zc n := by omega
  have en : IntKind.u64.wrap ((n : Int) * 8) = ((8 * n % 18446744073709551616 : Nat) : Int) := by rw [w64]; omega
  rw [en]
  refine ⟨⟨rfl, by rw [Nat.div_one], rfl⟩, fun i hi => ?_⟩
  have hb2 : 8 * n % 18446744073709551616 < 18446744073709551616 := Nat.mod_lt _ (by decide)
  generalize hb : 8 * n % 18446744073709551616 = b at *
  split
  ·rename_i h4
   have h4 : i < 8 := by have := of_decide_eq_true h4; omega
   have ew : IntKind.i64.wrap ((i : Int) + 1) = ((i + 1 : Nat) : Int) := by rw [wi (by omega) (by omega)]; omega
   have q1 : ((b / 256 ^ i : Nat) : Int).tmod 256 = ((b / 256 ^ i % 256 : Nat) : Int) := tmodN _ 256
   have q2 : ((b / 256 ^ i : Nat) : Int).tdiv 256 = ((b / 256 ^ i / 256 : Nat) : Int) := tdivN _ 256
   have q3 : b / 256 ^ (i + 1) = b / 256 ^ i / 256 := by rw [Nat.pow_succ, Nat.div_div_eq_div_mul]
   have q4 : b / 256 ^ i ≤ b := Nat.div_le_self _ _
   have ht : tl b (i + 1) = ((b / 256 ^ i % 256 : Nat) : Int) :: tl b i := rfl
   have q5 : IntKind.u8.wrap ((b / 256 ^ i % 256 : Nat) : Int) = ((b / 256 ^ i % 256 : Nat) : Int) := by rw [w8]; omega
   have q6 : IntKind.u64.wrap ((b / 256 ^ i / 256 : Nat) : Int) = ((b / 256 ^ i / 256 : Nat) : Int) := wrapN .u64 (show _ < 18446744073709551616 from Nat.lt_of_le_of_lt (Nat.le_trans (Nat.div_le_self _ _) q4) hb2)
   rw [ew, q1, q2, q5, q6, Int.toNat_natCast, q3, ht, tl_len]
   refine ⟨?_, by omega, ⟨rfl, rfl, rfl⟩, by omega, by omega⟩
   intro y hy
   rw [List.mem_singleton] at hy
   omega
  ·rename_i h4
   obtain rfl : i = 8 := by have := of_decide_eq_false h4; omega
   rw [tl_len]
   refine ⟨by omega, ?_⟩
   unfold padL pz
   rw [hb]
   rfl
end Go.Proofs.YtkicjckhkefnpaaDoor
namespace Go.Proofs.YtkicjckhkefnpaaDoor
open Go Go.Vg
def fhK (h : R8) (m : List Int) : Nat → R8
 | 0 => h
 | k + 1 => pr (fhK h m k) ((m.drop (64 * k)).take 64)
def bt (l : List Int) (j k : Nat) : Int := ((l.getD j 0).toNat / 256 ^ k % 256 : Nat)
def outL (x : R8) : List Int := (List.range 32).map fun i => bt x.l (i / 4) (3 - i % 4)
def sumL (s : HS) : List Int := outL (wrS s (padL s.n)).h
def iv : R8 := ⟨0x6a09e667, 0xbb67ae85, 0x3c6ef372, 0xa54ff53a, 0x510e527f, 0x9b05688c, 0x1f83d9ab, 0x5be0cd19⟩
def st0 : HS := ⟨iv, 0, List.replicate 64 0⟩
def fromL (x : R8) (n : Nat) (p : List Int) : List Int :=
 outL (fhK x (p ++ padL ((n + p.length) % 18446744073709551616)) ((p ++ padL ((n + p.length) % 18446744073709551616)).length / 64))
def digL (p : List Int) : List Int := fromL iv 0 p
theorem set_take (L : List Int) (r : Nat) (b : Int) (h : r < L.length) : (L.set r b).take (r + 1) = L.take r ++ [b] := by
 rw [take_snoc (p := L.set r b) (by rw [List.length_set]; exact h), List.take_set, List.set_eq_of_length_le (by rw [List.length_take]; omega)]
 rw [List.getD_eq_getElem?_getD, List.getElem?_set_self h]
 rfl
theorem wr_fh (h : R8) (n : Nat) (l : List Int) (hl : l.length = 64) (hn : n % 64 = 0) (hn2 : n < 18446744073709551616) (m : List Int) :
  ∀ k, k ≤ m.length → ∃ L : List Int, L.length = 64 ∧ wrS ⟨h, n, l⟩ (m.take k) = ⟨fhK h m (k / 64), (n + k) % 18446744073709551616, L⟩ ∧ L.take (k % 64) = (m.take k).drop (64 * (k / 64))
 | 0, _ => ⟨l, hl, by
   show HS.mk h n l = ⟨h, (n + 0) % 18446744073709551616, l⟩
   rw [show (n + 0) % 18446744073709551616 = n by omega], rfl⟩
 | k + 1, hk => by
  obtain ⟨L, h1, h2, h3⟩ := wr_fh h n l hl hn hn2 m k (by omega)
  have hlt : k % 64 < L.length := by omega
  have e1 : (n + k) % 18446744073709551616 % 64 = k % 64 := by omega
  have e2 : ((n + k) % 18446744073709551616 + 1) % 18446744073709551616 = (n + (k + 1)) % 18446744073709551616 := by omega
  have e3 : (L.set (k % 64) (m.getD k 0)).take (k % 64 + 1) = (m.take (k + 1)).drop (64 * (k / 64)) := by
   rw [set_take _ _ _ hlt, h3, take_snoc (show k < m.length by omega), List.drop_append_of_le_length (by rw [List.length_take]; omega)]
  rw [wr_snoc _ (show k < m.length by omega), h2]
  refine ⟨L.set (k % 64) (m.getD k 0), by rw [List.length_set]; exact h1, ?_⟩
  unfold stp
  simp only [e1, e2]
  by_cases hc : (n + (k + 1)) % 18446744073709551616 % 64 = 0
  ·have hc2 : (k + 1) % 64 = 0 := by omega
   have q : (k + 1) / 64 = k / 64 + 1 := by omega
   have r : k % 64 + 1 = 64 := by omega
   rw [if_pos hc, q, hc2]
   rw [r, List.take_of_length_le (by rw [List.length_set]; omega), List.drop_take, show k + 1 - 64 * (k / 64) = 64 by omega] at e3
   refine ⟨?_, ?_⟩
   ·rw [e3]
    rfl
   ·rw [List.drop_eq_nil_of_le (by rw [List.length_take]; omega)]
    rfl
  ·have q : (k + 1) / 64 = k / 64 := by omega
   have r : (k + 1) % 64 = k % 64 + 1 := by omega
   rw [if_neg hc, q, r]
   exact ⟨rfl, e3⟩
theorem padL_len (n : Nat) : (padL n).length = 9 + zc n := by
 unfold padL
 rw [List.length_cons, List.length_append, List.length_replicate, tl_len]
 omega
theorem wr_full (h : R8) (n : Nat) (l : List Int) (hl : l.length = 64) (hn : n % 64 = 0) (hn2 : n < 18446744073709551616) (m : List Int) :
  (wrS ⟨h, n, l⟩ m).h = fhK h m (m.length / 64) ∧ (wrS ⟨h, n, l⟩ m).n = (n + m.length) % 18446744073709551616 := by
 obtain ⟨L, _, h2, _⟩ := wr_fh h n l hl hn hn2 m m.length (Nat.le_refl _)
 rw [List.take_length] at h2
 rw [h2]
 exact ⟨rfl, rfl⟩
theorem sum_from (h : R8) (n : Nat) (l : List Int) (hl : l.length = 64) (hn : n % 64 = 0) (hn2 : n < 18446744073709551616) (p : List Int) :
  sumL (wrS ⟨h, n, l⟩ p) = fromL h n p := by
 unfold sumL fromL
 rw [(wr_full h n l hl hn hn2 p).2, ← wr_app, (wr_full h n l hl hn hn2 _).1]
theorem sum_st0 (p : List Int) : sumL (wrS st0 p) = digL p := sum_from iv 0 _ (by simp) rfl (by decide) p
theorem mul64 (n : Nat) (p : List Int) (hn : n % 64 = 0) : (p ++ padL ((n + p.length) % 18446744073709551616)).length % 64 = 0 := by
 rw [List.length_append, padL_len]
 unfold zc
 omega
theorem outL_len (x : R8) : (outL x).length = 32 := by unfold outL; simp
theorem outL_bytes (x : R8) : isBytes (outL x) := by
 intro y hy
 unfold outL at hy
 obtain ⟨i, _, rfl⟩ := List.mem_map.1 hy
 unfold bt
 omega
theorem outL_get (x : R8) {i : Nat} (h : i < 32) : (outL x).getD i 0 = bt x.l (i / 4) (3 - i % 4) := by
 unfold outL
 rw [List.getD_eq_getElem?_getD, List.getElem?_map, List.getElem?_range h]
 rfl
theorem fill (L : List Int) {k n : Nat} (hn : L.length = n) (h : k < n) : (L.take k ++ List.replicate (n - k) 0).set k (L.getD k 0) = L.take (k + 1) ++ List.replicate (n - (k + 1)) 0 := by
 have e : n - k = (n - (k + 1)) + 1 := by omega
 have el : (L.take k).length = k := by rw [List.length_take]; omega
 rw [e, List.replicate_succ, List.set_append_right _ _ (by omega), el, Nat.sub_self, List.set_cons_zero, take_snoc (by omega), List.append_assoc]
 rfl
theorem st0_ok : okS st0 := ⟨rfl, by intro x hx; rw [show st0.l = List.replicate 64 0 from rfl] at hx; have := List.eq_of_mem_replicate hx; omega, by decide⟩
theorem xl_get (x : R8) {j : Nat} (h : j < 8) : ∃ w : W, x.l.getD j 0 = ((w.toNat : Nat) : Int) := by
 rcases (by omega : j = 0 ∨ j = 1 ∨ j = 2 ∨ j = 3 ∨ j = 4 ∨ j = 5 ∨ j = 6 ∨ j = 7) with rfl | rfl | rfl | rfl | rfl | rfl | rfl | rfl <;> exact ⟨_, rfl⟩
end Go.Proofs.YtkicjckhkefnpaaDoor
namespace Go.Proofs.YtkicjckhkefnpaaDoor
open Go Go.Vg
abbrev d32 (l : List Int) : D := .arr .u8 32 l
def isD (l : List Int) : Prop := isBytes l ∧ l.length = 32
def big : Nat := 1000000000000000
def sp75 : Go.Vg.Spec := ⟨fun ds => ds.length = 0, fun _ => stD st0, true, []⟩
def sp77 : Go.Vg.Spec := ⟨fun ds => ∃ s, ds = [stD s] ∧ okS s, fun ds => d32 (sumL (ofS (ds.headD default))), true, [117]⟩
def sp116 : Go.Vg.Spec := ⟨fun ds => ds.length = 0, fun _ => .ints .u32 iv.l, false, []⟩
def sp115 : Go.Vg.Spec := ⟨fun ds => ∃ (x : R8) (n : Nat) (p : List Int), ds = [.ints .u32 x.l, u64 (n : Int), .str p] ∧ isBytes p ∧ p.length ≤ 1000000000000000 ∧ n % 64 = 0 ∧ n < 18446744073709551616,
 fun ds => d32 (fromL (ofR (intsOf (ds.headD default))) (numOf (ds.getD 1 default)).toNat (strOf (ds.getD 2 default))), true, [170, 73, 9]⟩
def sp70 : Go.Vg.Spec := ⟨fun ds => ∃ p, ds = [.ints .u8 p] ∧ isBytes p ∧ p.length ≤ 1000000000000000, fun ds => d32 (digL (intsOf (ds.headD default))), true, [26]⟩
def sp71 : Go.Vg.Spec := ⟨fun ds => ∃ p, ds = [.str p] ∧ isBytes p ∧ p.length ≤ 1000000000000000, fun ds => d32 (digL (strOf (ds.headD default))), true, [9]⟩
def c77 : Ctx := ⟨tab, lkS [(76, sp76), (118, sp118)], [], []⟩
def c115 : Ctx := ⟨tab, lkS [(127, sp127), (128, sp128)], [], []⟩
def c70 : Ctx := ⟨tab, lkS [(75, sp75), (76, sp76), (77, sp77)], [], []⟩
def c71 : Ctx := ⟨tab, lkS [(116, sp116), (115, sp115)], [], []⟩
def inv77 (s : HS) : Nat → Option Inv
 | 4 => some ⟨Nat, fun i => [(13, .d (i64 i))], fun i => [(3, .fix (d32 ((sumL s).take (4 * i) ++ List.replicate (32 - 4 * i) 0)))], fun s => (slotN s 13).toNat, fun _ i => i ≤ 8, fun i => 8 - i⟩
 | _ => none
def fullL (n : Nat) (p : List Int) : List Int := p ++ padL ((n + p.length) % 18446744073709551616)
def inv115 (x : R8) (n : Nat) (p : List Int) : Nat → Option Inv
 | 3 => some ⟨Nat, fun k => [(7, .d (i64 ((64 * k : Nat) : Int))), (0, .d (.ints .u32 (fhK x (fullL n p) k).l))], fun _ => [], fun s => (slotN s 7).toNat / 64, fun _ k => k ≤ (fullL n p).length / 64, fun k => (fullL n p).length / 64 - k⟩
 | 8 => some ⟨Nat, fun i => [(31, .d (i64 i))], fun i => [(8, .fix (d32 ((fromL x n p).take i ++ List.replicate (32 - i) 0)))], fun s => (slotN s 31).toNat, fun _ i => i ≤ 32, fun i => 32 - i⟩
 | _ => none
set_option maxRecDepth 100000 in
theorem vc75  (F : D)  :
    (owed c0 (fun _ => none) Tryd.f75 [] F) = (
 (True ∧ 73 ≠ 0) ∧ (1 = 1 ∧ false = false ∧ (0 < 8 ∧ ([] : List Nat) = [] ∧ true = true) ∧ false = false ∧ (1 < 8 ∧ ([] : List Nat) = [] ∧ true = true) ∧ false = false ∧ (2 < 8 ∧ ([] : List Nat) = [] ∧ true = true) ∧ false = false ∧ (3 < 8 ∧ ([] : List Nat) = [] ∧ true = true) ∧ false = false ∧ (4 < 8 ∧ ([] : List Nat) = [] ∧ true = true) ∧ false = false ∧ (5 < 8 ∧ ([] : List Nat) = [] ∧ true = true) ∧ false = false ∧ (6 < 8 ∧ ([] : List Nat) = [] ∧ true = true) ∧ false = false ∧ (7 < 8 ∧ ([] : List Nat) = [] ∧ true = true) ∧ True) ∧ (false = false ∧ (0 < 3 ∧ Sk.arr 8 = Sk.arr 8) ∧ True) ∧ (Sk.st [Sk.arr 8, Sk.one, Sk.arr 64] = Sk.st [Sk.arr 8, Sk.one, Sk.arr 64] ∧ 73 ≠ 0 ∧ 73 = 73 ∧ false = false) ∧ ((73 ≠ 0 ∧ 73 = 73 ∧ true = true) ∧ True) ∧ D.st [D.arr .u32 8 [(1779033703 : Int), (3144134277 : Int), (1013904242 : Int), (2773480762 : Int), (1359893119 : Int), (2600822924 : Int), (528734635 : Int), (1541459225 : Int)], D.val (.int .u64 0), D.arr .u8 64 (List.replicate 64 (0 : Int))] = F) := by kernel_rfl
set_option maxRecDepth 100000 in
theorem vc77  (s : HS) (F : D)  :
    (owed c77 (inv77 s) Tryd.f77 [stD s] F) = (
 (True ∧ false = false) ∧ (True ∧ 32 ≠ 0) ∧ (73 ≠ 0 ∧ 73 = 73 ∧ true = true) ∧ (Sk.st [Sk.arr 8, Sk.one, Sk.arr 64] = Sk.st [Sk.arr 8, Sk.one, Sk.arr 64] ∧ 1 < 3) ∧ (1 ≠ 0 ∧ 1 = 1 ∧ false = false) ∧ (∃ (n : Nat), [D.val (.int .u64 (↑s.n : Int))] = [D.val (.int .u64 (↑n : Int))] ∧ n < 18446744073709551616) ∧ (∃ (s_1 : HS), ∃ (p : List Int), [D.st [D.arr .u32 8 s.h.l, D.val (.int .u64 (↑s.n : Int)), D.arr .u8 64 s.l], D.ints .u8 (padL (↑s.n : Int).toNat)] = [D.st [D.arr .u32 8 s_1.h.l, D.val (.int .u64 (↑s_1.n : Int)), D.arr .u8 64 s_1.l], D.ints .u8 p] ∧ okS s_1 ∧ isBytes p ∧ p.length ≤ 1000000000000000) ∧ (Sk.st [Sk.arr 8, Sk.one, Sk.arr 64] = Sk.st [Sk.arr 8, Sk.one, Sk.arr 64] ∧ 73 ≠ 0 ∧ 73 = 73 ∧ false = false) ∧ (True ∧ 32 ≠ 0) ∧ (Sk.st [Sk.arr 8, Sk.one, Sk.arr 64] = Sk.st [Sk.arr 8, Sk.one, Sk.arr 64] ∧ 0 < 3) ∧ (8 ≠ 0 ∧ 8 = 8 ∧ true = true) ∧ True ∧ (((AV.d (D.val (.int .i64 0)) = AV.d (D.val (.int .i64 (↑(Int.toNat (0 : Int)) : Int))) ∧ True) ∧ (sm (some (Blk.fix (D.st [D.arr .u32 8 (wrS (ofS (D.st [D.arr .u32 8 s.h.l, D.val (.int .u64 (↑s.n : Int)), D.arr .u8 64 s.l])) (padL (↑s.n : Int).toNat)).h.l, D.val (.int .u64 (↑(wrS (ofS (D.st [D.arr .u32 8 s.h.l, D.val (.int .u64 (↑s.n : Int)), D.arr .u8 64 s.l])) (padL (↑s.n : Int).toNat)).n : Int)), D.arr .u8 64 (wrS (ofS (D.st [D.arr .u32 8 s.h.l, D.val (.int .u64 (↑s.n : Int)), D.arr .u8 64 s.l])) (padL (↑s.n : Int).toNat)).l]))) ∧ sm (some (Blk.fix (D.arr .u8 32 [(0 : Int), (0 : Int), (0 : Int), (0 : Int), (0 : Int), (0 : Int), (0 : Int), (0 : Int), (0 : Int), (0 : Int), (0 : Int), (0 : Int), (0 : Int), (0 : Int), (0 : Int), (0 : Int), (0 : Int), (0 : Int), (0 : Int), (0 : Int), (0 : Int), (0 : Int), (0 : Int), (0 : Int), (0 : Int), (0 : Int), (0 : Int), (0 : Int), (0 : Int), (0 : Int), (0 : Int), (0 : Int)]))) ∧ some (Blk.fix (D.arr .u8 32 [(0 : Int), (0 : Int), (0 : Int), (0 : Int), (0 : Int), (0 : Int), (0 : Int), (0 : Int), (0 : Int), (0 : Int), (0 : Int), (0 : Int), (0 : Int), (0 : Int), (0 : Int), (0 : Int), (0 : Int), (0 : Int), (0 : Int), (0 : Int), (0 : Int), (0 : Int), (0 : Int), (0 : Int), (0 : Int), (0 : Int), (0 : Int), (0 : Int), (0 : Int), (0 : Int), (0 : Int), (0 : Int)])) = some (Blk.fix (D.arr .u8 32 (List.take 0 (sumL s) ++ [(0 : Int), (0 : Int), (0 : Int), (0 : Int), (0 : Int), (0 : Int), (0 : Int), (0 : Int), (0 : Int), (0 : Int), (0 : Int), (0 : Int), (0 : Int), (0 : Int), (0 : Int), (0 : Int), (0 : Int), (0 : Int), (0 : Int), (0 : Int), (0 : Int), (0 : Int), (0 : Int), (0 : Int), (0 : Int), (0 : Int), (0 : Int), (0 : Int), (0 : Int), (0 : Int), (0 : Int), (0 : Int)]))) ∧ True) ∧ true = true) ∧ Int.toNat (0 : Int) ≤ 8) ∧ ∀ (x : Nat), x ≤ 8 → true = true ∧ True ∧ match decide ((↑x : Int) < (8 : Int)) with
 | true => True ∧ ((0 : Int) ≤ (↑x : Int) ∧ (↑x : Int) < (↑(8 : Nat) : Int) ∧ 8 = 8 ∧ Ty.int IntKind.u32 = Ty.int IntKind.u32 ∧ 1 = 1) ∧ True ∧ True ∧ True ∧ True ∧ True ∧ True ∧ True ∧ True ∧ True ∧ True ∧ True ∧ True ∧ True ∧ True ∧ (0 : Int) ≤ 24 ∧ True ∧ True ∧ (0 : Int) ≤ 16 ∧ True ∧ True ∧ (0 : Int) ≤ 8 ∧ True ∧ True ∧ True ∧ ((0 : Int) ≤ IntKind.i64.wrap ((4 : Int) * (↑x : Int)) ∧ IntKind.i64.wrap ((4 : Int) * (↑x : Int)) < (↑(32 : Nat) : Int) ∧ 32 = 32 ∧ 1 = 1) ∧ (((IntKind.i64.wrap ((4 : Int) * (↑x : Int))).toNat < 32 ∧ ([] : List Nat) = [] ∧ true = true) ∧ 1 ≠ 0 ∧ 1 = 1 ∧ false = false) ∧ ((0 : Int) ≤ IntKind.i64.wrap (IntKind.i64.wrap ((4 : Int) * (↑x : Int)) + (1 : Int)) ∧ IntKind.i64.wrap (IntKind.i64.wrap ((4 : Int) * (↑x : Int)) + (1 : Int)) < (↑(32 : Nat) : Int) ∧ 32 = 32 ∧ 1 = 1) ∧ (((IntKind.i64.wrap (IntKind.i64.wrap ((4 : Int) * (↑x : Int)) + (1 : Int))).toNat < 32 ∧ ([] : List Nat) = [] ∧ true = true) ∧ 1 ≠ 0 ∧ 1 = 1 ∧ false = false) ∧ ((0 : Int) ≤ IntKind.i64.wrap (IntKind.i64.wrap ((4 : Int) * (↑x : Int)) + (2 : Int)) ∧ IntKind.i64.wrap (IntKind.i64.wrap ((4 : Int) * (↑x : Int)) + (2 : Int)) < (↑(32 : Nat) : Int) ∧ 32 = 32 ∧ 1 = 1) ∧ (((IntKind.i64.wrap (IntKind.i64.wrap ((4 : Int) * (↑x : Int)) + (2 : Int))).toNat < 32 ∧ ([] : List Nat) = [] ∧ true = true) ∧ 1 ≠ 0 ∧ 1 = 1 ∧ false = false) ∧ ((0 : Int) ≤ IntKind.i64.wrap (IntKind.i64.wrap ((4 : Int) * (↑x : Int)) + (3 : Int)) ∧ IntKind.i64.wrap (IntKind.i64.wrap ((4 : Int) * (↑x : Int)) + (3 : Int)) < (↑(32 : Nat) : Int) ∧ 32 = 32 ∧ 1 = 1) ∧ (((IntKind.i64.wrap (IntKind.i64.wrap ((4 : Int) * (↑x : Int)) + (3 : Int))).toNat < 32 ∧ ([] : List Nat) = [] ∧ true = true) ∧ 1 ≠ 0 ∧ 1 = 1 ∧ false = false) ∧ True ∧ True ∧ ((AV.d (D.val (.int .i64 (IntKind.i64.wrap ((↑x : Int) + (1 : Int))))) = AV.d (D.val (.int .i64 (↑(IntKind.i64.wrap ((↑x : Int) + (1 : Int))).toNat : Int))) ∧ True) ∧ (sm (some (Blk.fix (D.st [D.arr .u32 8 (wrS (ofS (D.st [D.arr .u32 8 s.h.l, D.val (.int .u64 (↑s.n : Int)), D.arr .u8 64 s.l])) (padL (↑s.n : Int).toNat)).h.l, D.val (.int .u64 (↑(wrS (ofS (D.st [D.arr .u32 8 s.h.l, D.val (.int .u64 (↑s.n : Int)), D.arr .u8 64 s.l])) (padL (↑s.n : Int).toNat)).n : Int)), D.arr .u8 64 (wrS (ofS (D.st [D.arr .u32 8 s.h.l, D.val (.int .u64 (↑s.n : Int)), D.arr .u8 64 s.l])) (padL (↑s.n : Int).toNat)).l]))) ∧ sm (some (Blk.fix (D.arr .u8 32 [(0 : Int), (0 : Int), (0 : Int), (0 : Int), (0 : Int), (0 : Int), (0 : Int), (0 : Int), (0 : Int), (0 : Int), (0 : Int), (0 : Int), (0 : Int), (0 : Int), (0 : Int), (0 : Int), (0 : Int), (0 : Int), (0 : Int), (0 : Int), (0 : Int), (0 : Int), (0 : Int), (0 : Int), (0 : Int), (0 : Int), (0 : Int), (0 : Int), (0 : Int), (0 : Int), (0 : Int), (0 : Int)]))) ∧ some (Blk.fix (D.arr .u8 32 (((((List.take (4 * x) (sumL s) ++ List.replicate (32 - 4 * x) (0 : Int)).set (IntKind.i64.wrap ((4 : Int) * (↑x : Int))).toNat (IntKind.u8.wrap (ishr IntKind.u32 ((wrS (ofS (D.st [D.arr .u32 8 s.h.l, D.val (.int .u64 (↑s.n : Int)), D.arr .u8 64 s.l])) (padL (↑s.n : Int).toNat)).h.l.getD (↑x : Int).toNat (0 : Int)) (24 : Int)))).set
  (IntKind.i64.wrap (IntKind.i64.wrap ((4 : Int) * (↑x : Int)) + (1 : Int))).toNat (IntKind.u8.wrap (ishr IntKind.u32 ((wrS (ofS (D.st [D.arr .u32 8 s.h.l, D.val (.int .u64 (↑s.n : Int)), D.arr .u8 64 s.l])) (padL (↑s.n : Int).toNat)).h.l.getD (↑x : Int).toNat (0 : Int)) (16 : Int)))).set (IntKind.i64.wrap (IntKind.i64.wrap ((4 : Int) * (↑x : Int)) + (2 : Int))).toNat (IntKind.u8.wrap (ishr IntKind.u32 ((wrS (ofS (D.st [D.arr .u32 8 s.h.l, D.val (.int .u64 (↑s.n : Int)), D.arr .u8 64 s.l])) (padL (↑s.n : Int).toNat)).h.l.getD (↑x : Int).toNat (0 : Int)) (8 : Int)))).set (IntKind.i64.wrap (IntKind.i64.wrap ((4 : Int) * (↑x : Int)) + (3 : Int))).toNat (IntKind.u8.wrap ((wrS (ofS (D.st [D.arr .u32 8 s.h.l, D.val (.int .u64 (↑s.n : Int)), D.arr .u8 64 s.l])) (padL (↑s.n : Int).toNat)).h.l.getD (↑x : Int).toNat (0 : Int)))))) = some (Blk.fix (D.arr .u8 32 (List.take (4 * (IntKind.i64.wrap ((↑x : Int) + (1 : Int))).toNat) (sumL s) ++ List.replicate (32 - 4 * (IntKind.i64.wrap ((↑x : Int) + (1 : Int))).toNat) (0 : Int)))) ∧ True) ∧ true = true) ∧ (IntKind.i64.wrap ((↑x : Int) + (1 : Int))).toNat ≤ 8 ∧ 8 - (IntKind.i64.wrap ((↑x : Int) + (1 : Int))).toNat < 8 - x
 | false => (32 ≠ 0 ∧ 32 = 32 ∧ true = true) ∧ (Sk.arr 32 = Sk.arr 32 ∧ 32 ≠ 0 ∧ 32 = 32 ∧ false = false) ∧ ((32 ≠ 0 ∧ 32 = 32 ∧ true = true) ∧ True) ∧ D.arr .u8 32 (List.take (4 * x) (sumL s) ++ List.replicate (32 - 4 * x) (0 : Int)) = F) := by kernel_rfl
set_option maxRecDepth 100000 in
theorem vc116  (F : D)  :
    (owed c0 (fun _ => none) Tryd.f116 [] F) = (
 True ∧ (1 = 1 ∧ 8 ≤ 4096) ∧ True ∧ (false = false ∧ True) ∧ D.ints .u32 [(1779033703 : Int), (3144134277 : Int), (1013904242 : Int), (2773480762 : Int), (1359893119 : Int), (2600822924 : Int), (528734635 : Int), (1541459225 : Int)] = F) := by kernel_rfl
set_option maxRecDepth 100000 in
theorem vc115  (x : R8) (n : Nat) (p : List Int) (F : D)  :
    (owed c115 (inv115 x n p) Tryd.f115 [.ints .u32 x.l, u64 (n : Int), .str p] F) = (
 (True ∧ 32 ≠ 0) ∧ True ∧ True ∧ True ∧ True ∧ True ∧ True ∧ (∃ (n_1 : Nat), [D.val (.int .u64 (IntKind.u64.wrap ((↑n : Int) + IntKind.u64.wrap (↑p.length : Int))))] = [D.val (.int .u64 (↑n_1 : Int))] ∧ n_1 < 18446744073709551616) ∧ (↑(p.length + (padL (IntKind.u64.wrap ((↑n : Int) + IntKind.u64.wrap (↑p.length : Int))).toNat).length) : Int) ≤ (9223372036854775807 : Int) ∧ True ∧ True ∧ (((AV.d (D.val (.int .i64 0)) = AV.d (D.val (.int .i64 (↑(0 : Nat) : Int))) ∧ AV.d (D.ints .u32 x.l) = AV.d (D.ints .u32 (fhK x (fullL n p) (0 / 64 : Nat)).l) ∧ True) ∧ (sm (some (Blk.fix (D.arr .u8 32 [(0 : Int), (0 : Int), (0 : Int), (0 : Int), (0 : Int), (0 : Int), (0 : Int), (0 : Int), (0 : Int), (0 : Int), (0 : Int), (0 : Int), (0 : Int), (0 : Int), (0 : Int), (0 : Int), (0 : Int), (0 : Int), (0 : Int), (0 : Int), (0 : Int), (0 : Int), (0 : Int), (0 : Int), (0 : Int), (0 : Int), (0 : Int), (0 : Int), (0 : Int), (0 : Int), (0 : Int), (0 : Int)]))) ∧ True) ∧ true = true) ∧ (0 / 64 : Nat) ≤ (fullL n p).length / 64) ∧ ∀ (x_1 : Nat), x_1 ≤ (fullL n p).length / 64 → true = true ∧ True ∧ True ∧ True ∧ True ∧ match decide ((↑(64 * x_1) : Int) < (↑(p ++ padL (IntKind.u64.wrap ((↑n : Int) + IntKind.u64.wrap (↑p.length : Int))).toNat).length : Int)) with
 | true => True ∧ True ∧ True ∧ True ∧ True ∧ ((0 : Int) ≤ (↑(64 * x_1) : Int) ∧ (↑(64 * x_1) : Int) ≤ IntKind.i64.wrap ((↑(64 * x_1) : Int) + (64 : Int)) ∧ IntKind.i64.wrap ((↑(64 * x_1) : Int) + (64 : Int)) ≤ (↑(p ++ padL (IntKind.u64.wrap ((↑n : Int) + IntKind.u64.wrap (↑p.length : Int))).toNat).length : Int)) ∧ (∃ (x_2 : R8), ∃ (l : List Int), [D.ints .u32 (fhK x (fullL n p) x_1).l, D.str (List.drop (↑(64 * x_1) : Int).toNat (List.take (IntKind.i64.wrap ((↑(64 * x_1) : Int) + (64 : Int))).toNat (p ++ padL (IntKind.u64.wrap ((↑n : Int) + IntKind.u64.wrap (↑p.length : Int))).toNat)))] = [D.ints .u32 x_2.l, D.str l] ∧ isBytes l ∧ l.length = 64) ∧ True ∧ True ∧ True ∧ True ∧ ((AV.d (D.val (.int .i64 (IntKind.i64.wrap ((↑(64 * x_1) : Int) + (64 : Int))))) = AV.d (D.val (.int .i64 (↑(64 * ((IntKind.i64.wrap ((↑(64 * x_1) : Int) + (64 : Int))).toNat / 64)) : Int))) ∧ AV.d (D.ints .u32 (prL (fhK x (fullL n p) x_1).l (List.drop (↑(64 * x_1) : Int).toNat (List.take (IntKind.i64.wrap ((↑(64 * x_1) : Int) + (64 : Int))).toNat (p ++ padL (IntKind.u64.wrap ((↑n : Int) + IntKind.u64.wrap (↑p.length : Int))).toNat))))) = AV.d (D.ints .u32 (fhK x (fullL n p) ((IntKind.i64.wrap ((↑(64 * x_1) : Int) + (64 : Int))).toNat / 64)).l) ∧ True) ∧ (sm (some (Blk.fix (D.arr .u8 32 [(0 : Int), (0 : Int), (0 : Int), (0 : Int), (0 : Int), (0 : Int), (0 : Int), (0 : Int), (0 : Int), (0 : Int), (0 : Int), (0 : Int), (0 : Int), (0 : Int), (0 : Int), (0 : Int), (0 : Int), (0 : Int), (0 : Int), (0 : Int), (0 : Int), (0 : Int), (0 : Int), (0 : Int), (0 : Int), (0 : Int), (0 : Int), (0 : Int), (0 : Int), (0 : Int), (0 : Int), (0 : Int)]))) ∧ True) ∧ true = true) ∧ (IntKind.i64.wrap ((↑(64 * x_1) : Int) + (64 : Int))).toNat / 64 ≤ (fullL n p).length / 64 ∧ (fullL n p).length / 64 - (IntKind.i64.wrap ((↑(64 * x_1) : Int) + (64 : Int))).toNat / 64 < (fullL n p).length / 64 - x_1
 | false => (True ∧ 32 ≠ 0) ∧ True ∧ (((AV.d (D.val (.int .i64 0)) = AV.d (D.val (.int .i64 (↑(Int.toNat (0 : Int)) : Int))) ∧ True) ∧ (sm (some (Blk.fix (D.arr .u8 32 [(0 : Int), (0 : Int), (0 : Int), (0 : Int), (0 : Int), (0 : Int), (0 : Int), (0 : Int), (0 : Int), (0 : Int), (0 : Int), (0 : Int), (0 : Int), (0 : Int), (0 : Int), (0 : Int), (0 : Int), (0 : Int), (0 : Int), (0 : Int), (0 : Int), (0 : Int), (0 : Int), (0 : Int), (0 : Int), (0 : Int), (0 : Int), (0 : Int), (0 : Int), (0 : Int), (0 : Int), (0 : Int)]))) ∧ some (Blk.fix (D.arr .u8 32 [(0 : Int), (0 : Int), (0 : Int), (0 : Int), (0 : Int), (0 : Int), (0 : Int), (0 : Int), (0 : Int), (0 : Int), (0 : Int), (0 : Int), (0 : Int), (0 : Int), (0 : Int), (0 : Int), (0 : Int), (0 : Int), (0 : Int), (0 : Int), (0 : Int), (0 : Int), (0 : Int), (0 : Int), (0 : Int), (0 : Int), (0 : Int), (0 : Int), (0 : Int), (0 : Int), (0 : Int), (0 : Int)])) = some (Blk.fix (D.arr .u8 32 (List.take (Int.toNat (0 : Int)) (fromL x n p) ++ [(0 : Int), (0 : Int), (0 : Int), (0 : Int), (0 : Int), (0 : Int), (0 : Int), (0 : Int), (0 : Int), (0 : Int), (0 : Int), (0 : Int), (0 : Int), (0 : Int), (0 : Int), (0 : Int), (0 : Int), (0 : Int), (0 : Int), (0 : Int), (0 : Int), (0 : Int), (0 : Int), (0 : Int), (0 : Int), (0 : Int), (0 : Int), (0 : Int), (0 : Int), (0 : Int), (0 : Int), (0 : Int)]))) ∧ True) ∧ true = true) ∧ Int.toNat (0 : Int) ≤ 32) ∧ ∀ (x_2 : Nat), x_2 ≤ 32 → true = true ∧ True ∧ match decide ((↑x_2 : Int) < (32 : Int)) with
  | true => True ∧ True ∧ True ∧ True ∧ True ∧ (4 : Int) ≠ 0 ∧ ((0 : Int) ≤ IntKind.i64.wrap ((↑x_2 : Int).tdiv (4 : Int)) ∧ IntKind.i64.wrap ((↑x_2 : Int).tdiv (4 : Int)) < (↑(fhK x (fullL n p) x_1).l.length : Int) ∧ 1 = 1) ∧ (1 ≠ 0 ∧ 1 = 1 ∧ false = false) ∧ True ∧ (4 : Int) ≠ 0 ∧ True ∧ True ∧ (0 : Int) ≤ IntKind.i64.wrap ((24 : Int) - IntKind.i64.wrap ((8 : Int) * (↑x_2 : Int).tmod (4 : Int))) ∧ True ∧ ((0 : Int) ≤ (↑x_2 : Int) ∧ (↑x_2 : Int) < (↑(32 : Nat) : Int) ∧ 32 = 32 ∧ 1 = 1) ∧ (((↑x_2 : Int).toNat < 32 ∧ ([] : List Nat) = [] ∧ true = true) ∧ 1 ≠ 0 ∧ 1 = 1 ∧ false = false) ∧ True ∧ True ∧ ((AV.d (D.val (.int .i64 (IntKind.i64.wrap ((↑x_2 : Int) + (1 : Int))))) = AV.d (D.val (.int .i64 (↑(IntKind.i64.wrap ((↑x_2 : Int) + (1 : Int))).toNat : Int))) ∧ True) ∧ (sm (some (Blk.fix (D.arr .u8 32 [(0 : Int), (0 : Int), (0 : Int), (0 : Int), (0 : Int), (0 : Int), (0 : Int), (0 : Int), (0 : Int), (0 : Int), (0 : Int), (0 : Int), (0 : Int), (0 : Int), (0 : Int), (0 : Int), (0 : Int), (0 : Int), (0 : Int), (0 : Int), (0 : Int), (0 : Int), (0 : Int), (0 : Int), (0 : Int), (0 : Int), (0 : Int), (0 : Int), (0 : Int), (0 : Int), (0 : Int), (0 : Int)]))) ∧ some (Blk.fix (D.arr .u8 32 ((List.take x_2 (fromL x n p) ++ List.replicate (32 - x_2) (0 : Int)).set (↑x_2 : Int).toNat (IntKind.u8.wrap (ishr IntKind.u32 ((fhK x (fullL n p) x_1).l.getD (IntKind.i64.wrap ((↑x_2 : Int).tdiv (4 : Int))).toNat (0 : Int)) (IntKind.i64.wrap ((24 : Int) - IntKind.i64.wrap ((8 : Int) * (↑x_2 : Int).tmod (4 : Int))))))))) = some (Blk.fix (D.arr .u8 32 (List.take (IntKind.i64.wrap ((↑x_2 : Int) + (1 : Int))).toNat (fromL x n p) ++ List.replicate (32 - (IntKind.i64.wrap ((↑x_2 : Int) + (1 : Int))).toNat) (0 : Int)))) ∧ True) ∧ true = true) ∧ (IntKind.i64.wrap ((↑x_2 : Int) + (1 : Int))).toNat ≤ 32 ∧ 32 - (IntKind.i64.wrap ((↑x_2 : Int) + (1 : Int))).toNat < 32 - x_2
  | false => (32 ≠ 0 ∧ 32 = 32 ∧ true = true) ∧ (Sk.arr 32 = Sk.arr 32 ∧ 32 ≠ 0 ∧ 32 = 32 ∧ false = false) ∧ ((32 ≠ 0 ∧ 32 = 32 ∧ true = true) ∧ True) ∧ D.arr .u8 32 (List.take x_2 (fromL x n p) ++ List.replicate (32 - x_2) (0 : Int)) = F) := by kernel_rfl
set_option maxRecDepth 100000 in
theorem vc70  (p : List Int) (F : D)  :
    (owed c70 (fun _ => none) Tryd.f70 [.ints .u8 p] F) = (
 (True ∧ 32 ≠ 0) ∧ 0 = 0 ∧ True ∧ (∃ (s : HS), ∃ (p_1 : List Int), [D.st [D.arr .u32 8 st0.h.l, D.val (.int .u64 (↑st0.n : Int)), D.arr .u8 64 st0.l], D.ints .u8 p] = [D.st [D.arr .u32 8 s.h.l, D.val (.int .u64 (↑s.n : Int)), D.arr .u8 64 s.l], D.ints .u8 p_1] ∧ okS s ∧ isBytes p_1 ∧ p_1.length ≤ 1000000000000000) ∧ (∃ (s : HS), [D.st [D.arr .u32 8 (wrS (ofS (D.st [D.arr .u32 8 st0.h.l, D.val (.int .u64 (↑st0.n : Int)), D.arr .u8 64 st0.l])) p).h.l, D.val (.int .u64 (↑(wrS (ofS (D.st [D.arr .u32 8 st0.h.l, D.val (.int .u64 (↑st0.n : Int)), D.arr .u8 64 st0.l])) p).n : Int)), D.arr .u8 64 (wrS (ofS (D.st [D.arr .u32 8 st0.h.l, D.val (.int .u64 (↑st0.n : Int)), D.arr .u8 64 st0.l])) p).l]] = [D.st [D.arr .u32 8 s.h.l, D.val (.int .u64 (↑s.n : Int)), D.arr .u8 64 s.l]] ∧ okS s) ∧ (Sk.arr 32 = Sk.arr 32 ∧ 32 ≠ 0 ∧ 32 = 32 ∧ false = false) ∧ ((32 ≠ 0 ∧ 32 = 32 ∧ true = true) ∧ True) ∧ D.arr .u8 32 (sumL (ofS (D.st [D.arr .u32 8 (wrS (ofS (D.st [D.arr .u32 8 st0.h.l, D.val (.int .u64 (↑st0.n : Int)), D.arr .u8 64 st0.l])) p).h.l, D.val (.int .u64 (↑(wrS (ofS (D.st [D.arr .u32 8 st0.h.l, D.val (.int .u64 (↑st0.n : Int)), D.arr .u8 64 st0.l])) p).n : Int)), D.arr .u8 64 (wrS (ofS (D.st [D.arr .u32 8 st0.h.l, D.val (.int .u64 (↑st0.n : Int)), D.arr .u8 64 st0.l])) p).l]))) = F) := by kernel_rfl
set_option maxRecDepth 100000 in
theorem vc71  (p : List Int) (F : D)  :
    (owed c71 (fun _ => none) Tryd.f71 [.str p] F) = (
 (True ∧ 32 ≠ 0) ∧ 0 = 0 ∧ True ∧ (∃ (x : R8), ∃ (n : Nat), ∃ (p_1 : List Int), [D.ints .u32 iv.l, D.val (.int .u64 0), D.str p] = [D.ints .u32 x.l, D.val (.int .u64 (↑n : Int)), D.str p_1] ∧ isBytes p_1 ∧ p_1.length ≤ 1000000000000000 ∧ n % 64 = 0 ∧ n < 18446744073709551616) ∧ (Sk.arr 32 = Sk.arr 32 ∧ 32 ≠ 0 ∧ 32 = 32 ∧ false = false) ∧ ((32 ≠ 0 ∧ 32 = 32 ∧ true = true) ∧ True) ∧ D.arr .u8 32 (fromL (ofR iv.l) 0 p) = F) := by kernel_rfl
end Go.Proofs.YtkicjckhkefnpaaDoor
namespace Go.Proofs.YtkicjckhkefnpaaDoor
open Go Go.Vg
theorem btw (x : R8) {j : Nat} (h : j < 8) {k : Nat} (hk : k ≤ 3) : IntKind.u8.wrap (ishr .u32 (x.l.getD j 0) ((8 * k : Nat) : Int)) = bt x.l j k := by
 obtain ⟨w, e⟩ := xl_get x h
 unfold bt
 rw [e, ishrN .u32 (show 8 * k ≤ 32 by omega), wN8, Int.toNat_natCast, Nat.pow_mul]
theorem btw0 (x : R8) {j : Nat} (h : j < 8) : IntKind.u8.wrap (x.l.getD j 0) = bt x.l j 0 := by
 obtain ⟨w, e⟩ := xl_get x h
 unfold bt
 rw [e, wN8, Int.toNat_natCast, Nat.pow_zero, Nat.div_one]
theorem tl_bytes (b : Nat) : ∀ k, isBytes (tl b k)
 | 0 => fun x hx => by cases hx
 | k + 1 => fun x hx => by
  rcases List.mem_cons.1 hx with rfl | h
  ·omega
  ·exact tl_bytes b k x h
theorem padL_bytes (n : Nat) : isBytes (padL n) := by
 intro x hx
 unfold padL at hx
 rcases List.mem_cons.1 hx with rfl | h
 ·omega
 ·rcases List.mem_append.1 h with h | h
  ·have := List.eq_of_mem_replicate h
   omega
  ·exact tl_bytes _ _ x h
theorem bytes_app {a b : List Int} (ha : isBytes a) (hb : isBytes b) : isBytes (a ++ b) := by
 intro x hx
 rcases List.mem_append.1 hx with h | h
 ·exact ha x h
 ·exact hb x h
theorem bytes_drop {l : List Int} (h : isBytes l) (n : Nat) : isBytes (l.drop n) := fun x hx => h x (List.mem_of_mem_drop hx)
set_option maxRecDepth 100000 in
theorem m75 : Meets Tryd.prog 75 sp75 := by
 refine meets_of_owed (C := c0) ⟨tab_ok, fun f s h => by cases h⟩ (by kernel_rfl) (by kernel_rfl : Tryd.prog.funcs[75]? = some Tryd.f75) (by kernel_rfl) (by kernel_rfl) (by kernel_rfl) _ ?_
 rintro ds hds
 have hds : ds.length = 0 := hds
 obtain rfl := List.eq_nil_of_length_eq_zero hds
 refine ⟨fun _ => rfl, fun _ => none, ?_⟩
 show owed c0 (fun _ => none) Tryd.f75 [] (stD st0)
 rw [vc75]
 and_intros <;> first | rfl | decide | trivial
set_option maxRecDepth 100000 in
theorem m116 : Meets Tryd.prog 116 sp116 := by
 refine meets_of_owed (C := c0) ⟨tab_ok, fun f s h => by cases h⟩ (by kernel_rfl) (by kernel_rfl : Tryd.prog.funcs[116]? = some Tryd.f116) (by kernel_rfl) (by kernel_rfl) (by kernel_rfl) _ ?_
 rintro ds hds
 have hds : ds.length = 0 := hds
 obtain rfl := List.eq_nil_of_length_eq_zero hds
 refine ⟨(fun h => by cases h), fun _ => none, ?_⟩
 show owed c0 (fun _ => none) Tryd.f116 [] (.ints .u32 iv.l)
 rw [vc116]
 and_intros <;> first | rfl | decide | trivial
set_option maxRecDepth 100000 in
theorem m77 : Meets Tryd.prog 77 sp77 := by
 refine meets_of_owed (C := c77) ⟨tab_ok, lkS_ok ⟨m76, m118, trivial⟩⟩ (by kernel_rfl) (by kernel_rfl : Tryd.prog.funcs[77]? = some Tryd.f77) (by kernel_rfl) (by kernel_rfl) (by kernel_rfl) _ ?_
 rintro _ ⟨s, rfl, hs⟩
 refine ⟨fun _ => rfl, inv77 s, ?_⟩
 show owed c77 (inv77 s) Tryd.f77 [stD s] (d32 (sumL (ofS (stD s))))
 have e : ofS (D.st [D.arr .u32 8 s.h.l, D.val (.int .u64 (s.n : Int)), D.arr .u8 64 s.l]) = s := ofS_eq s
 rw [vc77]
 simp (decide := true) only [e, eq_self, true_and, and_true, ne_eq, not_false_eq_true, Int.toNat_natCast]
 have hz := zc_lt s.n
 have hl := padL_len s.n
 have hy : sumL s = outL (wrS s (padL s.n)).h := rfl
 refine ⟨⟨s.n, rfl, hs.2.2⟩, ⟨s, padL s.n, rfl, hs, padL_bytes _, by omega⟩, (by and_intros <;> first | rfl | trivial | omega), fun x hx => ?_⟩
 generalize wrS s (padL s.n) = y at *
 have hL : (sumL s).length = 32 := by rw [hy]; exact outL_len _
 have g : ∀ j, j ≤ 3 → 4 * x + j < 32 → (sumL s).getD (4 * x + j) 0 = bt y.h.l x (3 - j) := by
  intro j hj hlt
  rw [hy, outL_get _ hlt, show (4 * x + j) / 4 = x by omega, show (4 * x + j) % 4 = j by omega]
 generalize sumL s = L at *
 split
 ·rename_i h
  have h : x < 8 := by have := of_decide_eq_true h; omega
  have ew : IntKind.i64.wrap ((x : Int) + 1) = ((x + 1 : Nat) : Int) := by rw [wi (by omega) (by omega)]; omega
  have e4 : IntKind.i64.wrap (4 * (x : Int)) = ((4 * x : Nat) : Int) := by rw [wi (by omega) (by omega)]; omega
  have e1 : ∀ j : Nat, j ≤ 3 → IntKind.i64.wrap (((4 * x : Nat) : Int) + (j : Int)) = ((4 * x + j : Nat) : Int) := fun j hj => by rw [wi (by omega) (by omega)]; omega
  have e41 := e1 1 (by decide)
  have e42 := e1 2 (by decide)
  have e43 := e1 3 (by decide)
  have b3 := btw y.h h (k := 3) (by decide)
  have b2 := btw y.h h (k := 2) (by decide)
  have b1 := btw y.h h (k := 1) (by decide)
  have b0 := btw0 y.h h
  have g0 := g 0 (by decide) (by omega)
  have g1 := g 1 (by decide) (by omega)
  have g2 := g 2 (by decide) (by omega)
  have g3 := g 3 (by decide) (by omega)
  have f0 := fill L (n := 32) (k := 4 * x + 0) hL (by omega)
  have f1 := fill L (n := 32) (k := 4 * x + 1) hL (by omega)
  have f2 := fill L (n := 32) (k := 4 * x + 2) hL (by omega)
  have f3 := fill L (n := 32) (k := 4 * x + 3) hL (by omega)
  rw [g0] at f0
  rw [g1] at f1
  rw [g2] at f2
  rw [g3] at f3
  change IntKind.u8.wrap (ishr .u32 (y.h.l.getD x 0) 24) = _ at b3
  change IntKind.u8.wrap (ishr .u32 (y.h.l.getD x 0) 16) = _ at b2
  change IntKind.u8.wrap (ishr .u32 (y.h.l.getD x 0) 8) = _ at b1
  change IntKind.i64.wrap (((4 * x : Nat) : Int) + 1) = _ at e41
  change IntKind.i64.wrap (((4 * x : Nat) : Int) + 2) = _ at e42
  change IntKind.i64.wrap (((4 * x : Nat) : Int) + 3) = _ at e43
  simp only [Nat.add_zero, Nat.sub_zero, Nat.sub_self, show 3 - 1 = 2 from rfl, show 3 - 2 = 1 from rfl] at f0 f1 f2 f3
  simp only [ew, e4, e41, e42, e43, Int.toNat_natCast, b3, b2, b1, b0, f0, f1, f2, f3]
  and_intros <;> first | rfl | omega | trivial
 ·rename_i h
  obtain rfl : x = 8 := by have := of_decide_eq_false h; omega
  rw [List.take_of_length_le (by omega)]
  show d32 (L ++ []) = d32 L
  rw [List.append_nil]
set_option maxRecDepth 100000 in
theorem m115 : Meets Tryd.prog 115 sp115 := by
 refine meets_of_owed (C := c115) ⟨tab_ok, lkS_ok ⟨m127, m128, trivial⟩⟩ (by kernel_rfl) (by kernel_rfl : Tryd.prog.funcs[115]? = some Tryd.f115) (by kernel_rfl) (by kernel_rfl) (by kernel_rfl) _ ?_
 rintro _ ⟨x, n, p, rfl, hb, hl, hn, hn2⟩
 refine ⟨fun _ => rfl, inv115 x n p, ?_⟩
 show owed c115 (inv115 x n p) Tryd.f115 [.ints .u32 x.l, u64 (n : Int), .str p] (d32 (fromL (ofR x.l) ((n : Int)).toNat p))
 rw [vc115, ofR_l, Int.toNat_natCast]
 have ew : IntKind.u64.wrap ((n : Int) + IntKind.u64.wrap (p.length : Int)) = (((n + p.length) % 18446744073709551616 : Nat) : Int) := by
  rw [w64, w64]; omega
 have ef : p ++ padL ((n + p.length) % 18446744073709551616) = fullL n p := rfl
 have hm : (fullL n p).length % 64 = 0 := mul64 n p hn
 have hmb : isBytes (fullL n p) := bytes_app hb (padL_bytes _)
 have hz := zc_lt ((n + p.length) % 18446744073709551616)
 have hpl := padL_len ((n + p.length) % 18446744073709551616)
 have hml : (fullL n p).length = p.length + (padL ((n + p.length) % 18446744073709551616)).length := List.length_append
 have hfr : fromL x n p = outL (fhK x (fullL n p) ((fullL n p).length / 64)) := rfl
 simp (decide := true) only [ew, ef, eq_self, true_and, and_true, ne_eq, not_false_eq_true, Int.toNat_natCast]
 have hk0 : fhK x (fullL n p) (0 / 64) = x := rfl
 rw [hk0]
 generalize hM : fullL n p = M at *
 refine ⟨⟨_, rfl, Nat.mod_lt _ (by decide)⟩, by omega, (by and_intros <;> first | rfl | trivial | omega), fun k hk => ?_⟩
 split
 ·rename_i h
  have h : 64 * k < M.length := by have := of_decide_eq_true h; omega
  have e1 : IntKind.i64.wrap (((64 * k : Nat) : Int) + 64) = ((64 * k + 64 : Nat) : Int) := by rw [wi (by omega) (by omega)]; omega
  have e2 : (64 * k + 64) / 64 = k + 1 := by omega
  have e3 : prL (fhK x M k).l (List.take 64 (List.drop (64 * k) M)) = (fhK x M (k + 1)).l := by
   unfold prL
   rw [ofR_l]
   rfl
  have e4 : List.drop (64 * k) (List.take (64 * k + 64) M) = List.take 64 (List.drop (64 * k) M) := by
   rw [List.drop_take, show 64 * k + 64 - 64 * k = 64 by omega]
  simp only [e1, Int.toNat_natCast, e2, e4, e3]
  refine ⟨by omega, ⟨_, _, rfl, bytes_take (bytes_drop hmb _) _, by rw [List.length_take, List.length_drop]; omega⟩, ?_, by omega, by omega⟩
  rw [show 64 * (k + 1) = 64 * k + 64 by omega]
  and_intros <;> first | rfl | trivial
 ·rename_i h
  obtain rfl : k = M.length / 64 := by have := of_decide_eq_false h; omega
  have hL : (fromL x n p).length = 32 := by rw [hfr]; exact outL_len _
  refine ⟨(by and_intros <;> first | rfl | trivial | omega), fun i hi => ?_⟩
  split
  ·rename_i h
   have h : i < 32 := by have := of_decide_eq_true h; omega
   have g := outL_get (fhK x M (M.length / 64)) h
   have f := fill (fromL x n p) hL h
   have d1 : ((i : Nat) : Int).tdiv 4 = ((i / 4 : Nat) : Int) := tdivN _ 4
   have d2 : ((i : Nat) : Int).tmod 4 = ((i % 4 : Nat) : Int) := tmodN _ 4
   have d3 : IntKind.i64.wrap ((i / 4 : Nat) : Int) = ((i / 4 : Nat) : Int) := by rw [wi (by omega) (by omega)]
   have d4 : IntKind.i64.wrap (24 - IntKind.i64.wrap (8 * ((i % 4 : Nat) : Int))) = ((8 * (3 - i % 4) : Nat) : Int) := by
    rw [wi (n := 8 * ((i % 4 : Nat) : Int)) (by omega) (by omega), wi (by omega) (by omega)]; omega
   have d5 : IntKind.i64.wrap ((i : Int) + 1) = ((i + 1 : Nat) : Int) := by rw [wi (by omega) (by omega)]; omega
   have d6 : (fhK x M (M.length / 64)).l.length = 8 := rfl
   have b := btw (fhK x M (M.length / 64)) (j := i / 4) (by omega) (k := 3 - i % 4) (by omega)
   rw [hfr, g] at f
   rw [hfr]
   simp only [d1, d2, d3, d4, d5, d6, Int.toNat_natCast, b, f]
   and_intros <;> first | rfl | omega | trivial
  ·rename_i h
   obtain rfl : i = 32 := by have := of_decide_eq_false h; omega
   rw [List.take_of_length_le (by omega)]
   show d32 (fromL x n p ++ []) = d32 (fromL x n p)
   rw [List.append_nil]
end Go.Proofs.YtkicjckhkefnpaaDoor
namespace Go.Proofs.YtkicjckhkefnpaaDoor
open Go Go.Vg
set_option maxRecDepth 100000 in
theorem m70 : Meets Tryd.prog 70 sp70 := by
 refine meets_of_owed (C := c70) ⟨tab_ok, lkS_ok ⟨m75, m76, m77, trivial⟩⟩ (by kernel_rfl) (by kernel_rfl : Tryd.prog.funcs[70]? = some Tryd.f70) (by kernel_rfl) (by kernel_rfl) (by kernel_rfl) _ ?_
 rintro _ ⟨p, rfl, hb, hl⟩
 refine ⟨fun _ => rfl, fun _ => none, ?_⟩
 show owed c70 (fun _ => none) Tryd.f70 [.ints .u8 p] (d32 (digL p))
 have e : ∀ s : HS, ofS (D.st [D.arr .u32 8 s.h.l, D.val (.int .u64 (s.n : Int)), D.arr .u8 64 s.l]) = s := ofS_eq
 rw [vc70]
 simp (decide := true) only [e, eq_self, true_and, and_true, ne_eq, not_false_eq_true, Int.toNat_natCast, sum_st0]
 exact ⟨⟨st0, p, rfl, st0_ok, hb, hl⟩, ⟨_, rfl, wr_ok p st0_ok hb⟩⟩
set_option maxRecDepth 100000 in
theorem m71 : Meets Tryd.prog 71 sp71 := by
 refine meets_of_owed (C := c71) ⟨tab_ok, lkS_ok ⟨m116, m115, trivial⟩⟩ (by kernel_rfl) (by kernel_rfl : Tryd.prog.funcs[71]? = some Tryd.f71) (by kernel_rfl) (by kernel_rfl) (by kernel_rfl) _ ?_
 rintro _ ⟨p, rfl, hb, hl⟩
 refine ⟨fun _ => rfl, fun _ => none, ?_⟩
 show owed c71 (fun _ => none) Tryd.f71 [.str p] (d32 (digL p))
 rw [vc71, ofR_l]
 simp (decide := true) only [eq_self, true_and, and_true, ne_eq, not_false_eq_true, Int.toNat_natCast]
 exact ⟨⟨iv, 0, p, rfl, hb, hl, rfl, by decide⟩, rfl⟩
end Go.Proofs.YtkicjckhkefnpaaDoor
namespace Go.Proofs.YtkicjckhkefnpaaDoor
open Go Go.Vg
theorem okAll3 {t : Tab} {n : Nat} {a b c : TypeId} : ∀ {ds : List D}, OkAll t n [a, b, c] ds → ∃ d e f, ds = [d, e, f] ∧ OkT t n a d ∧ OkT t n b e ∧ OkT t n c f
 | [], h => by cases h
 | [_], h => by cases h.2
 | [_, _], h => by cases h.2.2
 | [d, e, f], h => ⟨d, e, f, rfl, h.1, h.2.1, h.2.2.1⟩
 | _ :: _ :: _ :: _ :: _, h => by cases h.2.2.2
set_option maxRecDepth 100000 in
theorem ok26  (d : D)  :
    (OkT tab 8 26 d) = (
 ∃ (l : List Int), d = D.ints .u8 l ∧ (∀ (z : Int), z ∈ l → (0 : Int) ≤ z ∧ z ≤ IntKind.u8.max) ∧ l.length ≤ 9223372036854775807 ∧ l.length * 1 ≤ 140737488351232) := by kernel_rfl
theorem eqB_refl (l : List Int) : eqB l l = true := eqB_iff.2 rfl
theorem ofS' (s : HS) : ofS (D.st [D.arr .u32 8 s.h.l, D.val (.int .u64 (s.n : Int)), D.arr .u8 64 s.l]) = s := ofS_eq s
theorem bytes_of {d : D} {n : Nat} (h : OkT tab 8 26 d) (e : n = 1000000000000000) : ∃ l : List Int, d = .ints .u8 l ∧ isBytes l ∧ l.length ≤ 140737488351232 := by
 rw [ok26] at h
 obtain ⟨l, rfl, h1, _, h2⟩ := h
 refine ⟨l, rfl, fun x hx => ?_, by omega⟩
 have := h1 x hx
 have e : IntKind.u8.max = 255 := rfl
 rw [e] at this
 omega
theorem digL_len (p : List Int) : (digL p).length = 32 := outL_len _
theorem digL_bytes (p : List Int) : isBytes (digL p) := outL_bytes _
end Go.Proofs.YtkicjckhkefnpaaDoor
