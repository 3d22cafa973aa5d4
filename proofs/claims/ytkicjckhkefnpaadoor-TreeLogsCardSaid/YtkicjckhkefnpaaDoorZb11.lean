/- The types, as the steps ask of them; checked against the program by the kernel. Written by a program of this session. -/
import Derived.Test.YtkicjckhkefnpaaDoorZb7
import Derived.Test.YtkicjckhkefnpaaDoorProg
import Derived.KernelRfl
import Derived.Test.YtkicjckhkefnpaaDoorZb10
namespace Go.Proofs.YtkicjckhkefnpaaDoor
open Go Go.Vg

def tab : Tab := [
  ⟨.other, 0, 0, .val (.bool false), false⟩,
  ⟨.other, 1, 8, .val .nilFunc, false⟩,
  ⟨.int .i64, 1, 8, .val (.int .i64 0), false⟩,
  ⟨.int .i64, 1, 8, .val (.int .i64 0), false⟩,
  ⟨.bool, 1, 1, .val (.bool false), false⟩,
  ⟨.int .u8, 1, 1, .val (.int .u8 0), false⟩,
  ⟨.int .u8, 1, 1, .val (.int .u8 0), false⟩,
  ⟨.st [(0, 2), (1, 3), (2, 4), (3, 6)], 4, 24, .st [.val (.int .i64 0), .val (.int .i64 0), .val (.bool false), .val (.int .u8 0)], true⟩,
  ⟨.st [(0, 2), (1, 3), (2, 4), (3, 6)], 4, 24, .st [.val (.int .i64 0), .val (.int .i64 0), .val (.bool false), .val (.int .u8 0)], true⟩,
  ⟨.str, 1, 16, .str [], false⟩,
  ⟨.str, 1, 16, .str [], false⟩,
  ⟨.str, 1, 16, .str [], false⟩,
  ⟨.int .u64, 1, 8, .val (.int .u64 0), false⟩,
  ⟨.st [(0, 9), (1, 12)], 2, 24, .st [.str [], .val (.int .u64 0)], false⟩,
  ⟨.st [(0, 9), (1, 12)], 2, 24, .st [.str [], .val (.int .u64 0)], false⟩,
  ⟨.ptr 195, 1, 8, .val (.pointer none), false⟩,
  ⟨.ptr 198, 1, 8, .val (.pointer none), false⟩,
  ⟨.ptr 206, 1, 8, .val (.pointer none), false⟩,
  ⟨.st [(0, 17)], 1, 8, .st [.val (.pointer none)], false⟩,
  ⟨.st [(0, 17)], 1, 8, .st [.val (.pointer none)], false⟩,
  ⟨.other, 1, 16, .val .nilIface, false⟩,
  ⟨.int .i32, 1, 4, .val (.int .i32 0), false⟩,
  ⟨.slice 26, 1, 24, .slc 1 [], false⟩,
  ⟨.slice 28, 1, 24, .slc 32 [], false⟩,
  ⟨.st [(0, 3), (1, 23)], 2, 32, .st [.val (.int .i64 0), .slc 32 []], false⟩,
  ⟨.st [(0, 3), (1, 23)], 2, 32, .st [.val (.int .i64 0), .slc 32 []], false⟩,
  ⟨.slice 5, 1, 24, .ints .u8 [], false⟩,
  ⟨.other, 1, 8, .val .nilFunc, false⟩,
  ⟨.arr 32 5, 32, 32, .arr .u8 32 (List.replicate 32 0), false⟩,
  ⟨.other, 1, 8, .val .nilFunc, false⟩,
  ⟨.other, 1, 8, .val .nilFunc, false⟩,
  ⟨.other, 1, 8, .val .nilFunc, false⟩,
  ⟨.other, 1, 8, .val .nilFunc, false⟩,
  ⟨.other, 1, 8, .val .nilFunc, false⟩,
  ⟨.int .i64, 1, 8, .val (.int .i64 0), false⟩,
  ⟨.other, 1, 8, .val .nilFunc, false⟩,
  ⟨.other, 1, 8, .val .nilFunc, false⟩,
  ⟨.other, 0, 0, .val (.bool false), false⟩,
  ⟨.other, 1, 8, .val .nilFunc, false⟩,
  ⟨.other, 1, 8, .val .nilFunc, false⟩,
  ⟨.other, 1, 8, .val .nilFunc, false⟩,
  ⟨.other, 1, 8, .val .nilFunc, false⟩,
  ⟨.other, 1, 8, .val .nilFunc, false⟩,
  ⟨.st [(0, 28), (32, 3)], 33, 40, .st [.arr .u8 32 (List.replicate 32 0), .val (.int .i64 0)], true⟩,
  ⟨.st [(0, 28), (32, 3)], 33, 40, .st [.arr .u8 32 (List.replicate 32 0), .val (.int .i64 0)], true⟩,
  ⟨.ptr 122, 1, 8, .val (.pointer none), false⟩,
  ⟨.other, 0, 0, .val (.bool false), false⟩,
  ⟨.other, 1, 8, .val .nilFunc, false⟩,
  ⟨.other, 1, 8, .val .nilFunc, false⟩,
  ⟨.other, 1, 8, .val .nilFunc, false⟩,
  ⟨.other, 1, 8, .val .nilFunc, false⟩,
  ⟨.slice 56, 1, 24, .slc 3 [], false⟩,
  ⟨.other, 1, 8, .val .nilFunc, false⟩,
  ⟨.other, 1, 8, .val .nilFunc, false⟩,
  ⟨.other, 1, 8, .val .nilFunc, false⟩,
  ⟨.st [(0, 3), (1, 26), (2, 26)], 3, 56, .st [.val (.int .i64 0), .ints .u8 [], .ints .u8 []], false⟩,
  ⟨.st [(0, 3), (1, 26), (2, 26)], 3, 56, .st [.val (.int .i64 0), .ints .u8 [], .ints .u8 []], false⟩,
  ⟨.other, 1, 8, .val .nilFunc, false⟩,
  ⟨.other, 1, 8, .val .nilFunc, false⟩,
  ⟨.other, 0, 0, .val (.bool false), false⟩,
  ⟨.other, 1, 8, .val .nilFunc, false⟩,
  ⟨.slice 9, 1, 24, .slc 1 [], false⟩,
  ⟨.other, 0, 0, .val (.bool false), false⟩,
  ⟨.other, 1, 8, .val .nilFunc, false⟩,
  ⟨.other, 0, 0, .val (.bool false), false⟩,
  ⟨.other, 1, 8, .val .nilFunc, false⟩,
  ⟨.other, 0, 0, .val (.bool false), false⟩,
  ⟨.other, 1, 8, .val .nilFunc, false⟩,
  ⟨.other, 1, 8, .val .nilFunc, false⟩,
  ⟨.other, 1, 8, .val .nilFunc, false⟩,
  ⟨.slice 77, 1, 24, .slc 7 [], false⟩,
  ⟨.ptr 150, 1, 8, .val (.pointer none), false⟩,
  ⟨.other, 1, 8, .val .nilFunc, false⟩,
  ⟨.int .u64, 1, 8, .val (.int .u64 0), false⟩,
  ⟨.arr 4 73, 4, 32, .arr .u64 4 (List.replicate 4 0), false⟩,
  ⟨.arr 4 73, 4, 32, .arr .u64 4 (List.replicate 4 0), false⟩,
  ⟨.st [(0, 4), (1, 4), (2, 3), (3, 75)], 7, 48, .st [.val (.bool false), .val (.bool false), .val (.int .i64 0), .arr .u64 4 (List.replicate 4 0)], true⟩,
  ⟨.st [(0, 4), (1, 4), (2, 3), (3, 75)], 7, 48, .st [.val (.bool false), .val (.bool false), .val (.int .i64 0), .arr .u64 4 (List.replicate 4 0)], true⟩,
  ⟨.other, 0, 0, .val (.bool false), false⟩,
  ⟨.other, 1, 8, .val .nilFunc, false⟩,
  ⟨.other, 0, 0, .val (.bool false), false⟩,
  ⟨.other, 1, 8, .val .nilFunc, false⟩,
  ⟨.other, 1, 8, .val .nilFunc, false⟩,
  ⟨.other, 1, 8, .val .nilFunc, false⟩,
  ⟨.other, 1, 8, .val .nilFunc, false⟩,
  ⟨.other, 1, 8, .val .nilFunc, false⟩,
  ⟨.other, 1, 8, .val .nilFunc, false⟩,
  ⟨.arr 8 73, 8, 64, .arr .u64 8 (List.replicate 8 0), false⟩,
  ⟨.arr 8 73, 8, 64, .arr .u64 8 (List.replicate 8 0), false⟩,
  ⟨.slice 3, 1, 24, .ints .i64 [], false⟩,
  ⟨.other, 1, 8, .val .nilFunc, false⟩,
  ⟨.other, 1, 8, .val .nilFunc, false⟩,
  ⟨.other, 1, 8, .val .nilFunc, false⟩,
  ⟨.other, 1, 8, .val .nilFunc, false⟩,
  ⟨.other, 1, 8, .val .nilFunc, false⟩,
  ⟨.other, 1, 8, .val .nilFunc, false⟩,
  ⟨.other, 1, 8, .val .nilFunc, false⟩,
  ⟨.other, 1, 8, .val .nilFunc, false⟩,
  ⟨.other, 1, 8, .val .nilFunc, false⟩,
  ⟨.other, 1, 8, .val .nilFunc, false⟩,
  ⟨.other, 1, 8, .val .nilFunc, false⟩,
  ⟨.other, 1, 8, .val .nilFunc, false⟩,
  ⟨.other, 1, 8, .val .nilFunc, false⟩,
  ⟨.other, 1, 8, .val .nilFunc, false⟩,
  ⟨.slice 167, 1, 24, .slc 5 [], false⟩,
  ⟨.other, 0, 0, .val (.bool false), false⟩,
  ⟨.other, 1, 8, .val .nilFunc, false⟩,
  ⟨.other, 1, 8, .val .nilFunc, false⟩,
  ⟨.other, 1, 8, .val .nilFunc, false⟩,
  ⟨.other, 1, 8, .val .nilFunc, false⟩,
  ⟨.ptr 25, 1, 8, .val (.pointer none), false⟩,
  ⟨.other, 1, 8, .val .nilFunc, false⟩,
  ⟨.other, 1, 8, .val .nilFunc, false⟩,
  ⟨.int .u32, 1, 4, .val (.int .u32 0), false⟩,
  ⟨.arr 8 113, 8, 32, .arr .u32 8 (List.replicate 8 0), false⟩,
  ⟨.arr 64 5, 64, 64, .arr .u8 64 (List.replicate 64 0), false⟩,
  ⟨.st [(0, 114), (8, 73), (9, 115)], 73, 104, .st [.arr .u32 8 (List.replicate 8 0), .val (.int .u64 0), .arr .u8 64 (List.replicate 64 0)], true⟩,
  ⟨.st [(0, 114), (8, 73), (9, 115)], 73, 104, .st [.arr .u32 8 (List.replicate 8 0), .val (.int .u64 0), .arr .u8 64 (List.replicate 64 0)], true⟩,
  ⟨.other, 1, 8, .val .nilFunc, false⟩,
  ⟨.other, 1, 8, .val .nilFunc, false⟩,
  ⟨.other, 1, 8, .val .nilFunc, false⟩,
  ⟨.st [(0, 26), (1, 44)], 34, 64, .st [.ints .u8 [], .st [.arr .u8 32 (List.replicate 32 0), .val (.int .i64 0)]], false⟩,
  ⟨.st [(0, 26), (1, 44)], 34, 64, .st [.ints .u8 [], .st [.arr .u8 32 (List.replicate 32 0), .val (.int .i64 0)]], false⟩,
  ⟨.other, 1, 8, .val .nilFunc, false⟩,
  ⟨.st [(0, 117), (73, 117)], 146, 208, .st [.st [.arr .u32 8 (List.replicate 8 0), .val (.int .u64 0), .arr .u8 64 (List.replicate 64 0)], .st [.arr .u32 8 (List.replicate 8 0), .val (.int .u64 0), .arr .u8 64 (List.replicate 64 0)]], true⟩,
  ⟨.st [(0, 117), (73, 117)], 146, 208, .st [.st [.arr .u32 8 (List.replicate 8 0), .val (.int .u64 0), .arr .u8 64 (List.replicate 64 0)], .st [.arr .u32 8 (List.replicate 8 0), .val (.int .u64 0), .arr .u8 64 (List.replicate 64 0)]], true⟩,
  ⟨.other, 1, 8, .val .nilFunc, false⟩,
  ⟨.ptr 129, 1, 8, .val (.pointer none), false⟩,
  ⟨.st [(0, 26), (1, 28), (33, 22), (34, 3)], 35, 88, .st [.ints .u8 [], .arr .u8 32 (List.replicate 32 0), .slc 1 [], .val (.int .i64 0)], false⟩,
  ⟨.st [(0, 26), (1, 28), (33, 22), (34, 3)], 35, 88, .st [.ints .u8 [], .arr .u8 32 (List.replicate 32 0), .slc 1 [], .val (.int .i64 0)], false⟩,
  ⟨.st [(0, 5), (1, 26)], 2, 32, .st [.val (.int .u8 0), .ints .u8 []], false⟩,
  ⟨.st [(0, 5), (1, 26)], 2, 32, .st [.val (.int .u8 0), .ints .u8 []], false⟩,
  ⟨.other, 0, 0, .val (.bool false), false⟩,
  ⟨.other, 1, 8, .val .nilFunc, false⟩,
  ⟨.other, 0, 0, .val (.bool false), false⟩,
  ⟨.other, 1, 8, .val .nilFunc, false⟩,
  ⟨.other, 1, 8, .val .nilFunc, false⟩,
  ⟨.slice 131, 1, 24, .slc 2 [], false⟩,
  ⟨.other, 1, 8, .val .nilFunc, false⟩,
  ⟨.other, 1, 8, .val .nilFunc, false⟩,
  ⟨.other, 0, 0, .val (.bool false), false⟩,
  ⟨.other, 1, 8, .val .nilFunc, false⟩,
  ⟨.other, 1, 8, .val .nilFunc, false⟩,
  ⟨.other, 1, 8, .val .nilFunc, false⟩,
  ⟨.other, 1, 8, .val .nilFunc, false⟩,
  ⟨.other, 1, 8, .val .nilFunc, false⟩,
  ⟨.other, 1, 8, .val .nilFunc, false⟩,
  ⟨.other, 1, 8, .val .nilFunc, false⟩,
  ⟨.other, 1, 8, .val .nilFunc, false⟩,
  ⟨.st [(0, 125), (146, 73), (147, 28), (179, 4)], 180, 256, .st [.st [.st [.arr .u32 8 (List.replicate 8 0), .val (.int .u64 0), .arr .u8 64 (List.replicate 64 0)], .st [.arr .u32 8 (List.replicate 8 0), .val (.int .u64 0), .arr .u8 64 (List.replicate 64 0)]], .val (.int .u64 0), .arr .u8 32 (List.replicate 32 0), .val (.bool false)], true⟩,
  ⟨.st [(0, 125), (146, 73), (147, 28), (179, 4)], 180, 256, .st [.st [.st [.arr .u32 8 (List.replicate 8 0), .val (.int .u64 0), .arr .u8 64 (List.replicate 64 0)], .st [.arr .u32 8 (List.replicate 8 0), .val (.int .u64 0), .arr .u8 64 (List.replicate 64 0)]], .val (.int .u64 0), .arr .u8 32 (List.replicate 32 0), .val (.bool false)], true⟩,
  ⟨.other, 1, 8, .val .nilFunc, false⟩,
  ⟨.slice 73, 1, 24, .ints .u64 [], false⟩,
  ⟨.other, 1, 8, .val .nilFunc, false⟩,
  ⟨.other, 0, 0, .val (.bool false), false⟩,
  ⟨.other, 1, 8, .val .nilFunc, false⟩,
  ⟨.int .u64, 1, 8, .val (.int .u64 0), false⟩,
  ⟨.other, 1, 8, .val .nilFunc, false⟩,
  ⟨.other, 1, 8, .val .nilFunc, false⟩,
  ⟨.other, 1, 8, .val .nilFunc, false⟩,
  ⟨.other, 1, 8, .val .nilFunc, false⟩,
  ⟨.other, 1, 8, .val .nilFunc, false⟩,
  ⟨.other, 1, 8, .val .nilFunc, false⟩,
  ⟨.other, 1, 8, .val .nilFunc, false⟩,
  ⟨.slice 75, 1, 24, .slc 4 [], false⟩,
  ⟨.other, 1, 8, .val .nilFunc, false⟩,
  ⟨.st [(0, 3), (1, 75)], 5, 40, .st [.val (.int .i64 0), .arr .u64 4 (List.replicate 4 0)], true⟩,
  ⟨.st [(0, 3), (1, 75)], 5, 40, .st [.val (.int .i64 0), .arr .u64 4 (List.replicate 4 0)], true⟩,
  ⟨.slice 89, 1, 24, .slc 1 [], false⟩,
  ⟨.other, 1, 8, .val .nilFunc, false⟩,
  ⟨.slice 113, 1, 24, .ints .u32 [], false⟩,
  ⟨.other, 1, 8, .val .nilFunc, false⟩,
  ⟨.other, 1, 8, .val .nilFunc, false⟩,
  ⟨.other, 1, 8, .val .nilFunc, false⟩,
  ⟨.other, 1, 8, .val .nilFunc, false⟩,
  ⟨.other, 1, 8, .val .nilFunc, false⟩,
  ⟨.other, 0, 0, .val (.bool false), false⟩,
  ⟨.other, 1, 8, .val .nilFunc, false⟩,
  ⟨.other, 1, 8, .val .nilFunc, false⟩,
  ⟨.arr 8 5, 8, 8, .arr .u8 8 (List.replicate 8 0), false⟩,
  ⟨.other, 0, 0, .val (.bool false), false⟩,
  ⟨.other, 1, 8, .val .nilFunc, false⟩,
  ⟨.other, 1, 8, .val .nilFunc, false⟩,
  ⟨.other, 1, 8, .val .nilFunc, false⟩,
  ⟨.other, 1, 8, .val .nilFunc, false⟩,
  ⟨.arr 64 113, 64, 256, .arr .u32 64 (List.replicate 64 0), false⟩,
  ⟨.other, 1, 8, .val .nilFunc, false⟩,
  ⟨.other, 1, 8, .val .nilFunc, false⟩,
  ⟨.other, 0, 0, .val (.bool false), false⟩,
  ⟨.other, 1, 8, .val .nilFunc, false⟩,
  ⟨.other, 1, 8, .val .nilFunc, false⟩,
  ⟨.other, 1, 8, .val .nilFunc, false⟩,
  ⟨.other, 1, 8, .val .nilFunc, false⟩,
  ⟨.other, 1, 8, .val .nilFunc, false⟩,
  ⟨.st [(0, 17), (1, 17), (2, 17), (3, 9)], 4, 40, .st [.val (.pointer none), .val (.pointer none), .val (.pointer none), .str []], false⟩,
  ⟨.st [(0, 17), (1, 17), (2, 17), (3, 9)], 4, 40, .st [.val (.pointer none), .val (.pointer none), .val (.pointer none), .str []], false⟩,
  ⟨.other, 0, 0, .val (.bool false), false⟩,
  ⟨.other, 0, 0, .val (.bool false), false⟩,
  ⟨.other, 0, 0, .val (.bool false), false⟩,
  ⟨.int .u8, 1, 1, .val (.int .u8 0), false⟩,
  ⟨.int .u8, 1, 1, .val (.int .u8 0), false⟩,
  ⟨.other, 1, 8, .val .nilFunc, false⟩,
  ⟨.ptr 5, 1, 8, .val (.pointer none), false⟩,
  ⟨.int .i32, 1, 4, .val (.int .i32 0), false⟩,
  ⟨.int .i32, 1, 4, .val (.int .i32 0), false⟩,
  ⟨.st [(0, 12), (1, 12), (2, 113), (3, 199), (4, 5), (5, 5), (6, 200), (7, 201), (8, 202), (9, 203), (10, 204)], 11, 48, .st [.val (.int .u64 0), .val (.int .u64 0), .val (.int .u32 0), .val (.int .u8 0), .val (.int .u8 0), .val (.int .u8 0), .val (.int .u8 0), .val .nilFunc, .val (.pointer none), .val (.int .i32 0), .val (.int .i32 0)], false⟩,
  ⟨.st [(0, 12), (1, 12), (2, 113), (3, 199), (4, 5), (5, 5), (6, 200), (7, 201), (8, 202), (9, 203), (10, 204)], 11, 48, .st [.val (.int .u64 0), .val (.int .u64 0), .val (.int .u32 0), .val (.int .u8 0), .val (.int .u8 0), .val (.int .u8 0), .val (.int .u8 0), .val .nilFunc, .val (.pointer none), .val (.int .i32 0), .val (.int .i32 0)], false⟩,
  ⟨.other, 0, 0, .val (.bool false), false⟩]

theorem tab_ok : TabOk Tryd.prog tab := tabB_ok (by kernel_rfl)

end Go.Proofs.YtkicjckhkefnpaaDoor
/- package hash and its reference: words. -/
namespace Go.Proofs.YtkicjckhkefnpaaDoor
open Go Go.Vg

def rr (x : W) (n : Nat) : W := (x >>> n) ||| (x <<< (32 - n))
def sp136 : Go.Vg.Spec := ⟨fun ds => ∃ (x : W) (n : Nat), ds = [wd x, i64 (-(n : Int))] ∧ 1 ≤ n ∧ n ≤ 31, fun ds => wd (rr (toW (ds.headD default)) (-(numOf (ds.getD 1 default))).toNat), true, [113, 3]⟩
def sp130 : Go.Vg.Spec := ⟨fun ds => ∃ (x : W) (n : Nat), ds = [wd x, i64 (n : Int)] ∧ 1 ≤ n ∧ n ≤ 31, fun ds => wd (rr (toW (ds.headD default)) (numOf (ds.getD 1 default)).toNat), true, [113, 3]⟩
def sp133 : Go.Vg.Spec := ⟨fun ds => ∃ (x : W) (n : Nat), ds = [wd x, u64 (n : Int)] ∧ 1 ≤ n ∧ n ≤ 31, fun ds => wd (rr (toW (ds.headD default)) (numOf (ds.getD 1 default)).toNat), true, [113, 156]⟩
def chW (x y z : W) : W := (x &&& y) ^^^ (~~~x &&& z)
def mjW (x y z : W) : W := ((x &&& y) ^^^ (x &&& z)) ^^^ (y &&& z)
def sp134 : Go.Vg.Spec := ⟨fun ds => ∃ (x y z : W), ds = [wd x, wd y, wd z], fun ds => wd (chW (toW (ds.headD default)) (toW (ds.getD 1 default)) (toW (ds.getD 2 default))), true, [113, 113, 113]⟩
def sp135 : Go.Vg.Spec := ⟨fun ds => ∃ (x y z : W), ds = [wd x, wd y, wd z], fun ds => wd (mjW (toW (ds.headD default)) (toW (ds.getD 1 default)) (toW (ds.getD 2 default))), true, [113, 113, 113]⟩
def w4 (a b c d : Int) : W := BitVec.ofNat 32 (a.toNat * 16777216 + b.toNat * 65536 + c.toNat * 256 + d.toNat)
def wat (l : List Int) (i : Nat) : W := w4 (l.getD i 0) (l.getD (i + 1) 0) (l.getD (i + 2) 0) (l.getD (i + 3) 0)
def sp129 : Go.Vg.Spec := ⟨fun ds => ∃ l i, ds = [.ints .u8 l, i64 ((i : Nat) : Int)] ∧ isBytes l ∧ i + 3 < l.length ∧ i < 1000, fun ds => wd (wat (intsOf (ds.headD default)) (numOf (ds.getD 1 default)).toNat), true, [26, 3]⟩
def c0 : Ctx := ⟨tab, fun _ => none, [], []⟩
def c130 : Ctx := ⟨tab, lkS [(136, sp136)], [], []⟩
--KEEP rr Go.Vg.toW chW mjW w4 wat gl0 gl1 BitVec.toNat
set_option maxRecDepth 100000 in
theorem vc136  (x : W) (n : Nat) (F : D)  :
    (owed c0 (fun _ => none) Tryd.f136 [wd x, i64 (-(n : Int))] F) = (
 True ∧
   True ∧
    True ∧
     True ∧
      True ∧
       True ∧
        True ∧
         (0 : Int) ≤ iand IntKind.u64 (IntKind.u64.wrap (-(↑n : Int))) (31 : Int) ∧
          True ∧
           True ∧
            True ∧
             (0 : Int) ≤ IntKind.u64.wrap ((32 : Int) - iand IntKind.u64 (IntKind.u64.wrap (-(↑n : Int))) (31 : Int)) ∧
              True ∧ True ∧ (false = false ∧ True) ∧ D.val (Value.int IntKind.u32 (ior IntKind.u32 (ishl IntKind.u32 (↑(BitVec.toNat x) : Int) (iand IntKind.u64 (IntKind.u64.wrap (-(↑n : Int))) (31 : Int))) (ishr IntKind.u32 (↑(BitVec.toNat x) : Int) (IntKind.u64.wrap ((32 : Int) - iand IntKind.u64 (IntKind.u64.wrap (-(↑n : Int))) (31 : Int)))))) = F) := by kernel_rfl
set_option maxRecDepth 100000 in
theorem vc130  (x : W) (n : Nat) (F : D)  :
    (owed c130 (fun _ => none) Tryd.f130 [wd x, i64 (n : Int)] F) = (
 True ∧
   True ∧
    True ∧
     True ∧
      (∃ (x_1 : W), ∃ (n_1 : Nat), [D.val (Value.int IntKind.u32 (↑(BitVec.toNat x) : Int)), D.val (Value.int IntKind.i64 (IntKind.i64.wrap ((0 : Int) - (↑n : Int))))] = [D.val (Value.int IntKind.u32 (↑(BitVec.toNat x_1) : Int)), D.val (Value.int IntKind.i64 (-(↑n_1 : Int)))] ∧ (1 : Nat) ≤ n_1 ∧ n_1 ≤ (31 : Nat)) ∧
       True ∧ (false = false ∧ True) ∧ D.val (Value.int IntKind.u32 (↑(BitVec.toNat (rr (toW (D.val (Value.int IntKind.u32 (↑(BitVec.toNat x) : Int)))) (-IntKind.i64.wrap ((0 : Int) - (↑n : Int))).toNat)) : Int)) = F) := by kernel_rfl
set_option maxRecDepth 100000 in
theorem vc133  (x : W) (n : Nat) (F : D)  :
    (owed c0 (fun _ => none) Tryd.f133 [wd x, u64 (n : Int)] F) = (
 True ∧ True ∧ True ∧ (0 : Int) ≤ (↑n : Int) ∧ True ∧ True ∧ True ∧ (0 : Int) ≤ IntKind.u64.wrap ((32 : Int) - (↑n : Int)) ∧ True ∧ True ∧ (false = false ∧ True) ∧ D.val (Value.int IntKind.u32 (ior IntKind.u32 (ishr IntKind.u32 (↑(BitVec.toNat x) : Int) (↑n : Int)) (ishl IntKind.u32 (↑(BitVec.toNat x) : Int) (IntKind.u64.wrap ((32 : Int) - (↑n : Int)))))) = F) := by kernel_rfl
set_option maxRecDepth 100000 in
theorem vc134  (x y z : W) (F : D)  :
    (owed c0 (fun _ => none) Tryd.f134 [wd x, wd y, wd z] F) = (
 True ∧ True ∧ True ∧ True ∧ True ∧ True ∧ True ∧ True ∧ True ∧ (false = false ∧ True) ∧ D.val (Value.int IntKind.u32 (ixor IntKind.u32 (↑(BitVec.toNat z) : Int) (iand IntKind.u32 (↑(BitVec.toNat x) : Int) (ixor IntKind.u32 (↑(BitVec.toNat y) : Int) (↑(BitVec.toNat z) : Int))))) = F) := by kernel_rfl
set_option maxRecDepth 100000 in
theorem vc135  (x y z : W) (F : D)  :
    (owed c0 (fun _ => none) Tryd.f135 [wd x, wd y, wd z] F) = (
 True ∧ True ∧ True ∧ True ∧ True ∧ True ∧ True ∧ True ∧ True ∧ True ∧ True ∧ (false = false ∧ True) ∧ D.val (Value.int IntKind.u32 (ior IntKind.u32 (iand IntKind.u32 (↑(BitVec.toNat x) : Int) (↑(BitVec.toNat y) : Int)) (iand IntKind.u32 (↑(BitVec.toNat z) : Int) (ior IntKind.u32 (↑(BitVec.toNat x) : Int) (↑(BitVec.toNat y) : Int))))) = F) := by kernel_rfl
set_option maxRecDepth 100000 in
theorem vc129  (l : List Int) (i : Nat) (F : D)  :
    (owed c0 (fun _ => none) Tryd.f129 [.ints .u8 l, i64 (i : Int)] F) = (
 True ∧
   True ∧
    True ∧
     ((0 : Int) ≤ (↑i : Int) ∧ (↑i : Int) < (↑l.length : Int) ∧ (1 : Nat) = (1 : Nat)) ∧
      ((1 : Nat) ≠ (0 : Nat) ∧ (1 : Nat) = (1 : Nat) ∧ false = false) ∧
       True ∧
        (0 : Int) ≤ (24 : Int) ∧
         True ∧
          True ∧
           True ∧
            ((0 : Int) ≤ IntKind.i64.wrap ((↑i : Int) + (1 : Int)) ∧ IntKind.i64.wrap ((↑i : Int) + (1 : Int)) < (↑l.length : Int) ∧ (1 : Nat) = (1 : Nat)) ∧
             ((1 : Nat) ≠ (0 : Nat) ∧ (1 : Nat) = (1 : Nat) ∧ false = false) ∧
              True ∧
               (0 : Int) ≤ (16 : Int) ∧
                True ∧
                 True ∧
                  True ∧
                   True ∧
                    ((0 : Int) ≤ IntKind.i64.wrap ((↑i : Int) + (2 : Int)) ∧ IntKind.i64.wrap ((↑i : Int) + (2 : Int)) < (↑l.length : Int) ∧ (1 : Nat) = (1 : Nat)) ∧
                     ((1 : Nat) ≠ (0 : Nat) ∧ (1 : Nat) = (1 : Nat) ∧ false = false) ∧
                      True ∧
                       (0 : Int) ≤ (8 : Int) ∧
                        True ∧
                         True ∧
                          True ∧
                           True ∧
                            ((0 : Int) ≤ IntKind.i64.wrap ((↑i : Int) + (3 : Int)) ∧ IntKind.i64.wrap ((↑i : Int) + (3 : Int)) < (↑l.length : Int) ∧ (1 : Nat) = (1 : Nat)) ∧
                             ((1 : Nat) ≠ (0 : Nat) ∧ (1 : Nat) = (1 : Nat) ∧ false = false) ∧
                              True ∧
                               True ∧
                                True ∧
                                 (false = false ∧ True) ∧
                                  D.val
                                    (Value.int IntKind.u32
                                     (ior IntKind.u32
                                      (ior IntKind.u32 (ior IntKind.u32 (ishl IntKind.u32 (IntKind.u32.wrap (l.getD (↑i : Int).toNat (0 : Int))) (24 : Int)) (ishl IntKind.u32 (IntKind.u32.wrap (l.getD (IntKind.i64.wrap ((↑i : Int) + (1 : Int))).toNat (0 : Int))) (16 : Int)))
                                       (ishl IntKind.u32 (IntKind.u32.wrap (l.getD (IntKind.i64.wrap ((↑i : Int) + (2 : Int))).toNat (0 : Int))) (8 : Int)))
                                      (IntKind.u32.wrap (l.getD (IntKind.i64.wrap ((↑i : Int) + (3 : Int))).toNat (0 : Int))))) =
                                   F) := by kernel_rfl

theorem rr_eq (x : W) (n : Nat) : x <<< (32 - n) ||| x >>> n = rr x n := by unfold rr; exact BitVec.or_comm _ _
set_option maxRecDepth 100000 in
theorem m136 : Meets Tryd.prog 136 sp136 := by
  refine meets_of_owed (C := c0) ⟨tab_ok, fun f s h => by cases h⟩ (by kernel_rfl) (by kernel_rfl : Tryd.prog.funcs[136]? = some Tryd.f136) (by kernel_rfl) (by kernel_rfl) (by kernel_rfl) _ ?_
  rintro _ ⟨x, n, rfl, h1, h2⟩
  refine ⟨fun _ => rfl, fun _ => none, ?_⟩
  show owed c0 (fun _ => none) Tryd.f136 [wd x, i64 (-(n : Int))] (wd (rr (toW (wd x)) (-(-(n : Int))).toNat))
  rw [vc136, toW_wd, Int.neg_neg, Int.toNat_natCast]
  have e1 : iand .u64 (IntKind.u64.wrap (-(n : Int))) 31 = ((32 - n : Nat) : Int) := by
    rw [show IntKind.u64.wrap (-(n : Int)) = ((18446744073709551616 - n : Nat) : Int) by rw [w64]; omega, show (31 : Int) = ((31 : Nat) : Int) from rfl, iandN .u64 (show _ < 18446744073709551616 by omega) (show 31 < 18446744073709551616 by decide)]
    congr 1
    rw [show (31 : Nat) = 2 ^ 5 - 1 from rfl, Nat.and_two_pow_sub_one_eq_mod]
    omega
  have e2 : IntKind.u64.wrap (32 - ((32 - n : Nat) : Int)) = (n : Int) := by rw [w64]; omega
  rw [e1, e2, shlW x (by omega), shrW x (by omega), orW, rr_eq]
  and_intros <;> first | rfl | omega | trivial

set_option maxRecDepth 100000 in
theorem m130 : Meets Tryd.prog 130 sp130 := by
  refine meets_of_owed (C := c130) ⟨tab_ok, lkS_ok ⟨m136, trivial⟩⟩ (by kernel_rfl) (by kernel_rfl : Tryd.prog.funcs[130]? = some Tryd.f130) (by kernel_rfl) (by kernel_rfl) (by kernel_rfl) _ ?_
  rintro _ ⟨x, n, rfl, h1, h2⟩
  refine ⟨fun _ => rfl, fun _ => none, ?_⟩
  show owed c130 (fun _ => none) Tryd.f130 [wd x, i64 (n : Int)] (wd (rr (toW (wd x)) ((n : Int)).toNat))
  rw [vc130]
  have e : IntKind.i64.wrap (0 - (n : Int)) = -(n : Int) := by rw [wi (by omega) (by omega)]; omega
  rw [e, Int.neg_neg]
  simp only [true_and, and_true]
  exact ⟨x, n, rfl, h1, h2⟩

set_option maxRecDepth 100000 in
theorem m133 : Meets Tryd.prog 133 sp133 := by
  refine meets_of_owed (C := c0) ⟨tab_ok, fun f s h => by cases h⟩ (by kernel_rfl) (by kernel_rfl : Tryd.prog.funcs[133]? = some Tryd.f133) (by kernel_rfl) (by kernel_rfl) (by kernel_rfl) _ ?_
  rintro _ ⟨x, n, rfl, h1, h2⟩
  refine ⟨fun _ => rfl, fun _ => none, ?_⟩
  show owed c0 (fun _ => none) Tryd.f133 [wd x, u64 (n : Int)] (wd (rr (toW (wd x)) ((n : Int)).toNat))
  rw [vc133, toW_wd, Int.toNat_natCast]
  rw [show IntKind.u64.wrap (32 - (n : Int)) = ((32 - n : Nat) : Int) by rw [w64]; omega, shlW x (by omega), shrW x (by omega), orW, ← rr_eq, BitVec.or_comm]
  and_intros <;> first | rfl | omega | trivial

theorem ch_eq (x y z : W) : z ^^^ (x &&& (y ^^^ z)) = chW x y z := by
  unfold chW
  ext i hi
  simp only [BitVec.getElem_xor, BitVec.getElem_and, BitVec.getElem_not]
  cases x[i] <;> cases y[i] <;> cases z[i] <;> rfl
theorem mj_eq (x y z : W) : (x &&& y) ||| (z &&& (x ||| y)) = mjW x y z := by
  unfold mjW
  ext i hi
  simp only [BitVec.getElem_xor, BitVec.getElem_and, BitVec.getElem_or]
  cases x[i] <;> cases y[i] <;> cases z[i] <;> rfl

set_option maxRecDepth 100000 in
theorem m134 : Meets Tryd.prog 134 sp134 := by
  refine meets_of_owed (C := c0) ⟨tab_ok, fun f s h => by cases h⟩ (by kernel_rfl) (by kernel_rfl : Tryd.prog.funcs[134]? = some Tryd.f134) (by kernel_rfl) (by kernel_rfl) (by kernel_rfl) _ ?_
  rintro _ ⟨x, y, z, rfl⟩
  refine ⟨fun _ => rfl, fun _ => none, ?_⟩
  show owed c0 (fun _ => none) Tryd.f134 [wd x, wd y, wd z] (wd (chW (toW (wd x)) (toW (wd y)) (toW (wd z))))
  rw [vc134, toW_wd, toW_wd, toW_wd, xorW, andW, xorW, ch_eq]
  and_intros <;> first | rfl | omega | trivial

set_option maxRecDepth 100000 in
theorem m135 : Meets Tryd.prog 135 sp135 := by
  refine meets_of_owed (C := c0) ⟨tab_ok, fun f s h => by cases h⟩ (by kernel_rfl) (by kernel_rfl : Tryd.prog.funcs[135]? = some Tryd.f135) (by kernel_rfl) (by kernel_rfl) (by kernel_rfl) _ ?_
  rintro _ ⟨x, y, z, rfl⟩
  refine ⟨fun _ => rfl, fun _ => none, ?_⟩
  show owed c0 (fun _ => none) Tryd.f135 [wd x, wd y, wd z] (wd (mjW (toW (wd x)) (toW (wd y)) (toW (wd z))))
  rw [vc135, toW_wd, toW_wd, toW_wd, orW, andW, andW, orW, mj_eq]
  and_intros <;> first | rfl | omega | trivial

theorem byte_at {l : List Int} (h : isBytes l) {i : Nat} (hi : i < l.length) : ∃ b : Nat, l.getD i 0 = (b : Int) ∧ b < 256 := by
  have := h (l.getD i 0) (by rw [List.getD_eq_getElem?_getD, List.getElem?_eq_getElem hi]; exact List.getElem_mem hi)
  exact ⟨(l.getD i 0).toNat, by omega, by omega⟩
theorem or_add {a b k : Nat} (hb : b < 2 ^ k) (ha : a % 2 ^ k = 0) : a ||| b = a + b := by
  have e : a = 2 ^ k * (a / 2 ^ k) := by have := Nat.div_add_mod a (2 ^ k); omega
  rw [e, Nat.two_pow_add_eq_or_of_lt hb]
theorem w4_eq {a b c d : Nat} (ha : a < 256) (hb : b < 256) (hc : c < 256) (hd : d < 256) :
    ior .u32 (ior .u32 (ior .u32 (ishl .u32 (IntKind.u32.wrap (a : Int)) 24) (ishl .u32 (IntKind.u32.wrap (b : Int)) 16)) (ishl .u32 (IntKind.u32.wrap (c : Int)) 8)) (IntKind.u32.wrap (d : Int)) = ((w4 a b c d).toNat : Int) := by
  have k : kb .u32 = 4294967296 := rfl
  have sh : ∀ (x m : Nat), x < 256 → m ≤ 24 → ishl .u32 (IntKind.u32.wrap (x : Int)) (m : Int) = ((x * 2 ^ m : Nat) : Int) := by
    intro x m hx hm
    have : x * 2 ^ m < 4294967296 := by
      have : 2 ^ m ≤ 2 ^ 24 := Nat.pow_le_pow_right (by decide) hm
      have h2 : x * 2 ^ m ≤ 255 * 2 ^ 24 := Nat.mul_le_mul (by omega) this
      omega
    rw [wrapN .u32 (by rw [k]; omega), ishlN .u32 (by show m ≤ 32; omega), wrapN .u32 (by rw [k]; exact this)]
  rw [show (24 : Int) = ((24 : Nat) : Int) from rfl, show (16 : Int) = ((16 : Nat) : Int) from rfl, show (8 : Int) = ((8 : Nat) : Int) from rfl,
    sh a 24 ha (by decide), sh b 16 hb (by decide), sh c 8 hc (by decide), wrapN .u32 (n := d) (by rw [k]; omega)]
  have o1 : a * 2 ^ 24 ||| b * 2 ^ 16 = a * 2 ^ 24 + b * 2 ^ 16 := or_add (k := 24) (by omega) (by omega)
  have o2 : (a * 2 ^ 24 + b * 2 ^ 16) ||| c * 2 ^ 8 = a * 2 ^ 24 + b * 2 ^ 16 + c * 2 ^ 8 := or_add (k := 16) (by omega) (by omega)
  have o3 : (a * 2 ^ 24 + b * 2 ^ 16 + c * 2 ^ 8) ||| d = a * 2 ^ 24 + b * 2 ^ 16 + c * 2 ^ 8 + d := or_add (k := 8) (by omega) (by omega)
  rw [iorN .u32 (by rw [k]; omega) (by rw [k]; omega), o1, iorN .u32 (by rw [k]; omega) (by rw [k]; omega), o2, iorN .u32 (by rw [k]; omega) (by rw [k]; omega), o3]
  unfold w4
  rw [Int.toNat_natCast, Int.toNat_natCast, Int.toNat_natCast, Int.toNat_natCast, ofW _ (by omega)]

set_option maxRecDepth 100000 in
theorem m129 : Meets Tryd.prog 129 sp129 := by
  refine meets_of_owed (C := c0) ⟨tab_ok, fun f s h => by cases h⟩ (by kernel_rfl) (by kernel_rfl : Tryd.prog.funcs[129]? = some Tryd.f129) (by kernel_rfl) (by kernel_rfl) (by kernel_rfl) _ ?_
  rintro _ ⟨l, i, rfl, hb, hi, hi2⟩
  refine ⟨fun _ => rfl, fun _ => none, ?_⟩
  show owed c0 (fun _ => none) Tryd.f129 [.ints .u8 l, i64 (i : Int)] (wd (wat l ((i : Int)).toNat))
  rw [vc129]
  have e1 : IntKind.i64.wrap ((i : Int) + 1) = ((i + 1 : Nat) : Int) := by rw [wi (by omega) (by omega)]; omega
  have e2 : IntKind.i64.wrap ((i : Int) + 2) = ((i + 2 : Nat) : Int) := by rw [wi (by omega) (by omega)]; omega
  have e3 : IntKind.i64.wrap ((i : Int) + 3) = ((i + 3 : Nat) : Int) := by rw [wi (by omega) (by omega)]; omega
  rw [e1, e2, e3, Int.toNat_natCast, Int.toNat_natCast, Int.toNat_natCast, Int.toNat_natCast]
  unfold wat
  obtain ⟨a, ea, ha⟩ := byte_at hb (i := i) (by omega)
  obtain ⟨b, eb, hbb⟩ := byte_at hb (i := i + 1) (by omega)
  obtain ⟨c, ec, hc⟩ := byte_at hb (i := i + 2) (by omega)
  obtain ⟨d, ed, hd⟩ := byte_at hb (i := i + 3) (by omega)
  rw [ea, eb, ec, ed, w4_eq ha hbb hc hd]
  and_intros <;> first | rfl | omega | trivial

end Go.Proofs.YtkicjckhkefnpaaDoor
/- package hash: press; the reference: block. -/
namespace Go.Proofs.YtkicjckhkefnpaaDoor
open Go Go.Vg

structure R8 where
  a : W
  b : W
  c : W
  d : W
  e : W
  f : W
  g : W
  h : W
def R8.l (x : R8) : List Int := [(x.a.toNat : Int), (x.b.toNat : Int), (x.c.toNat : Int), (x.d.toNat : Int), (x.e.toNat : Int), (x.f.toNat : Int), (x.g.toNat : Int), (x.h.toNat : Int)]
def sA (x : W) : W := (rr x 7 ^^^ rr x 18) ^^^ (x >>> 3)
def sB (x : W) : W := (rr x 17 ^^^ rr x 19) ^^^ (x >>> 10)
def sC (x : W) : W := (rr x 6 ^^^ rr x 11) ^^^ rr x 25
def sD (x : W) : W := (rr x 2 ^^^ rr x 13) ^^^ rr x 22
/-- The words of the schedule, newest first. -/
def wsR (l : List Int) : Nat → List W
  | 0 => []
  | t + 1 => (if t < 16 then wat l (4 * t) else (((wsR l t).getD 15 0 + sA ((wsR l t).getD 14 0)) + (wsR l t).getD 6 0) + sB ((wsR l t).getD 1 0)) :: wsR l t
def wn (l : List Int) (t : Nat) : W := (wsR l (t + 1)).getD 0 0
def wl (l : List Int) (n : Nat) : List Int := (List.range n).map fun t => ((wn l t).toNat : Int)
def kW (t : Nat) : W := BitVec.ofInt 32 (gl0.getD t 0)
def rdS (x : R8) (k w : W) : R8 :=
  let one := (((x.h + sC x.e) + chW x.e x.f x.g) + k) + w
  let two := sD x.a + mjW x.a x.b x.c
  ⟨one + two, x.a, x.b, x.c, x.d + one, x.e, x.f, x.g⟩
def rd (x : R8) (l : List Int) : Nat → R8
  | 0 => x
  | t + 1 => rdS (rd x l t) (kW t) (wn l t)
def add8 (x v : R8) : R8 := ⟨x.a + v.a, x.b + v.b, x.c + v.c, x.d + v.d, x.e + v.e, x.f + v.f, x.g + v.g, x.h + v.h⟩
def pr (x : R8) (l : List Int) : R8 := add8 x (rd x l 64)
def mixL (x : R8) (l : List Int) (i : Nat) : List Int := (pr x l).l.take i ++ x.l.drop i
def ofR (d : List Int) : R8 := ⟨BitVec.ofInt 32 (d.getD 0 0), BitVec.ofInt 32 (d.getD 1 0), BitVec.ofInt 32 (d.getD 2 0), BitVec.ofInt 32 (d.getD 3 0), BitVec.ofInt 32 (d.getD 4 0), BitVec.ofInt 32 (d.getD 5 0), BitVec.ofInt 32 (d.getD 6 0), BitVec.ofInt 32 (d.getD 7 0)⟩
def prL (h l : List Int) : List Int := (pr (ofR h) l).l
abbrev a8 (l : List Int) : D := .arr .u32 8 l
def sp117 : Go.Vg.Spec := ⟨fun ds => ∃ (x : R8) (l : List Int), ds = [a8 x.l, .arr .u8 64 l] ∧ isBytes l ∧ l.length = 64, fun ds => a8 (prL (arrOf (ds.headD default)) (arrOf (ds.getD 1 default))), true, [114, 115]⟩
def sp128 : Go.Vg.Spec := ⟨fun ds => ∃ (x : R8) (l : List Int), ds = [.ints .u32 x.l, .str l] ∧ isBytes l ∧ l.length = 64, fun ds => .ints .u32 (prL (intsOf (ds.headD default)) (strOf (ds.getD 1 default))), false, [170, 9]⟩
def c117 : Ctx := ⟨tab, lkS [(129, sp129), (130, sp130)], [], []⟩
def c128 : Ctx := ⟨tab, lkS [(133, sp133), (134, sp134), (135, sp135)], [24], []⟩
def inv117 (x : R8) (l : List Int) : Nat → Option Inv
  | 3 => some ⟨Nat, fun i => [(20, .d (i64 i))], fun i => [(5, .fix (.arr .u32 64 (wl l i ++ List.replicate (64 - i) 0)))], fun s => (slotN s 20).toNat, fun _ i => i ≤ 64, fun i => 64 - i⟩
  | 12 => some ⟨Nat, fun i => [(70, .d (i64 i))], fun i => [(9, .fix (a8 (rd x l i).l))], fun s => (slotN s 70).toNat, fun _ i => i ≤ 64, fun i => 64 - i⟩
  | 20 => some ⟨Nat, fun i => [(148, .d (i64 i))], fun i => [(2, .fix (a8 (mixL x l i)))], fun s => (slotN s 148).toNat, fun _ i => i ≤ 8, fun i => 8 - i⟩
  | _ => none
--KEEP rr Go.Vg.toW chW mjW w4 wat gl0 gl1 BitVec.toNat wl wn rd mixL prL pr kW Go.Vg.gl0 Go.Vg.gl1
set_option maxRecDepth 100000 in
theorem vc117  (x : R8) (l : List Int) (F : D)  :
    (owed c117 (inv117 x l) Tryd.f117 [a8 x.l, .arr .u8 64 l] F) = (
 (True ∧ false = false) ∧
   (True ∧ false = false) ∧
    (True ∧ (8 : Nat) ≠ (0 : Nat)) ∧
     (True ∧ (64 : Nat) ≠ (0 : Nat)) ∧
      True ∧
       (((AV.d (D.val (Value.int IntKind.i64 (0 : Int))) = AV.d (D.val (Value.int IntKind.i64 (↑(Int.toNat (0 : Int)) : Int))) ∧ True) ∧
          (some (Blk.fix (D.arr IntKind.u32 (8 : Nat) [(↑(BitVec.toNat x.a) : Int), (↑(BitVec.toNat x.b) : Int), (↑(BitVec.toNat x.c) : Int), (↑(BitVec.toNat x.d) : Int), (↑(BitVec.toNat x.e) : Int), (↑(BitVec.toNat x.f) : Int), (↑(BitVec.toNat x.g) : Int), (↑(BitVec.toNat x.h) : Int)])) =
             some (Blk.fix (D.arr IntKind.u32 (8 : Nat) [(↑(BitVec.toNat x.a) : Int), (↑(BitVec.toNat x.b) : Int), (↑(BitVec.toNat x.c) : Int), (↑(BitVec.toNat x.d) : Int), (↑(BitVec.toNat x.e) : Int), (↑(BitVec.toNat x.f) : Int), (↑(BitVec.toNat x.g) : Int), (↑(BitVec.toNat x.h) : Int)])) ∧
            some (Blk.fix (D.arr IntKind.u8 (64 : Nat) l)) = some (Blk.fix (D.arr IntKind.u8 (64 : Nat) l)) ∧
             some (Blk.fix (D.arr IntKind.u32 (8 : Nat) [(0 : Int), (0 : Int), (0 : Int), (0 : Int), (0 : Int), (0 : Int), (0 : Int), (0 : Int)])) = some (Blk.fix (D.arr IntKind.u32 (8 : Nat) [(0 : Int), (0 : Int), (0 : Int), (0 : Int), (0 : Int), (0 : Int), (0 : Int), (0 : Int)])) ∧
              some
                 (Blk.fix
                  (D.arr IntKind.u32 (64 : Nat)
                   (List.replicate (64 : Nat) (0 : Int)))) =
                some
                 (Blk.fix
                  (D.arr IntKind.u32 (64 : Nat)
                   (wl l (Int.toNat (0 : Int)) ++
                    (List.replicate (64 : Nat) (0 : Int))))) ∧
               True) ∧
           true = true) ∧
         Int.toNat (0 : Int) ≤ (64 : Nat)) ∧
        ∀ (x_1 : Nat),
         x_1 ≤ (64 : Nat) →
          true = true ∧
           True ∧
            match decide ((↑x_1 : Int) < (64 : Int)) with
            | true =>
             True ∧
              True ∧
               True ∧
                True ∧
                 match decide ((↑x_1 : Int) < (16 : Int)) with
                 | true =>
                  True ∧
                   ((0 : Int) ≤ (0 : Int) ∧ (0 : Int) ≤ (↑(64 : Nat) : Int) ∧ (↑(64 : Nat) : Int) ≤ (↑(64 : Nat) : Int) ∧ (64 : Nat) = (64 : Nat) ∧ (1 : Nat) = (1 : Nat)) ∧
                    True ∧
                     True ∧
                      (∃ (l_1 : List Int), ∃ (i : Nat), [D.ints IntKind.u8 (List.take ((↑(64 : Nat) : Int).toNat - Int.toNat (0 : Int)) (List.drop (0 : Nat) l)), D.val (Value.int IntKind.i64 (IntKind.i64.wrap ((4 : Int) * (↑x_1 : Int))))] = [D.ints IntKind.u8 l_1, D.val (Value.int IntKind.i64 (↑i : Int))] ∧ isBytes l_1 ∧ i + (3 : Nat) < l_1.length ∧ i < (1000 : Nat)) ∧
                       ((0 : Int) ≤ (↑x_1 : Int) ∧ (↑x_1 : Int) < (↑(64 : Nat) : Int) ∧ (64 : Nat) = (64 : Nat) ∧ (1 : Nat) = (1 : Nat)) ∧
                        (((↑x_1 : Int).toNat < (64 : Nat) ∧ ([] : List Nat) = [] ∧ true = true) ∧ (1 : Nat) ≠ (0 : Nat) ∧ (1 : Nat) = (1 : Nat) ∧ false = false) ∧
                         True ∧
                          True ∧
                           ((AV.d (D.val (Value.int IntKind.i64 (IntKind.i64.wrap ((↑x_1 : Int) + (1 : Int))))) = AV.d (D.val (Value.int IntKind.i64 (↑(IntKind.i64.wrap ((↑x_1 : Int) + (1 : Int))).toNat : Int))) ∧ True) ∧
                             (some (Blk.fix (D.arr IntKind.u32 (8 : Nat) [(↑(BitVec.toNat x.a) : Int), (↑(BitVec.toNat x.b) : Int), (↑(BitVec.toNat x.c) : Int), (↑(BitVec.toNat x.d) : Int), (↑(BitVec.toNat x.e) : Int), (↑(BitVec.toNat x.f) : Int), (↑(BitVec.toNat x.g) : Int), (↑(BitVec.toNat x.h) : Int)])) =
                                some (Blk.fix (D.arr IntKind.u32 (8 : Nat) [(↑(BitVec.toNat x.a) : Int), (↑(BitVec.toNat x.b) : Int), (↑(BitVec.toNat x.c) : Int), (↑(BitVec.toNat x.d) : Int), (↑(BitVec.toNat x.e) : Int), (↑(BitVec.toNat x.f) : Int), (↑(BitVec.toNat x.g) : Int), (↑(BitVec.toNat x.h) : Int)])) ∧
                               some (Blk.fix (D.arr IntKind.u8 (64 : Nat) l)) = some (Blk.fix (D.arr IntKind.u8 (64 : Nat) l)) ∧
                                some (Blk.fix (D.arr IntKind.u32 (8 : Nat) [(0 : Int), (0 : Int), (0 : Int), (0 : Int), (0 : Int), (0 : Int), (0 : Int), (0 : Int)])) = some (Blk.fix (D.arr IntKind.u32 (8 : Nat) [(0 : Int), (0 : Int), (0 : Int), (0 : Int), (0 : Int), (0 : Int), (0 : Int), (0 : Int)])) ∧
                                 some (Blk.fix (D.arr IntKind.u32 (64 : Nat) ((wl l x_1 ++ List.replicate ((64 : Nat) - x_1) (0 : Int)).set (↑x_1 : Int).toNat (↑(BitVec.toNat (wat (List.take ((↑(64 : Nat) : Int).toNat - Int.toNat (0 : Int)) (List.drop (0 : Nat) l)) (IntKind.i64.wrap ((4 : Int) * (↑x_1 : Int))).toNat)) : Int)))) =
                                   some (Blk.fix (D.arr IntKind.u32 (64 : Nat) (wl l (IntKind.i64.wrap ((↑x_1 : Int) + (1 : Int))).toNat ++ List.replicate ((64 : Nat) - (IntKind.i64.wrap ((↑x_1 : Int) + (1 : Int))).toNat) (0 : Int)))) ∧
                                  True) ∧
                              true = true) ∧
                            (IntKind.i64.wrap ((↑x_1 : Int) + (1 : Int))).toNat ≤ (64 : Nat) ∧ (64 : Nat) - (IntKind.i64.wrap ((↑x_1 : Int) + (1 : Int))).toNat < (64 : Nat) - x_1
                 | false =>
                  True ∧
                   True ∧
                    ((0 : Int) ≤ IntKind.i64.wrap ((↑x_1 : Int) - (15 : Int)) ∧ IntKind.i64.wrap ((↑x_1 : Int) - (15 : Int)) < (↑(64 : Nat) : Int) ∧ (64 : Nat) = (64 : Nat) ∧ (1 : Nat) = (1 : Nat)) ∧
                     ((1 : Nat) ≠ (0 : Nat) ∧ (1 : Nat) = (1 : Nat) ∧ false = false) ∧
                      True ∧
                       True ∧
                        ((0 : Int) ≤ IntKind.i64.wrap ((↑x_1 : Int) - (2 : Int)) ∧ IntKind.i64.wrap ((↑x_1 : Int) - (2 : Int)) < (↑(64 : Nat) : Int) ∧ (64 : Nat) = (64 : Nat) ∧ (1 : Nat) = (1 : Nat)) ∧
                         ((1 : Nat) ≠ (0 : Nat) ∧ (1 : Nat) = (1 : Nat) ∧ false = false) ∧
                          True ∧
                           True ∧
                            True ∧
                             True ∧
                              True ∧
                               ((0 : Int) ≤ IntKind.i64.wrap ((↑x_1 : Int) - (16 : Int)) ∧ IntKind.i64.wrap ((↑x_1 : Int) - (16 : Int)) < (↑(64 : Nat) : Int) ∧ (64 : Nat) = (64 : Nat) ∧ (1 : Nat) = (1 : Nat)) ∧
                                ((1 : Nat) ≠ (0 : Nat) ∧ (1 : Nat) = (1 : Nat) ∧ false = false) ∧
                                 True ∧
                                  (∃ (x : W),
                                    ∃ (n : Nat),
                                     [D.val (Value.int IntKind.u32 ((wl l x_1 ++ List.replicate ((64 : Nat) - x_1) (0 : Int)).getD (IntKind.i64.wrap ((↑x_1 : Int) - (15 : Int))).toNat (0 : Int))), D.val (Value.int IntKind.i64 (7 : Int))] = [D.val (Value.int IntKind.u32 (↑(BitVec.toNat x) : Int)), D.val (Value.int IntKind.i64 (↑n : Int))] ∧
                                      (1 : Nat) ≤ n ∧ n ≤ (31 : Nat)) ∧
                                   True ∧
                                    (∃ (x : W),
                                      ∃ (n : Nat),
                                       [D.val (Value.int IntKind.u32 ((wl l x_1 ++ List.replicate ((64 : Nat) - x_1) (0 : Int)).getD (IntKind.i64.wrap ((↑x_1 : Int) - (15 : Int))).toNat (0 : Int))), D.val (Value.int IntKind.i64 (18 : Int))] = [D.val (Value.int IntKind.u32 (↑(BitVec.toNat x) : Int)), D.val (Value.int IntKind.i64 (↑n : Int))] ∧
                                        (1 : Nat) ≤ n ∧ n ≤ (31 : Nat)) ∧
                                     True ∧
                                      True ∧
                                       (0 : Int) ≤ (3 : Int) ∧
                                        True ∧
                                         True ∧
                                          True ∧
                                           True ∧
                                            ((0 : Int) ≤ IntKind.i64.wrap ((↑x_1 : Int) - (7 : Int)) ∧ IntKind.i64.wrap ((↑x_1 : Int) - (7 : Int)) < (↑(64 : Nat) : Int) ∧ (64 : Nat) = (64 : Nat) ∧ (1 : Nat) = (1 : Nat)) ∧
                                             ((1 : Nat) ≠ (0 : Nat) ∧ (1 : Nat) = (1 : Nat) ∧ false = false) ∧
                                              True ∧
                                               True ∧
                                                (∃ (x : W),
                                                  ∃ (n : Nat),
                                                   [D.val (Value.int IntKind.u32 ((wl l x_1 ++ List.replicate ((64 : Nat) - x_1) (0 : Int)).getD (IntKind.i64.wrap ((↑x_1 : Int) - (2 : Int))).toNat (0 : Int))), D.val (Value.int IntKind.i64 (17 : Int))] =
                                                     [D.val (Value.int IntKind.u32 (↑(BitVec.toNat x) : Int)), D.val (Value.int IntKind.i64 (↑n : Int))] ∧
                                                    (1 : Nat) ≤ n ∧ n ≤ (31 : Nat)) ∧
                                                 True ∧
                                                  (∃ (x : W),
                                                    ∃ (n : Nat),
                                                     [D.val (Value.int IntKind.u32 ((wl l x_1 ++ List.replicate ((64 : Nat) - x_1) (0 : Int)).getD (IntKind.i64.wrap ((↑x_1 : Int) - (2 : Int))).toNat (0 : Int))), D.val (Value.int IntKind.i64 (19 : Int))] =
                                                       [D.val (Value.int IntKind.u32 (↑(BitVec.toNat x) : Int)), D.val (Value.int IntKind.i64 (↑n : Int))] ∧
                                                      (1 : Nat) ≤ n ∧ n ≤ (31 : Nat)) ∧
                                                   True ∧
                                                    True ∧
                                                     (0 : Int) ≤ (10 : Int) ∧
                                                      True ∧
                                                       True ∧
                                                        ((0 : Int) ≤ (↑x_1 : Int) ∧ (↑x_1 : Int) < (↑(64 : Nat) : Int) ∧ (64 : Nat) = (64 : Nat) ∧ (1 : Nat) = (1 : Nat)) ∧
                                                         (((↑x_1 : Int).toNat < (64 : Nat) ∧ ([] : List Nat) = [] ∧ true = true) ∧ (1 : Nat) ≠ (0 : Nat) ∧ (1 : Nat) = (1 : Nat) ∧ false = false) ∧
                                                          True ∧
                                                           True ∧
                                                            ((AV.d (D.val (Value.int IntKind.i64 (IntKind.i64.wrap ((↑x_1 : Int) + (1 : Int))))) = AV.d (D.val (Value.int IntKind.i64 (↑(IntKind.i64.wrap ((↑x_1 : Int) + (1 : Int))).toNat : Int))) ∧ True) ∧
                                                              (some
                                                                  (Blk.fix
                                                                   (D.arr IntKind.u32 (8 : Nat) [(↑(BitVec.toNat x.a) : Int), (↑(BitVec.toNat x.b) : Int), (↑(BitVec.toNat x.c) : Int), (↑(BitVec.toNat x.d) : Int), (↑(BitVec.toNat x.e) : Int), (↑(BitVec.toNat x.f) : Int), (↑(BitVec.toNat x.g) : Int), (↑(BitVec.toNat x.h) : Int)])) =
                                                                 some
                                                                  (Blk.fix
                                                                   (D.arr IntKind.u32 (8 : Nat) [(↑(BitVec.toNat x.a) : Int), (↑(BitVec.toNat x.b) : Int), (↑(BitVec.toNat x.c) : Int), (↑(BitVec.toNat x.d) : Int), (↑(BitVec.toNat x.e) : Int), (↑(BitVec.toNat x.f) : Int), (↑(BitVec.toNat x.g) : Int), (↑(BitVec.toNat x.h) : Int)])) ∧
                                                                some (Blk.fix (D.arr IntKind.u8 (64 : Nat) l)) = some (Blk.fix (D.arr IntKind.u8 (64 : Nat) l)) ∧
                                                                 some (Blk.fix (D.arr IntKind.u32 (8 : Nat) [(0 : Int), (0 : Int), (0 : Int), (0 : Int), (0 : Int), (0 : Int), (0 : Int), (0 : Int)])) = some (Blk.fix (D.arr IntKind.u32 (8 : Nat) [(0 : Int), (0 : Int), (0 : Int), (0 : Int), (0 : Int), (0 : Int), (0 : Int), (0 : Int)])) ∧
                                                                  some
                                                                     (Blk.fix
                                                                      (D.arr IntKind.u32 (64 : Nat)
                                                                       ((wl l x_1 ++ List.replicate ((64 : Nat) - x_1) (0 : Int)).set (↑x_1 : Int).toNat
                                                                        (IntKind.u32.wrap
                                                                         (IntKind.u32.wrap
                                                                           (IntKind.u32.wrap
                                                                             ((wl l x_1 ++ List.replicate ((64 : Nat) - x_1) (0 : Int)).getD (IntKind.i64.wrap ((↑x_1 : Int) - (16 : Int))).toNat (0 : Int) +
                                                                              ixor IntKind.u32
                                                                               (ixor IntKind.u32 (↑(BitVec.toNat (rr (toW (D.val (Value.int IntKind.u32 ((wl l x_1 ++ List.replicate ((64 : Nat) - x_1) (0 : Int)).getD (IntKind.i64.wrap ((↑x_1 : Int) - (15 : Int))).toNat (0 : Int))))) (7 : Nat))) : Int)
                                                                                (↑(BitVec.toNat (rr (toW (D.val (Value.int IntKind.u32 ((wl l x_1 ++ List.replicate ((64 : Nat) - x_1) (0 : Int)).getD (IntKind.i64.wrap ((↑x_1 : Int) - (15 : Int))).toNat (0 : Int))))) (18 : Nat))) : Int))
                                                                               (ishr IntKind.u32 ((wl l x_1 ++ List.replicate ((64 : Nat) - x_1) (0 : Int)).getD (IntKind.i64.wrap ((↑x_1 : Int) - (15 : Int))).toNat (0 : Int)) (3 : Int))) +
                                                                            (wl l x_1 ++ List.replicate ((64 : Nat) - x_1) (0 : Int)).getD (IntKind.i64.wrap ((↑x_1 : Int) - (7 : Int))).toNat (0 : Int)) +
                                                                          ixor IntKind.u32
                                                                           (ixor IntKind.u32 (↑(BitVec.toNat (rr (toW (D.val (Value.int IntKind.u32 ((wl l x_1 ++ List.replicate ((64 : Nat) - x_1) (0 : Int)).getD (IntKind.i64.wrap ((↑x_1 : Int) - (2 : Int))).toNat (0 : Int))))) (17 : Nat))) : Int)
                                                                            (↑(BitVec.toNat (rr (toW (D.val (Value.int IntKind.u32 ((wl l x_1 ++ List.replicate ((64 : Nat) - x_1) (0 : Int)).getD (IntKind.i64.wrap ((↑x_1 : Int) - (2 : Int))).toNat (0 : Int))))) (19 : Nat))) : Int))
                                                                           (ishr IntKind.u32 ((wl l x_1 ++ List.replicate ((64 : Nat) - x_1) (0 : Int)).getD (IntKind.i64.wrap ((↑x_1 : Int) - (2 : Int))).toNat (0 : Int)) (10 : Int))))))) =
                                                                    some (Blk.fix (D.arr IntKind.u32 (64 : Nat) (wl l (IntKind.i64.wrap ((↑x_1 : Int) + (1 : Int))).toNat ++ List.replicate ((64 : Nat) - (IntKind.i64.wrap ((↑x_1 : Int) + (1 : Int))).toNat) (0 : Int)))) ∧
                                                                   True) ∧
                                                               true = true) ∧
                                                             (IntKind.i64.wrap ((↑x_1 : Int) + (1 : Int))).toNat ≤ (64 : Nat) ∧ (64 : Nat) - (IntKind.i64.wrap ((↑x_1 : Int) + (1 : Int))).toNat < (64 : Nat) - x_1
            | false =>
             ((8 : Nat) ≠ (0 : Nat) ∧ (8 : Nat) = (8 : Nat) ∧ true = true) ∧
              (True ∧ (8 : Nat) ≠ (0 : Nat)) ∧
               (Sk.arr (8 : Nat) = Sk.arr (8 : Nat) ∧ (8 : Nat) ≠ (0 : Nat) ∧ (8 : Nat) = (8 : Nat) ∧ false = false) ∧
                True ∧
                 (((AV.d (D.val (Value.int IntKind.i64 (0 : Int))) = AV.d (D.val (Value.int IntKind.i64 (↑(Int.toNat (0 : Int)) : Int))) ∧ True) ∧
                    (some (Blk.fix (D.arr IntKind.u32 (8 : Nat) [(↑(BitVec.toNat x.a) : Int), (↑(BitVec.toNat x.b) : Int), (↑(BitVec.toNat x.c) : Int), (↑(BitVec.toNat x.d) : Int), (↑(BitVec.toNat x.e) : Int), (↑(BitVec.toNat x.f) : Int), (↑(BitVec.toNat x.g) : Int), (↑(BitVec.toNat x.h) : Int)])) =
                       some (Blk.fix (D.arr IntKind.u32 (8 : Nat) [(↑(BitVec.toNat x.a) : Int), (↑(BitVec.toNat x.b) : Int), (↑(BitVec.toNat x.c) : Int), (↑(BitVec.toNat x.d) : Int), (↑(BitVec.toNat x.e) : Int), (↑(BitVec.toNat x.f) : Int), (↑(BitVec.toNat x.g) : Int), (↑(BitVec.toNat x.h) : Int)])) ∧
                      some (Blk.fix (D.arr IntKind.u8 (64 : Nat) l)) = some (Blk.fix (D.arr IntKind.u8 (64 : Nat) l)) ∧
                       some (Blk.fix (D.arr IntKind.u32 (8 : Nat) [(0 : Int), (0 : Int), (0 : Int), (0 : Int), (0 : Int), (0 : Int), (0 : Int), (0 : Int)])) = some (Blk.fix (D.arr IntKind.u32 (8 : Nat) [(0 : Int), (0 : Int), (0 : Int), (0 : Int), (0 : Int), (0 : Int), (0 : Int), (0 : Int)])) ∧
                        some (Blk.fix (D.arr IntKind.u32 (64 : Nat) (wl l x_1 ++ List.replicate ((64 : Nat) - x_1) (0 : Int)))) = some (Blk.fix (D.arr IntKind.u32 (64 : Nat) (wl l x_1 ++ List.replicate ((64 : Nat) - x_1) (0 : Int)))) ∧
                         some (Blk.fix (D.arr IntKind.u32 (8 : Nat) [(↑(BitVec.toNat x.a) : Int), (↑(BitVec.toNat x.b) : Int), (↑(BitVec.toNat x.c) : Int), (↑(BitVec.toNat x.d) : Int), (↑(BitVec.toNat x.e) : Int), (↑(BitVec.toNat x.f) : Int), (↑(BitVec.toNat x.g) : Int), (↑(BitVec.toNat x.h) : Int)])) =
                           some
                            (Blk.fix
                             (D.arr IntKind.u32 (8 : Nat)
                              [(↑(BitVec.toNat (rd x l (Int.toNat (0 : Int))).a) : Int), (↑(BitVec.toNat (rd x l (Int.toNat (0 : Int))).b) : Int), (↑(BitVec.toNat (rd x l (Int.toNat (0 : Int))).c) : Int), (↑(BitVec.toNat (rd x l (Int.toNat (0 : Int))).d) : Int), (↑(BitVec.toNat (rd x l (Int.toNat (0 : Int))).e) : Int),
                               (↑(BitVec.toNat (rd x l (Int.toNat (0 : Int))).f) : Int), (↑(BitVec.toNat (rd x l (Int.toNat (0 : Int))).g) : Int), (↑(BitVec.toNat (rd x l (Int.toNat (0 : Int))).h) : Int)])) ∧
                          True) ∧
                     true = true) ∧
                   Int.toNat (0 : Int) ≤ (64 : Nat)) ∧
                  ∀ (x_2 : Nat),
                   x_2 ≤ (64 : Nat) →
                    true = true ∧
                     True ∧
                      match decide ((↑x_2 : Int) < (64 : Int)) with
                      | true =>
                       True ∧
                        True ∧
                         ((0 : Int) ≤ (0 : Int) ∧ (0 : Int) < (↑(8 : Nat) : Int) ∧ (8 : Nat) = (8 : Nat) ∧ (1 : Nat) = (1 : Nat)) ∧
                          ((1 : Nat) ≠ (0 : Nat) ∧ (1 : Nat) = (1 : Nat) ∧ false = false) ∧
                           ((0 : Int) ≤ (1 : Int) ∧ (1 : Int) < (↑(8 : Nat) : Int) ∧ (8 : Nat) = (8 : Nat) ∧ (1 : Nat) = (1 : Nat)) ∧
                            ((1 : Nat) ≠ (0 : Nat) ∧ (1 : Nat) = (1 : Nat) ∧ false = false) ∧
                             ((0 : Int) ≤ (2 : Int) ∧ (2 : Int) < (↑(8 : Nat) : Int) ∧ (8 : Nat) = (8 : Nat) ∧ (1 : Nat) = (1 : Nat)) ∧
                              ((1 : Nat) ≠ (0 : Nat) ∧ (1 : Nat) = (1 : Nat) ∧ false = false) ∧
                               ((0 : Int) ≤ (4 : Int) ∧ (4 : Int) < (↑(8 : Nat) : Int) ∧ (8 : Nat) = (8 : Nat) ∧ (1 : Nat) = (1 : Nat)) ∧
                                ((1 : Nat) ≠ (0 : Nat) ∧ (1 : Nat) = (1 : Nat) ∧ false = false) ∧
                                 ((0 : Int) ≤ (5 : Int) ∧ (5 : Int) < (↑(8 : Nat) : Int) ∧ (8 : Nat) = (8 : Nat) ∧ (1 : Nat) = (1 : Nat)) ∧
                                  ((1 : Nat) ≠ (0 : Nat) ∧ (1 : Nat) = (1 : Nat) ∧ false = false) ∧
                                   ((0 : Int) ≤ (6 : Int) ∧ (6 : Int) < (↑(8 : Nat) : Int) ∧ (8 : Nat) = (8 : Nat) ∧ (1 : Nat) = (1 : Nat)) ∧
                                    ((1 : Nat) ≠ (0 : Nat) ∧ (1 : Nat) = (1 : Nat) ∧ false = false) ∧
                                     True ∧
                                      True ∧
                                       True ∧
                                        True ∧
                                         True ∧
                                          True ∧
                                           ((0 : Int) ≤ (7 : Int) ∧ (7 : Int) < (↑(8 : Nat) : Int) ∧ (8 : Nat) = (8 : Nat) ∧ (1 : Nat) = (1 : Nat)) ∧
                                            ((1 : Nat) ≠ (0 : Nat) ∧ (1 : Nat) = (1 : Nat) ∧ false = false) ∧
                                             True ∧
                                              (∃ (x_3 : W), ∃ (n : Nat), [D.val (Value.int IntKind.u32 (↑(BitVec.toNat (rd x l x_2).e) : Int)), D.val (Value.int IntKind.i64 (6 : Int))] = [D.val (Value.int IntKind.u32 (↑(BitVec.toNat x_3) : Int)), D.val (Value.int IntKind.i64 (↑n : Int))] ∧ (1 : Nat) ≤ n ∧ n ≤ (31 : Nat)) ∧
                                               True ∧
                                                (∃ (x_3 : W), ∃ (n : Nat), [D.val (Value.int IntKind.u32 (↑(BitVec.toNat (rd x l x_2).e) : Int)), D.val (Value.int IntKind.i64 (11 : Int))] = [D.val (Value.int IntKind.u32 (↑(BitVec.toNat x_3) : Int)), D.val (Value.int IntKind.i64 (↑n : Int))] ∧ (1 : Nat) ≤ n ∧ n ≤ (31 : Nat)) ∧
                                                 True ∧
                                                  True ∧
                                                   (∃ (x_3 : W), ∃ (n : Nat), [D.val (Value.int IntKind.u32 (↑(BitVec.toNat (rd x l x_2).e) : Int)), D.val (Value.int IntKind.i64 (25 : Int))] = [D.val (Value.int IntKind.u32 (↑(BitVec.toNat x_3) : Int)), D.val (Value.int IntKind.i64 (↑n : Int))] ∧ (1 : Nat) ≤ n ∧ n ≤ (31 : Nat)) ∧
                                                    True ∧
                                                     True ∧
                                                      True ∧
                                                       True ∧
                                                        True ∧
                                                         True ∧
                                                          True ∧
                                                           True ∧
                                                            True ∧
                                                             True ∧
                                                              True ∧
                                                               True ∧
                                                                ((0 : Int) ≤ (↑x_2 : Int) ∧ (↑x_2 : Int) < (↑(64 : Nat) : Int) ∧ (64 : Nat) = (64 : Nat) ∧ (1 : Nat) = (1 : Nat)) ∧
                                                                 ((1 : Nat) ≠ (0 : Nat) ∧ (1 : Nat) = (1 : Nat) ∧ false = false) ∧
                                                                  True ∧
                                                                   True ∧
                                                                    ((0 : Int) ≤ (↑x_2 : Int) ∧ (↑x_2 : Int) < (↑(64 : Nat) : Int) ∧ (64 : Nat) = (64 : Nat) ∧ (1 : Nat) = (1 : Nat)) ∧
                                                                     ((1 : Nat) ≠ (0 : Nat) ∧ (1 : Nat) = (1 : Nat) ∧ false = false) ∧
                                                                      True ∧
                                                                       True ∧
                                                                        True ∧
                                                                         (∃ (x_3 : W),
                                                                           ∃ (n : Nat),
                                                                            [D.val (Value.int IntKind.u32 (↑(BitVec.toNat (rd x l x_2).a) : Int)), D.val (Value.int IntKind.i64 (2 : Int))] = [D.val (Value.int IntKind.u32 (↑(BitVec.toNat x_3) : Int)), D.val (Value.int IntKind.i64 (↑n : Int))] ∧
                                                                             (1 : Nat) ≤ n ∧ n ≤ (31 : Nat)) ∧
                                                                          True ∧
                                                                           (∃ (x_3 : W),
                                                                             ∃ (n : Nat),
                                                                              [D.val (Value.int IntKind.u32 (↑(BitVec.toNat (rd x l x_2).a) : Int)), D.val (Value.int IntKind.i64 (13 : Int))] = [D.val (Value.int IntKind.u32 (↑(BitVec.toNat x_3) : Int)), D.val (Value.int IntKind.i64 (↑n : Int))] ∧
                                                                               (1 : Nat) ≤ n ∧ n ≤ (31 : Nat)) ∧
                                                                            True ∧
                                                                             True ∧
                                                                              (∃ (x_3 : W),
                                                                                ∃ (n : Nat),
                                                                                 [D.val (Value.int IntKind.u32 (↑(BitVec.toNat (rd x l x_2).a) : Int)), D.val (Value.int IntKind.i64 (22 : Int))] = [D.val (Value.int IntKind.u32 (↑(BitVec.toNat x_3) : Int)), D.val (Value.int IntKind.i64 (↑n : Int))] ∧
                                                                                  (1 : Nat) ≤ n ∧ n ≤ (31 : Nat)) ∧
                                                                               True ∧
                                                                                True ∧
                                                                                 True ∧
                                                                                  True ∧
                                                                                   True ∧
                                                                                    True ∧
                                                                                     True ∧
                                                                                      True ∧
                                                                                       True ∧
                                                                                        True ∧
                                                                                         True ∧
                                                                                          True ∧
                                                                                           True ∧
                                                                                            True ∧
                                                                                             True ∧
                                                                                              True ∧
                                                                                               True ∧
                                                                                                True ∧
                                                                                                 True ∧
                                                                                                  True ∧
                                                                                                   ((0 : Int) ≤ (3 : Int) ∧ (3 : Int) < (↑(8 : Nat) : Int) ∧ (8 : Nat) = (8 : Nat) ∧ (1 : Nat) = (1 : Nat)) ∧
                                                                                                    ((1 : Nat) ≠ (0 : Nat) ∧ (1 : Nat) = (1 : Nat) ∧ false = false) ∧
                                                                                                     True ∧
                                                                                                      True ∧
                                                                                                       True ∧
                                                                                                        True ∧
                                                                                                         True ∧
                                                                                                          ((1 : Nat) = (1 : Nat) ∧
                                                                                                            false = false ∧
                                                                                                             ((0 : Nat) < (8 : Nat) ∧ ([] : List Nat) = [] ∧ true = true) ∧
                                                                                                              false = false ∧
                                                                                                               ((1 : Nat) < (8 : Nat) ∧ ([] : List Nat) = [] ∧ true = true) ∧
                                                                                                                false = false ∧
                                                                                                                 ((2 : Nat) < (8 : Nat) ∧ ([] : List Nat) = [] ∧ true = true) ∧
                                                                                                                  false = false ∧
                                                                                                                   ((3 : Nat) < (8 : Nat) ∧ ([] : List Nat) = [] ∧ true = true) ∧
                                                                                                                    false = false ∧
                                                                                                                     ((4 : Nat) < (8 : Nat) ∧ ([] : List Nat) = [] ∧ true = true) ∧
                                                                                                                      false = false ∧
                                                                                                                       ((5 : Nat) < (8 : Nat) ∧ ([] : List Nat) = [] ∧ true = true) ∧
                                                                                                                        false = false ∧ ((6 : Nat) < (8 : Nat) ∧ ([] : List Nat) = [] ∧ true = true) ∧ false = false ∧ ((7 : Nat) < (8 : Nat) ∧ ([] : List Nat) = [] ∧ true = true) ∧ True) ∧
                                                                                                           (Sk.arr (8 : Nat) = Sk.arr (8 : Nat) ∧ (8 : Nat) ≠ (0 : Nat) ∧ (8 : Nat) = (8 : Nat) ∧ false = false) ∧
                                                                                                            True ∧
                                                                                                             True ∧
                                                                                                              ((AV.d (D.val (Value.int IntKind.i64 (IntKind.i64.wrap ((↑x_2 : Int) + (1 : Int))))) =
                                                                                                                  AV.d (D.val (Value.int IntKind.i64 (↑(IntKind.i64.wrap ((↑x_2 : Int) + (1 : Int))).toNat : Int))) ∧
                                                                                                                 True) ∧
                                                                                                                (some
                                                                                                                    (Blk.fix
                                                                                                                     (D.arr IntKind.u32 (8 : Nat)
                                                                                                                      [(↑(BitVec.toNat x.a) : Int), (↑(BitVec.toNat x.b) : Int), (↑(BitVec.toNat x.c) : Int), (↑(BitVec.toNat x.d) : Int), (↑(BitVec.toNat x.e) : Int),
                                                                                                                       (↑(BitVec.toNat x.f) : Int), (↑(BitVec.toNat x.g) : Int), (↑(BitVec.toNat x.h) : Int)])) =
                                                                                                                   some
                                                                                                                    (Blk.fix
                                                                                                                     (D.arr IntKind.u32 (8 : Nat)
                                                                                                                      [(↑(BitVec.toNat x.a) : Int), (↑(BitVec.toNat x.b) : Int), (↑(BitVec.toNat x.c) : Int), (↑(BitVec.toNat x.d) : Int), (↑(BitVec.toNat x.e) : Int),
                                                                                                                       (↑(BitVec.toNat x.f) : Int), (↑(BitVec.toNat x.g) : Int), (↑(BitVec.toNat x.h) : Int)])) ∧
                                                                                                                  some (Blk.fix (D.arr IntKind.u8 (64 : Nat) l)) = some (Blk.fix (D.arr IntKind.u8 (64 : Nat) l)) ∧
                                                                                                                   some (Blk.fix (D.arr IntKind.u32 (8 : Nat) [(0 : Int), (0 : Int), (0 : Int), (0 : Int), (0 : Int), (0 : Int), (0 : Int), (0 : Int)])) =
                                                                                                                     some (Blk.fix (D.arr IntKind.u32 (8 : Nat) [(0 : Int), (0 : Int), (0 : Int), (0 : Int), (0 : Int), (0 : Int), (0 : Int), (0 : Int)])) ∧
                                                                                                                    some (Blk.fix (D.arr IntKind.u32 (64 : Nat) (wl l x_1 ++ List.replicate ((64 : Nat) - x_1) (0 : Int)))) =
                                                                                                                      some (Blk.fix (D.arr IntKind.u32 (64 : Nat) (wl l x_1 ++ List.replicate ((64 : Nat) - x_1) (0 : Int)))) ∧
                                                                                                                     some
                                                                                                                        (Blk.fix
                                                                                                                         (D.arr IntKind.u32 (8 : Nat)
                                                                                                                          [IntKind.u32.wrap
                                                                                                                            (IntKind.u32.wrap
                                                                                                                              (IntKind.u32.wrap
                                                                                                                                (IntKind.u32.wrap
                                                                                                                                  (IntKind.u32.wrap
                                                                                                                                    ((↑(BitVec.toNat (rd x l x_2).h) : Int) +
                                                                                                                                     ixor IntKind.u32
                                                                                                                                      (ixor IntKind.u32 (↑(BitVec.toNat (rr (toW (D.val (Value.int IntKind.u32 (↑(BitVec.toNat (rd x l x_2).e) : Int)))) (6 : Nat))) : Int)
                                                                                                                                       (↑(BitVec.toNat (rr (toW (D.val (Value.int IntKind.u32 (↑(BitVec.toNat (rd x l x_2).e) : Int)))) (11 : Nat))) : Int))
                                                                                                                                      (↑(BitVec.toNat (rr (toW (D.val (Value.int IntKind.u32 (↑(BitVec.toNat (rd x l x_2).e) : Int)))) (25 : Nat))) : Int)) +
                                                                                                                                   ixor IntKind.u32 (iand IntKind.u32 (↑(BitVec.toNat (rd x l x_2).e) : Int) (↑(BitVec.toNat (rd x l x_2).f) : Int))
                                                                                                                                    (iand IntKind.u32 (ixor IntKind.u32 IntKind.u32.max (↑(BitVec.toNat (rd x l x_2).e) : Int)) (↑(BitVec.toNat (rd x l x_2).g) : Int))) +
                                                                                                                                 gl0.getD (↑x_2 : Int).toNat (0 : Int)) +
                                                                                                                               (wl l x_1 ++ List.replicate ((64 : Nat) - x_1) (0 : Int)).getD (↑x_2 : Int).toNat (0 : Int)) +
                                                                                                                             IntKind.u32.wrap
                                                                                                                              (ixor IntKind.u32
                                                                                                                                (ixor IntKind.u32 (↑(BitVec.toNat (rr (toW (D.val (Value.int IntKind.u32 (↑(BitVec.toNat (rd x l x_2).a) : Int)))) (2 : Nat))) : Int)
                                                                                                                                 (↑(BitVec.toNat (rr (toW (D.val (Value.int IntKind.u32 (↑(BitVec.toNat (rd x l x_2).a) : Int)))) (13 : Nat))) : Int))
                                                                                                                                (↑(BitVec.toNat (rr (toW (D.val (Value.int IntKind.u32 (↑(BitVec.toNat (rd x l x_2).a) : Int)))) (22 : Nat))) : Int) +
                                                                                                                               ixor IntKind.u32
                                                                                                                                (ixor IntKind.u32 (iand IntKind.u32 (↑(BitVec.toNat (rd x l x_2).a) : Int) (↑(BitVec.toNat (rd x l x_2).b) : Int))
                                                                                                                                 (iand IntKind.u32 (↑(BitVec.toNat (rd x l x_2).a) : Int) (↑(BitVec.toNat (rd x l x_2).c) : Int)))
                                                                                                                                (iand IntKind.u32 (↑(BitVec.toNat (rd x l x_2).b) : Int) (↑(BitVec.toNat (rd x l x_2).c) : Int)))),
                                                                                                                           (↑(BitVec.toNat (rd x l x_2).a) : Int), (↑(BitVec.toNat (rd x l x_2).b) : Int), (↑(BitVec.toNat (rd x l x_2).c) : Int),
                                                                                                                           IntKind.u32.wrap
                                                                                                                            ((↑(BitVec.toNat (rd x l x_2).d) : Int) +
                                                                                                                             IntKind.u32.wrap
                                                                                                                              (IntKind.u32.wrap
                                                                                                                                (IntKind.u32.wrap
                                                                                                                                  (IntKind.u32.wrap
                                                                                                                                    ((↑(BitVec.toNat (rd x l x_2).h) : Int) +
                                                                                                                                     ixor IntKind.u32
                                                                                                                                      (ixor IntKind.u32 (↑(BitVec.toNat (rr (toW (D.val (Value.int IntKind.u32 (↑(BitVec.toNat (rd x l x_2).e) : Int)))) (6 : Nat))) : Int)
                                                                                                                                       (↑(BitVec.toNat (rr (toW (D.val (Value.int IntKind.u32 (↑(BitVec.toNat (rd x l x_2).e) : Int)))) (11 : Nat))) : Int))
                                                                                                                                      (↑(BitVec.toNat (rr (toW (D.val (Value.int IntKind.u32 (↑(BitVec.toNat (rd x l x_2).e) : Int)))) (25 : Nat))) : Int)) +
                                                                                                                                   ixor IntKind.u32 (iand IntKind.u32 (↑(BitVec.toNat (rd x l x_2).e) : Int) (↑(BitVec.toNat (rd x l x_2).f) : Int))
                                                                                                                                    (iand IntKind.u32 (ixor IntKind.u32 IntKind.u32.max (↑(BitVec.toNat (rd x l x_2).e) : Int)) (↑(BitVec.toNat (rd x l x_2).g) : Int))) +
                                                                                                                                 gl0.getD (↑x_2 : Int).toNat (0 : Int)) +
                                                                                                                               (wl l x_1 ++ List.replicate ((64 : Nat) - x_1) (0 : Int)).getD (↑x_2 : Int).toNat (0 : Int))),
                                                                                                                           (↑(BitVec.toNat (rd x l x_2).e) : Int), (↑(BitVec.toNat (rd x l x_2).f) : Int), (↑(BitVec.toNat (rd x l x_2).g) : Int)])) =
                                                                                                                       some
                                                                                                                        (Blk.fix
                                                                                                                         (D.arr IntKind.u32 (8 : Nat)
                                                                                                                          [(↑(BitVec.toNat (rd x l (IntKind.i64.wrap ((↑x_2 : Int) + (1 : Int))).toNat).a) : Int),
                                                                                                                           (↑(BitVec.toNat (rd x l (IntKind.i64.wrap ((↑x_2 : Int) + (1 : Int))).toNat).b) : Int),
                                                                                                                           (↑(BitVec.toNat (rd x l (IntKind.i64.wrap ((↑x_2 : Int) + (1 : Int))).toNat).c) : Int),
                                                                                                                           (↑(BitVec.toNat (rd x l (IntKind.i64.wrap ((↑x_2 : Int) + (1 : Int))).toNat).d) : Int),
                                                                                                                           (↑(BitVec.toNat (rd x l (IntKind.i64.wrap ((↑x_2 : Int) + (1 : Int))).toNat).e) : Int),
                                                                                                                           (↑(BitVec.toNat (rd x l (IntKind.i64.wrap ((↑x_2 : Int) + (1 : Int))).toNat).f) : Int),
                                                                                                                           (↑(BitVec.toNat (rd x l (IntKind.i64.wrap ((↑x_2 : Int) + (1 : Int))).toNat).g) : Int),
                                                                                                                           (↑(BitVec.toNat (rd x l (IntKind.i64.wrap ((↑x_2 : Int) + (1 : Int))).toNat).h) : Int)])) ∧
                                                                                                                      True) ∧
                                                                                                                 true = true) ∧
                                                                                                               (IntKind.i64.wrap ((↑x_2 : Int) + (1 : Int))).toNat ≤ (64 : Nat) ∧ (64 : Nat) - (IntKind.i64.wrap ((↑x_2 : Int) + (1 : Int))).toNat < (64 : Nat) - x_2
                      | false =>
                       True ∧
                        (((AV.d (D.val (Value.int IntKind.i64 (0 : Int))) = AV.d (D.val (Value.int IntKind.i64 (↑(Int.toNat (0 : Int)) : Int))) ∧ True) ∧
                           (some (Blk.fix (D.arr IntKind.u32 (8 : Nat) [(↑(BitVec.toNat x.a) : Int), (↑(BitVec.toNat x.b) : Int), (↑(BitVec.toNat x.c) : Int), (↑(BitVec.toNat x.d) : Int), (↑(BitVec.toNat x.e) : Int), (↑(BitVec.toNat x.f) : Int), (↑(BitVec.toNat x.g) : Int), (↑(BitVec.toNat x.h) : Int)])) =
                              some (Blk.fix (D.arr IntKind.u32 (8 : Nat) (mixL x l (Int.toNat (0 : Int))))) ∧
                             some (Blk.fix (D.arr IntKind.u8 (64 : Nat) l)) = some (Blk.fix (D.arr IntKind.u8 (64 : Nat) l)) ∧
                              some (Blk.fix (D.arr IntKind.u32 (8 : Nat) [(0 : Int), (0 : Int), (0 : Int), (0 : Int), (0 : Int), (0 : Int), (0 : Int), (0 : Int)])) = some (Blk.fix (D.arr IntKind.u32 (8 : Nat) [(0 : Int), (0 : Int), (0 : Int), (0 : Int), (0 : Int), (0 : Int), (0 : Int), (0 : Int)])) ∧
                               some (Blk.fix (D.arr IntKind.u32 (64 : Nat) (wl l x_1 ++ List.replicate ((64 : Nat) - x_1) (0 : Int)))) = some (Blk.fix (D.arr IntKind.u32 (64 : Nat) (wl l x_1 ++ List.replicate ((64 : Nat) - x_1) (0 : Int)))) ∧
                                some
                                   (Blk.fix
                                    (D.arr IntKind.u32 (8 : Nat)
                                     [(↑(BitVec.toNat (rd x l x_2).a) : Int), (↑(BitVec.toNat (rd x l x_2).b) : Int), (↑(BitVec.toNat (rd x l x_2).c) : Int), (↑(BitVec.toNat (rd x l x_2).d) : Int), (↑(BitVec.toNat (rd x l x_2).e) : Int), (↑(BitVec.toNat (rd x l x_2).f) : Int), (↑(BitVec.toNat (rd x l x_2).g) : Int), (↑(BitVec.toNat (rd x l x_2).h) : Int)])) =
                                  some
                                   (Blk.fix
                                    (D.arr IntKind.u32 (8 : Nat)
                                     [(↑(BitVec.toNat (rd x l x_2).a) : Int), (↑(BitVec.toNat (rd x l x_2).b) : Int), (↑(BitVec.toNat (rd x l x_2).c) : Int), (↑(BitVec.toNat (rd x l x_2).d) : Int), (↑(BitVec.toNat (rd x l x_2).e) : Int), (↑(BitVec.toNat (rd x l x_2).f) : Int), (↑(BitVec.toNat (rd x l x_2).g) : Int), (↑(BitVec.toNat (rd x l x_2).h) : Int)])) ∧
                                 True) ∧
                            true = true) ∧
                          Int.toNat (0 : Int) ≤ (8 : Nat)) ∧
                         ∀ (x_3 : Nat),
                          x_3 ≤ (8 : Nat) →
                           true = true ∧
                            True ∧
                             match decide ((↑x_3 : Int) < (8 : Int)) with
                             | true =>
                              True ∧
                               True ∧
                                True ∧
                                 ((0 : Int) ≤ (↑x_3 : Int) ∧ (↑x_3 : Int) < (↑(8 : Nat) : Int) ∧ (8 : Nat) = (8 : Nat) ∧ (1 : Nat) = (1 : Nat)) ∧
                                  ((1 : Nat) ≠ (0 : Nat) ∧ (1 : Nat) = (1 : Nat) ∧ false = false) ∧
                                   True ∧
                                    ((0 : Int) ≤ (↑x_3 : Int) ∧ (↑x_3 : Int) < (↑(8 : Nat) : Int) ∧ (8 : Nat) = (8 : Nat) ∧ (1 : Nat) = (1 : Nat)) ∧
                                     ((1 : Nat) ≠ (0 : Nat) ∧ (1 : Nat) = (1 : Nat) ∧ false = false) ∧
                                      True ∧
                                       ((0 : Int) ≤ (↑x_3 : Int) ∧ (↑x_3 : Int) < (↑(8 : Nat) : Int) ∧ (8 : Nat) = (8 : Nat) ∧ (1 : Nat) = (1 : Nat)) ∧
                                        (((↑x_3 : Int).toNat < (8 : Nat) ∧ ([] : List Nat) = [] ∧ true = true) ∧ (1 : Nat) ≠ (0 : Nat) ∧ (1 : Nat) = (1 : Nat) ∧ false = false) ∧
                                         True ∧
                                          True ∧
                                           ((AV.d (D.val (Value.int IntKind.i64 (IntKind.i64.wrap ((↑x_3 : Int) + (1 : Int))))) = AV.d (D.val (Value.int IntKind.i64 (↑(IntKind.i64.wrap ((↑x_3 : Int) + (1 : Int))).toNat : Int))) ∧ True) ∧
                                             (some
                                                 (Blk.fix
                                                  (D.arr IntKind.u32 (8 : Nat)
                                                   ((mixL x l x_3).set (↑x_3 : Int).toNat
                                                    (IntKind.u32.wrap
                                                     ((mixL x l x_3).getD (↑x_3 : Int).toNat (0 : Int) +
                                                      [(↑(BitVec.toNat (rd x l x_2).a) : Int), (↑(BitVec.toNat (rd x l x_2).b) : Int), (↑(BitVec.toNat (rd x l x_2).c) : Int), (↑(BitVec.toNat (rd x l x_2).d) : Int), (↑(BitVec.toNat (rd x l x_2).e) : Int), (↑(BitVec.toNat (rd x l x_2).f) : Int), (↑(BitVec.toNat (rd x l x_2).g) : Int),
                                                         (↑(BitVec.toNat (rd x l x_2).h) : Int)].getD
                                                       (↑x_3 : Int).toNat (0 : Int)))))) =
                                                some (Blk.fix (D.arr IntKind.u32 (8 : Nat) (mixL x l (IntKind.i64.wrap ((↑x_3 : Int) + (1 : Int))).toNat))) ∧
                                               some (Blk.fix (D.arr IntKind.u8 (64 : Nat) l)) = some (Blk.fix (D.arr IntKind.u8 (64 : Nat) l)) ∧
                                                some (Blk.fix (D.arr IntKind.u32 (8 : Nat) [(0 : Int), (0 : Int), (0 : Int), (0 : Int), (0 : Int), (0 : Int), (0 : Int), (0 : Int)])) = some (Blk.fix (D.arr IntKind.u32 (8 : Nat) [(0 : Int), (0 : Int), (0 : Int), (0 : Int), (0 : Int), (0 : Int), (0 : Int), (0 : Int)])) ∧
                                                 some (Blk.fix (D.arr IntKind.u32 (64 : Nat) (wl l x_1 ++ List.replicate ((64 : Nat) - x_1) (0 : Int)))) = some (Blk.fix (D.arr IntKind.u32 (64 : Nat) (wl l x_1 ++ List.replicate ((64 : Nat) - x_1) (0 : Int)))) ∧
                                                  some
                                                     (Blk.fix
                                                      (D.arr IntKind.u32 (8 : Nat)
                                                       [(↑(BitVec.toNat (rd x l x_2).a) : Int), (↑(BitVec.toNat (rd x l x_2).b) : Int), (↑(BitVec.toNat (rd x l x_2).c) : Int), (↑(BitVec.toNat (rd x l x_2).d) : Int), (↑(BitVec.toNat (rd x l x_2).e) : Int), (↑(BitVec.toNat (rd x l x_2).f) : Int), (↑(BitVec.toNat (rd x l x_2).g) : Int),
                                                        (↑(BitVec.toNat (rd x l x_2).h) : Int)])) =
                                                    some
                                                     (Blk.fix
                                                      (D.arr IntKind.u32 (8 : Nat)
                                                       [(↑(BitVec.toNat (rd x l x_2).a) : Int), (↑(BitVec.toNat (rd x l x_2).b) : Int), (↑(BitVec.toNat (rd x l x_2).c) : Int), (↑(BitVec.toNat (rd x l x_2).d) : Int), (↑(BitVec.toNat (rd x l x_2).e) : Int), (↑(BitVec.toNat (rd x l x_2).f) : Int), (↑(BitVec.toNat (rd x l x_2).g) : Int),
                                                        (↑(BitVec.toNat (rd x l x_2).h) : Int)])) ∧
                                                   True) ∧
                                              true = true) ∧
                                            (IntKind.i64.wrap ((↑x_3 : Int) + (1 : Int))).toNat ≤ (8 : Nat) ∧ (8 : Nat) - (IntKind.i64.wrap ((↑x_3 : Int) + (1 : Int))).toNat < (8 : Nat) - x_3
                             | false => ((8 : Nat) ≠ (0 : Nat) ∧ (8 : Nat) = (8 : Nat) ∧ true = true) ∧ (Sk.arr (8 : Nat) = Sk.arr (8 : Nat) ∧ (8 : Nat) ≠ (0 : Nat) ∧ (8 : Nat) = (8 : Nat) ∧ false = false) ∧ (((8 : Nat) ≠ (0 : Nat) ∧ (8 : Nat) = (8 : Nat) ∧ true = true) ∧ True) ∧ D.arr IntKind.u32 (8 : Nat) (mixL x l x_3) = F) := by kernel_rfl


end Go.Proofs.YtkicjckhkefnpaaDoor
/- package hash: press: the proof. -/
namespace Go.Proofs.YtkicjckhkefnpaaDoor
open Go Go.Vg

theorem wsR_len (l : List Int) : ∀ t, (wsR l t).length = t
  | 0 => rfl
  | t + 1 => by rw [wsR, List.length_cons, wsR_len l t]
theorem wsR_get (l : List Int) : ∀ t i, i < t → (wsR l t).getD i 0 = wn l (t - 1 - i)
  | 0, _, h => by omega
  | t + 1, 0, _ => rfl
  | t + 1, i + 1, h => by
    rw [wsR, List.getD_cons_succ, wsR_get l t i (by omega)]
    congr 1
    omega
theorem wn_lo (l : List Int) {t : Nat} (h : t < 16) : wn l t = wat l (4 * t) := by
  unfold wn
  rw [wsR, List.getD_cons_zero, if_pos h]
theorem wn_hi (l : List Int) {t : Nat} (h : 16 ≤ t) : wn l t = ((wn l (t - 16) + sA (wn l (t - 15))) + wn l (t - 7)) + sB (wn l (t - 2)) := by
  have e : wn l t = (wsR l (t + 1)).getD 0 0 := rfl
  rw [e, wsR, List.getD_cons_zero, if_neg (by omega), wsR_get l t 15 (by omega), wsR_get l t 14 (by omega), wsR_get l t 6 (by omega), wsR_get l t 1 (by omega)]
  rw [show t - 1 - 15 = t - 16 by omega, show t - 1 - 14 = t - 15 by omega, show t - 1 - 6 = t - 7 by omega, show t - 1 - 1 = t - 2 by omega]
theorem wl_len (l : List Int) (n : Nat) : (wl l n).length = n := by unfold wl; simp
theorem wl_get (l : List Int) {n j : Nat} (h : j < n) (r : List Int) : (wl l n ++ r).getD j 0 = ((wn l j).toNat : Int) := by
  rw [List.getD_eq_getElem?_getD, List.getElem?_append_left (by rw [wl_len]; exact h)]
  unfold wl
  simp [h]
theorem wl_succ (l : List Int) (n : Nat) : wl l (n + 1) = wl l n ++ [((wn l n).toNat : Int)] := by
  unfold wl
  rw [List.range_succ, List.map_append]
  rfl
theorem wl_set (l : List Int) {n : Nat} (h : n < 64) : (wl l n ++ List.replicate (64 - n) 0).set n ((wn l n).toNat : Int) = wl l (n + 1) ++ List.replicate (64 - (n + 1)) 0 := by
  have e : 64 - n = (64 - (n + 1)) + 1 := by omega
  rw [wl_succ, e, List.replicate_succ, List.set_append_right _ _ (by rw [wl_len]; omega), wl_len, Nat.sub_self, List.set_cons_zero, List.append_assoc]
  rfl
theorem gl_ok : (gl0.all fun n => decide (0 ≤ n) && decide (n < 4294967296)) = true ∧ gl0.length = 64 ∧ gl1 = gl0 := ⟨by decide +kernel, rfl, rfl⟩
theorem kW_eq {t : Nat} (h : t < 64) : gl0.getD t 0 = ((kW t).toNat : Int) := by
  have hl := gl_ok.2.1
  have hm : gl0.getD t 0 ∈ gl0 := by
    rw [List.getD_eq_getElem?_getD, List.getElem?_eq_getElem (by omega)]
    exact List.getElem_mem _
  have := List.all_eq_true.1 gl_ok.1 _ hm
  simp only [Bool.and_eq_true, decide_eq_true_eq] at this
  unfold kW
  generalize gl0.getD t 0 = z at *
  obtain ⟨n, rfl⟩ := Int.eq_ofNat_of_zero_le this.1
  rw [BitVec.ofInt_natCast, ofW _ (by omega)]
theorem shr3 (x : W) : ishr .u32 (x.toNat : Int) 3 = ((x >>> 3).toNat : Int) := shrW x (n := 3) (by decide)
theorem shr10 (x : W) : ishr .u32 (x.toNat : Int) 10 = ((x >>> 10).toNat : Int) := shrW x (n := 10) (by decide)
theorem notW' (x : W) : ixor .u32 IntKind.u32.max (x.toNat : Int) = ((~~~x).toNat : Int) := notW x
theorem mix_len (x : R8) (l : List Int) (i : Nat) : (mixL x l 0) = x.l := rfl
theorem mix_gen (x v : R8) {i : Nat} (h : i < 8) : ((add8 x v).l.take i ++ x.l.drop i).set i (IntKind.u32.wrap (((add8 x v).l.take i ++ x.l.drop i).getD i 0 + v.l.getD i 0)) = (add8 x v).l.take (i + 1) ++ x.l.drop (i + 1) := by
  rcases (by omega : i = 0 ∨ i = 1 ∨ i = 2 ∨ i = 3 ∨ i = 4 ∨ i = 5 ∨ i = 6 ∨ i = 7) with rfl | rfl | rfl | rfl | rfl | rfl | rfl | rfl <;>
    simp [R8.l, add8, addW]
theorem mix_step (x : R8) (l : List Int) {i : Nat} (h : i < 8) : (mixL x l i).set i (IntKind.u32.wrap ((mixL x l i).getD i 0 + (rd x l 64).l.getD i 0)) = mixL x l (i + 1) := by
  unfold mixL pr
  exact mix_gen _ _ h
theorem ofR_l (x : R8) : ofR x.l = x := by
  have h : ∀ y : W, BitVec.ofInt 32 (y.toNat : Int) = y := toW_wd
  show R8.mk (BitVec.ofInt 32 (x.a.toNat : Int)) (BitVec.ofInt 32 (x.b.toNat : Int)) (BitVec.ofInt 32 (x.c.toNat : Int)) (BitVec.ofInt 32 (x.d.toNat : Int)) (BitVec.ofInt 32 (x.e.toNat : Int)) (BitVec.ofInt 32 (x.f.toNat : Int)) (BitVec.ofInt 32 (x.g.toNat : Int)) (BitVec.ofInt 32 (x.h.toNat : Int)) = x
  simp only [h]

theorem fA (x : W) : (rr x 7 ^^^ rr x 18) ^^^ x >>> 3 = sA x := rfl
theorem fB (x : W) : (rr x 17 ^^^ rr x 19) ^^^ x >>> 10 = sB x := rfl
theorem fC (x : W) : (rr x 6 ^^^ rr x 11) ^^^ rr x 25 = sC x := rfl
theorem fD (x : W) : (rr x 2 ^^^ rr x 13) ^^^ rr x 22 = sD x := rfl
theorem fch (x y z : W) : (x &&& y) ^^^ (~~~x &&& z) = chW x y z := rfl
theorem fmj (x y z : W) : ((x &&& y) ^^^ (x &&& z)) ^^^ (y &&& z) = mjW x y z := rfl
theorem rd_succ (x : R8) (l : List Int) (t : Nat) : rd x l (t + 1) = rdS (rd x l t) (kW t) (wn l t) := rfl

set_option maxRecDepth 100000 in
theorem m117 : Meets Tryd.prog 117 sp117 := by
  refine meets_of_owed (C := c117) ⟨tab_ok, lkS_ok ⟨m129, m130, trivial⟩⟩ (by kernel_rfl) (by kernel_rfl : Tryd.prog.funcs[117]? = some Tryd.f117) (by kernel_rfl) (by kernel_rfl) (by kernel_rfl) _ ?_
  rintro _ ⟨x, l, rfl, hb, hl⟩
  refine ⟨fun _ => rfl, inv117 x l, ?_⟩
  show owed c117 (inv117 x l) Tryd.f117 [a8 x.l, .arr .u8 64 l] (a8 (prL x.l l))
  unfold prL
  rw [vc117, ofR_l]
  have hw0 : wl l 0 = [] := rfl
  have hm0 : mixL x l 0 = x.l := rfl
  have hr0 : rd x l 0 = x := rfl
  have hxl : [((x.a.toNat : Nat) : Int), ((x.b.toNat : Nat) : Int), ((x.c.toNat : Nat) : Int), ((x.d.toNat : Nat) : Int), ((x.e.toNat : Nat) : Int), ((x.f.toNat : Nat) : Int), ((x.g.toNat : Nat) : Int), ((x.h.toNat : Nat) : Int)] = x.l := rfl
  simp (decide := true) only [eq_self, true_and, and_true, ne_eq, not_false_eq_true, Int.toNat_natCast, hw0, List.nil_append, Int.toNat_zero, hm0, hr0, hxl]
  refine ⟨rfl, fun t ht => ?_⟩
  split
  · rename_i h
    have h : t < 64 := by have := of_decide_eq_true h; omega
    have ew : IntKind.i64.wrap ((t : Int) + 1) = ((t + 1 : Nat) : Int) := by rw [wi (by omega) (by omega)]; omega
    split
    · rename_i h2
      have h2 : t < 16 := by have := of_decide_eq_true h2; omega
      have e4 : IntKind.i64.wrap (4 * (t : Int)) = ((4 * t : Nat) : Int) := by rw [wi (by omega) (by omega)]; omega
      rw [e4, ew, Int.toNat_natCast, Int.toNat_natCast]
      simp only [List.drop_zero, Nat.sub_zero, List.take_of_length_le (Nat.le_of_eq hl), ← wn_lo l h2, wl_set l h]
      refine ⟨⟨l, 4 * t, rfl, hb, by omega, by omega⟩, ?_⟩
      and_intros <;> first | exact trivial | rfl | omega
    · rename_i h2
      have h2 : 16 ≤ t := by have := of_decide_eq_false h2; omega
      have e15 : IntKind.i64.wrap ((t : Int) - 15) = ((t - 15 : Nat) : Int) := by rw [wi (by omega) (by omega)]; omega
      have e16 : IntKind.i64.wrap ((t : Int) - 16) = ((t - 16 : Nat) : Int) := by rw [wi (by omega) (by omega)]; omega
      have e7 : IntKind.i64.wrap ((t : Int) - 7) = ((t - 7 : Nat) : Int) := by rw [wi (by omega) (by omega)]; omega
      have e2 : IntKind.i64.wrap ((t : Int) - 2) = ((t - 2 : Nat) : Int) := by rw [wi (by omega) (by omega)]; omega
      have g15 := wl_get l (n := t) (j := t - 15) (by omega) (List.replicate (64 - t) 0)
      have g16 := wl_get l (n := t) (j := t - 16) (by omega) (List.replicate (64 - t) 0)
      have g7 := wl_get l (n := t) (j := t - 7) (by omega) (List.replicate (64 - t) 0)
      have g2 := wl_get l (n := t) (j := t - 2) (by omega) (List.replicate (64 - t) 0)
      simp only [e15, e16, e7, e2, ew, Int.toNat_natCast, g15, g16, g7, g2, toW_wd, xorW, shr3, shr10, addW, fA, fB, ← wn_hi l h2, wl_set l h]
      and_intros <;> first | exact trivial | rfl | omega | exact ⟨_, 7, rfl, by decide, by decide⟩ | exact ⟨_, 18, rfl, by decide, by decide⟩ | exact ⟨_, 17, rfl, by decide, by decide⟩ | exact ⟨_, 19, rfl, by decide, by decide⟩
  · rename_i h
    obtain rfl : t = 64 := by have := of_decide_eq_false h; omega
    refine ⟨rfl, fun t ht => ?_⟩
    split
    · rename_i h
      have h : t < 64 := by have := of_decide_eq_true h; omega
      have ew : IntKind.i64.wrap ((t : Int) + 1) = ((t + 1 : Nat) : Int) := by rw [wi (by omega) (by omega)]; omega
      have gt := wl_get l (n := 64) (j := t) h (List.replicate (64 - 64) 0)
      simp only [ew, Int.toNat_natCast, gt, kW_eq h, toW_wd, xorW, andW, notW', addW, fC, fD, fch, fmj, rd_succ]
      and_intros <;> first | exact trivial | rfl | omega | exact ⟨_, 6, rfl, by decide, by decide⟩ | exact ⟨_, 11, rfl, by decide, by decide⟩ | exact ⟨_, 25, rfl, by decide, by decide⟩ | exact ⟨_, 2, rfl, by decide, by decide⟩ | exact ⟨_, 13, rfl, by decide, by decide⟩ | exact ⟨_, 22, rfl, by decide, by decide⟩
    · rename_i h
      obtain rfl : t = 64 := by have := of_decide_eq_false h; omega
      refine ⟨rfl, fun t ht => ?_⟩
      split
      · rename_i h
        have h : t < 8 := by have := of_decide_eq_true h; omega
        have ew : IntKind.i64.wrap ((t : Int) + 1) = ((t + 1 : Nat) : Int) := by rw [wi (by omega) (by omega)]; omega
        have hs := mix_step x l h
        simp only [R8.l] at hs
        simp only [ew, Int.toNat_natCast, hs]
        and_intros <;> first | exact trivial | rfl | omega
      · rename_i h
        obtain rfl : t = 8 := by have := of_decide_eq_false h; omega
        rfl

end Go.Proofs.YtkicjckhkefnpaaDoor
/- the reference's block. -/
namespace Go.Proofs.YtkicjckhkefnpaaDoor
open Go Go.Vg

def pw (l : List Int) (i : Nat) : Nat → W
  | 0 => 0
  | k + 1 => pw l i k * 256 + BitVec.ofNat 32 (l.getD (i + k) 0).toNat
def inv128 (x : R8) (l : List Int) : Nat → Option Inv
  | 3 => some ⟨Nat, fun i => [(6, .d (i64 ((4 * i : Nat) : Int))), (5, .row 24), (24, .any)], fun i => [(24, .row 113 (.ints .u32 (wl l i)))], fun s => (slotN s 6).toNat / 4, fun _ i => i ≤ 16, fun i => 16 - i⟩
  | 7 => some ⟨Nat × Nat, fun i => [(29, .d (i64 (i.1 : Int))), (7, .d (wd (pw l i.2 i.1)))], fun _ => [], fun s => ((slotN s 29).toNat, (slotN s 6).toNat), fun s i => i.1 ≤ 4 ∧ (i.2 : Int) = slotN s 6, fun i => 4 - i.1⟩
  | 12 => some ⟨Nat, fun _ => [(5, .row 24)], fun i => [(24, .row 113 (.ints .u32 (wl l i)))], fun s => (rowD s 24).length, fun _ i => 16 ≤ i ∧ i ≤ 64, fun i => 64 - i⟩
  | 18 => some ⟨Nat, fun i => [(119, .d (i64 i)), (12, .d (wd (rd x l i).a)), (13, .d (wd (rd x l i).b)), (14, .d (wd (rd x l i).c)), (15, .d (wd (rd x l i).d)), (16, .d (wd (rd x l i).e)), (17, .d (wd (rd x l i).f)), (18, .d (wd (rd x l i).g)), (19, .d (wd (rd x l i).h))],
      fun _ => [], fun s => (slotN s 119).toNat, fun _ i => i ≤ 64, fun i => 64 - i⟩
  | _ => none
--KEEP rr Go.Vg.toW chW mjW w4 wat BitVec.toNat wl wn rd mixL prL pr kW Go.Vg.gl0 Go.Vg.gl1 pw
set_option maxRecDepth 100000 in
theorem vc128  (x : R8) (l : List Int) (F : D)  :
    (owed c128 (inv128 x l) Tryd.f128 [.ints .u32 x.l, .str l] F) = (
 True ∧
   ((0 : Int) = (0 : Int) ∧ (0 : Int) ≤ (64 : Int) ∧ (64 : Int) ≤ (281474976710656 : Int) ∧ (↑(4 : Nat) : Int) * (64 : Int) ≤ (281474976710656 : Int) ∧ (1 : Nat) = (1 : Nat)) ∧
    True ∧
     True ∧
      (((AV.d (D.ints IntKind.u32 [(↑(BitVec.toNat x.a) : Int), (↑(BitVec.toNat x.b) : Int), (↑(BitVec.toNat x.c) : Int), (↑(BitVec.toNat x.d) : Int), (↑(BitVec.toNat x.e) : Int), (↑(BitVec.toNat x.f) : Int), (↑(BitVec.toNat x.g) : Int), (↑(BitVec.toNat x.h) : Int)]) =
           AV.d (D.ints IntKind.u32 [(↑(BitVec.toNat x.a) : Int), (↑(BitVec.toNat x.b) : Int), (↑(BitVec.toNat x.c) : Int), (↑(BitVec.toNat x.d) : Int), (↑(BitVec.toNat x.e) : Int), (↑(BitVec.toNat x.f) : Int), (↑(BitVec.toNat x.g) : Int), (↑(BitVec.toNat x.h) : Int)]) ∧
          AV.d (D.str l) = AV.d (D.str l) ∧ AV.d (D.val (Value.slice none (0 : Nat) (0 : Nat))) = AV.d (D.val (Value.slice none (0 : Nat) (0 : Nat))) ∧ AV.row (24 : Nat) = AV.row (24 : Nat) ∧ AV.d (D.val (Value.int IntKind.i64 (0 : Int))) = AV.d (D.val (Value.int IntKind.i64 (↑(0 : Nat) : Int))) ∧ True) ∧
         (some (Blk.row (113 : TypeId) (D.ints IntKind.u32 [])) = some (Blk.row (113 : TypeId) (D.ints IntKind.u32 (wl l (0 / 4 : Nat)))) ∧ True) ∧ true = true) ∧
        (0 / 4 : Nat) ≤ (16 : Nat)) ∧
       ∀ (x_1 : Nat),
        x_1 ≤ (16 : Nat) →
         true = true ∧
          True ∧
           True ∧
            match decide ((↑((4 : Nat) * x_1) : Int) < (64 : Int)) with
            | true =>
             True ∧
              True ∧
               (((AV.d (D.ints IntKind.u32 [(↑(BitVec.toNat x.a) : Int), (↑(BitVec.toNat x.b) : Int), (↑(BitVec.toNat x.c) : Int), (↑(BitVec.toNat x.d) : Int), (↑(BitVec.toNat x.e) : Int), (↑(BitVec.toNat x.f) : Int), (↑(BitVec.toNat x.g) : Int), (↑(BitVec.toNat x.h) : Int)]) =
                    AV.d (D.ints IntKind.u32 [(↑(BitVec.toNat x.a) : Int), (↑(BitVec.toNat x.b) : Int), (↑(BitVec.toNat x.c) : Int), (↑(BitVec.toNat x.d) : Int), (↑(BitVec.toNat x.e) : Int), (↑(BitVec.toNat x.f) : Int), (↑(BitVec.toNat x.g) : Int), (↑(BitVec.toNat x.h) : Int)]) ∧
                   AV.d (D.str l) = AV.d (D.str l) ∧
                    AV.d (D.val (Value.slice none (0 : Nat) (0 : Nat))) = AV.d (D.val (Value.slice none (0 : Nat) (0 : Nat))) ∧
                     AV.row (24 : Nat) = AV.row (24 : Nat) ∧
                      AV.d (D.val (Value.int IntKind.i64 (↑((4 : Nat) * x_1) : Int))) = AV.d (D.val (Value.int IntKind.i64 (↑((4 : Nat) * x_1) : Int))) ∧
                       AV.d (D.val (Value.int IntKind.u32 (0 : Int))) = AV.d (D.val (Value.int IntKind.u32 (↑(BitVec.toNat (pw l (↑((4 : Nat) * x_1) : Int).toNat (0 : Nat))) : Int))) ∧
                        AV.d (D.val (Value.int IntKind.i64 (↑((4 : Nat) * x_1) : Int))) = AV.d (D.val (Value.int IntKind.i64 (↑((4 : Nat) * x_1) : Int))) ∧
                         AV.d (D.val (Value.bool (decide ((↑((4 : Nat) * x_1) : Int) < (64 : Int))))) = AV.d (D.val (Value.bool (decide ((↑((4 : Nat) * x_1) : Int) < (64 : Int))))) ∧ AV.d (D.val (Value.int IntKind.i64 (0 : Int))) = AV.d (D.val (Value.int IntKind.i64 (↑(0 : Nat) : Int))) ∧ True) ∧
                  (some (Blk.row (113 : TypeId) (D.ints IntKind.u32 (wl l x_1))) = some (Blk.row (113 : TypeId) (D.ints IntKind.u32 (wl l x_1))) ∧ True) ∧ true = true) ∧
                 (0 : Nat) ≤ (4 : Nat) ∧ (↑(↑((4 : Nat) * x_1) : Int).toNat : Int) = (↑((4 : Nat) * x_1) : Int)) ∧
                ∀ (x_2 : Nat × Nat),
                 x_2.fst ≤ (4 : Nat) ∧ (↑x_2.snd : Int) = (↑((4 : Nat) * x_1) : Int) →
                  true = true ∧
                   True ∧
                    match decide ((↑x_2.fst : Int) < (4 : Int)) with
                    | true =>
                     True ∧
                      True ∧
                       True ∧
                        True ∧
                         True ∧
                          True ∧
                           True ∧
                            True ∧
                             ((0 : Int) ≤ IntKind.i64.wrap ((↑((4 : Nat) * x_1) : Int) + (↑x_2.fst : Int)) ∧ IntKind.i64.wrap ((↑((4 : Nat) * x_1) : Int) + (↑x_2.fst : Int)) < (↑l.length : Int)) ∧
                              True ∧
                               True ∧
                                True ∧
                                 True ∧
                                  True ∧
                                   ((AV.d (D.ints IntKind.u32 [(↑(BitVec.toNat x.a) : Int), (↑(BitVec.toNat x.b) : Int), (↑(BitVec.toNat x.c) : Int), (↑(BitVec.toNat x.d) : Int), (↑(BitVec.toNat x.e) : Int), (↑(BitVec.toNat x.f) : Int), (↑(BitVec.toNat x.g) : Int), (↑(BitVec.toNat x.h) : Int)]) =
                                       AV.d (D.ints IntKind.u32 [(↑(BitVec.toNat x.a) : Int), (↑(BitVec.toNat x.b) : Int), (↑(BitVec.toNat x.c) : Int), (↑(BitVec.toNat x.d) : Int), (↑(BitVec.toNat x.e) : Int), (↑(BitVec.toNat x.f) : Int), (↑(BitVec.toNat x.g) : Int), (↑(BitVec.toNat x.h) : Int)]) ∧
                                      AV.d (D.str l) = AV.d (D.str l) ∧
                                       AV.d (D.val (Value.slice none (0 : Nat) (0 : Nat))) = AV.d (D.val (Value.slice none (0 : Nat) (0 : Nat))) ∧
                                        AV.row (24 : Nat) = AV.row (24 : Nat) ∧
                                         AV.d (D.val (Value.int IntKind.i64 (↑((4 : Nat) * x_1) : Int))) = AV.d (D.val (Value.int IntKind.i64 (↑((4 : Nat) * x_1) : Int))) ∧
                                          AV.d (D.val (Value.int IntKind.u32 (IntKind.u32.wrap (IntKind.u32.wrap ((↑(BitVec.toNat (pw l x_2.snd x_2.fst)) : Int) * (256 : Int)) + IntKind.u32.wrap (l.getD (IntKind.i64.wrap ((↑((4 : Nat) * x_1) : Int) + (↑x_2.fst : Int))).toNat (0 : Int)))))) =
                                            AV.d (D.val (Value.int IntKind.u32 (↑(BitVec.toNat (pw l (↑((4 : Nat) * x_1) : Int).toNat (IntKind.i64.wrap ((↑x_2.fst : Int) + (1 : Int))).toNat)) : Int))) ∧
                                           AV.d (D.val (Value.int IntKind.i64 (↑((4 : Nat) * x_1) : Int))) = AV.d (D.val (Value.int IntKind.i64 (↑((4 : Nat) * x_1) : Int))) ∧
                                            AV.d (D.val (Value.bool (decide ((↑((4 : Nat) * x_1) : Int) < (64 : Int))))) = AV.d (D.val (Value.bool (decide ((↑((4 : Nat) * x_1) : Int) < (64 : Int))))) ∧
                                             AV.d (D.val (Value.int IntKind.i64 (IntKind.i64.wrap ((↑x_2.fst : Int) + (1 : Int))))) = AV.d (D.val (Value.int IntKind.i64 (↑(IntKind.i64.wrap ((↑x_2.fst : Int) + (1 : Int))).toNat : Int))) ∧ True) ∧
                                     (some (Blk.row (113 : TypeId) (D.ints IntKind.u32 (wl l x_1))) = some (Blk.row (113 : TypeId) (D.ints IntKind.u32 (wl l x_1))) ∧ True) ∧ true = true) ∧
                                    ((IntKind.i64.wrap ((↑x_2.fst : Int) + (1 : Int))).toNat ≤ (4 : Nat) ∧ (↑(↑((4 : Nat) * x_1) : Int).toNat : Int) = (↑((4 : Nat) * x_1) : Int)) ∧ (4 : Nat) - (IntKind.i64.wrap ((↑x_2.fst : Int) + (1 : Int))).toNat < (4 : Nat) - x_2.fst
                    | false =>
                     True ∧
                      True ∧
                       ((1 : Nat) = (1 : Nat) ∧ (1 : Nat) ≤ (4096 : Nat)) ∧
                        ((113 : TypeId) = (113 : TypeId) ∧ (170 : Nat) = (170 : Nat) ∧ true = true ∧ (wl l x_1 ++ [(↑(BitVec.toNat (pw l x_2.snd x_2.fst)) : Int)]).length ≤ (140737488355328 : Nat) ∧ (wl l x_1 ++ [(↑(BitVec.toNat (pw l x_2.snd x_2.fst)) : Int)]).length * (4 : Nat) ≤ (140737488355328 : Nat) ∧ (1 : Nat) ≠ (0 : Nat) ∧ (1 : Nat) = (1 : Nat)) ∧
                         True ∧
                          True ∧
                           True ∧
                            True ∧
                             ((AV.d (D.ints IntKind.u32 [(↑(BitVec.toNat x.a) : Int), (↑(BitVec.toNat x.b) : Int), (↑(BitVec.toNat x.c) : Int), (↑(BitVec.toNat x.d) : Int), (↑(BitVec.toNat x.e) : Int), (↑(BitVec.toNat x.f) : Int), (↑(BitVec.toNat x.g) : Int), (↑(BitVec.toNat x.h) : Int)]) =
                                 AV.d (D.ints IntKind.u32 [(↑(BitVec.toNat x.a) : Int), (↑(BitVec.toNat x.b) : Int), (↑(BitVec.toNat x.c) : Int), (↑(BitVec.toNat x.d) : Int), (↑(BitVec.toNat x.e) : Int), (↑(BitVec.toNat x.f) : Int), (↑(BitVec.toNat x.g) : Int), (↑(BitVec.toNat x.h) : Int)]) ∧
                                AV.d (D.str l) = AV.d (D.str l) ∧
                                 AV.d (D.val (Value.slice none (0 : Nat) (0 : Nat))) = AV.d (D.val (Value.slice none (0 : Nat) (0 : Nat))) ∧
                                  AV.row (24 : Nat) = AV.row (24 : Nat) ∧ AV.d (D.val (Value.int IntKind.i64 (IntKind.i64.wrap ((↑((4 : Nat) * x_1) : Int) + (4 : Int))))) = AV.d (D.val (Value.int IntKind.i64 (↑((4 : Nat) * ((IntKind.i64.wrap ((↑((4 : Nat) * x_1) : Int) + (4 : Int))).toNat / (4 : Nat))) : Int))) ∧ True) ∧
                               (some (Blk.row (113 : TypeId) (D.ints IntKind.u32 (wl l x_1 ++ [(↑(BitVec.toNat (pw l x_2.snd x_2.fst)) : Int)]))) = some (Blk.row (113 : TypeId) (D.ints IntKind.u32 (wl l ((IntKind.i64.wrap ((↑((4 : Nat) * x_1) : Int) + (4 : Int))).toNat / (4 : Nat))))) ∧ True) ∧ true = true) ∧
                              (IntKind.i64.wrap ((↑((4 : Nat) * x_1) : Int) + (4 : Int))).toNat / (4 : Nat) ≤ (16 : Nat) ∧ (16 : Nat) - (IntKind.i64.wrap ((↑((4 : Nat) * x_1) : Int) + (4 : Int))).toNat / (4 : Nat) < (16 : Nat) - x_1
            | false =>
             (((AV.row (24 : Nat) = AV.row (24 : Nat) ∧ True) ∧ (some (Blk.row (113 : TypeId) (D.ints IntKind.u32 (wl l x_1))) = some (Blk.row (113 : TypeId) (D.ints IntKind.u32 (wl l (wl l x_1).length))) ∧ True) ∧ true = true) ∧ (16 : Nat) ≤ (wl l x_1).length ∧ (wl l x_1).length ≤ (64 : Nat)) ∧
              ∀ (x_2 : Nat),
               (16 : Nat) ≤ x_2 ∧ x_2 ≤ (64 : Nat) →
                true = true ∧
                 True ∧
                  True ∧
                   True ∧
                    match decide ((↑(wl l x_2).length : Int) < (64 : Int)) with
                    | true =>
                     True ∧
                      True ∧
                       True ∧
                        True ∧
                         True ∧
                          True ∧
                           ((0 : Int) ≤ IntKind.i64.wrap ((↑(wl l x_2).length : Int) - (15 : Int)) ∧ IntKind.i64.wrap ((↑(wl l x_2).length : Int) - (15 : Int)) < (↑(wl l x_2).length : Int) ∧ (1 : Nat) = (1 : Nat)) ∧
                            ((IntKind.i64.wrap ((↑(wl l x_2).length : Int) - (15 : Int))).toNat < (wl l x_2).length ∧ (1 : Nat) = (1 : Nat) ∧ false = false) ∧
                             True ∧
                              True ∧
                               True ∧
                                ((0 : Int) ≤ IntKind.i64.wrap ((↑(wl l x_2).length : Int) - (2 : Int)) ∧ IntKind.i64.wrap ((↑(wl l x_2).length : Int) - (2 : Int)) < (↑(wl l x_2).length : Int) ∧ (1 : Nat) = (1 : Nat)) ∧
                                 ((IntKind.i64.wrap ((↑(wl l x_2).length : Int) - (2 : Int))).toNat < (wl l x_2).length ∧ (1 : Nat) = (1 : Nat) ∧ false = false) ∧
                                  True ∧
                                   True ∧
                                    True ∧
                                     True ∧
                                      True ∧
                                       True ∧
                                        ((0 : Int) ≤ IntKind.i64.wrap ((↑(wl l x_2).length : Int) - (16 : Int)) ∧ IntKind.i64.wrap ((↑(wl l x_2).length : Int) - (16 : Int)) < (↑(wl l x_2).length : Int) ∧ (1 : Nat) = (1 : Nat)) ∧
                                         ((IntKind.i64.wrap ((↑(wl l x_2).length : Int) - (16 : Int))).toNat < (wl l x_2).length ∧ (1 : Nat) = (1 : Nat) ∧ false = false) ∧
                                          True ∧
                                           True ∧
                                            True ∧
                                             ((0 : Int) ≤ IntKind.i64.wrap ((↑(wl l x_2).length : Int) - (7 : Int)) ∧ IntKind.i64.wrap ((↑(wl l x_2).length : Int) - (7 : Int)) < (↑(wl l x_2).length : Int) ∧ (1 : Nat) = (1 : Nat)) ∧
                                              ((IntKind.i64.wrap ((↑(wl l x_2).length : Int) - (7 : Int))).toNat < (wl l x_2).length ∧ (1 : Nat) = (1 : Nat) ∧ false = false) ∧
                                               True ∧
                                                True ∧
                                                 (∃ (x : W),
                                                   ∃ (n : Nat),
                                                    [D.val (Value.int IntKind.u32 ((wl l x_2).getD (IntKind.i64.wrap ((↑(wl l x_2).length : Int) - (15 : Int))).toNat (0 : Int))), D.val (Value.int IntKind.u64 (7 : Int))] = [D.val (Value.int IntKind.u32 (↑(BitVec.toNat x) : Int)), D.val (Value.int IntKind.u64 (↑n : Int))] ∧
                                                     (1 : Nat) ≤ n ∧ n ≤ (31 : Nat)) ∧
                                                  True ∧
                                                   (∃ (x : W),
                                                     ∃ (n : Nat),
                                                      [D.val (Value.int IntKind.u32 ((wl l x_2).getD (IntKind.i64.wrap ((↑(wl l x_2).length : Int) - (15 : Int))).toNat (0 : Int))), D.val (Value.int IntKind.u64 (18 : Int))] = [D.val (Value.int IntKind.u32 (↑(BitVec.toNat x) : Int)), D.val (Value.int IntKind.u64 (↑n : Int))] ∧
                                                       (1 : Nat) ≤ n ∧ n ≤ (31 : Nat)) ∧
                                                    True ∧
                                                     True ∧
                                                      (8 : Int) ≠ (0 : Int) ∧
                                                       True ∧
                                                        True ∧
                                                         True ∧
                                                          (∃ (x : W),
                                                            ∃ (n : Nat),
                                                             [D.val (Value.int IntKind.u32 ((wl l x_2).getD (IntKind.i64.wrap ((↑(wl l x_2).length : Int) - (2 : Int))).toNat (0 : Int))), D.val (Value.int IntKind.u64 (17 : Int))] = [D.val (Value.int IntKind.u32 (↑(BitVec.toNat x) : Int)), D.val (Value.int IntKind.u64 (↑n : Int))] ∧
                                                              (1 : Nat) ≤ n ∧ n ≤ (31 : Nat)) ∧
                                                           True ∧
                                                            (∃ (x : W),
                                                              ∃ (n : Nat),
                                                               [D.val (Value.int IntKind.u32 ((wl l x_2).getD (IntKind.i64.wrap ((↑(wl l x_2).length : Int) - (2 : Int))).toNat (0 : Int))), D.val (Value.int IntKind.u64 (19 : Int))] = [D.val (Value.int IntKind.u32 (↑(BitVec.toNat x) : Int)), D.val (Value.int IntKind.u64 (↑n : Int))] ∧
                                                                (1 : Nat) ≤ n ∧ n ≤ (31 : Nat)) ∧
                                                             True ∧
                                                              True ∧
                                                               (1024 : Int) ≠ (0 : Int) ∧
                                                                True ∧
                                                                 True ∧
                                                                  ((1 : Nat) = (1 : Nat) ∧ (1 : Nat) ≤ (4096 : Nat)) ∧
                                                                   ((113 : TypeId) = (113 : TypeId) ∧
                                                                     (170 : Nat) = (170 : Nat) ∧
                                                                      true = true ∧
                                                                       (wl l x_2 ++
                                                                           [IntKind.u32.wrap
                                                                             (IntKind.u32.wrap
                                                                               (IntKind.u32.wrap ((wl l x_2).getD (IntKind.i64.wrap ((↑(wl l x_2).length : Int) - (16 : Int))).toNat (0 : Int) + (wl l x_2).getD (IntKind.i64.wrap ((↑(wl l x_2).length : Int) - (7 : Int))).toNat (0 : Int)) +
                                                                                ixor IntKind.u32
                                                                                 (ixor IntKind.u32 (↑(BitVec.toNat (rr (toW (D.val (Value.int IntKind.u32 ((wl l x_2).getD (IntKind.i64.wrap ((↑(wl l x_2).length : Int) - (15 : Int))).toNat (0 : Int))))) (7 : Nat))) : Int)
                                                                                  (↑(BitVec.toNat (rr (toW (D.val (Value.int IntKind.u32 ((wl l x_2).getD (IntKind.i64.wrap ((↑(wl l x_2).length : Int) - (15 : Int))).toNat (0 : Int))))) (18 : Nat))) : Int))
                                                                                 (IntKind.u32.wrap (((wl l x_2).getD (IntKind.i64.wrap ((↑(wl l x_2).length : Int) - (15 : Int))).toNat (0 : Int)).tdiv (8 : Int)))) +
                                                                              ixor IntKind.u32
                                                                               (ixor IntKind.u32 (↑(BitVec.toNat (rr (toW (D.val (Value.int IntKind.u32 ((wl l x_2).getD (IntKind.i64.wrap ((↑(wl l x_2).length : Int) - (2 : Int))).toNat (0 : Int))))) (17 : Nat))) : Int)
                                                                                (↑(BitVec.toNat (rr (toW (D.val (Value.int IntKind.u32 ((wl l x_2).getD (IntKind.i64.wrap ((↑(wl l x_2).length : Int) - (2 : Int))).toNat (0 : Int))))) (19 : Nat))) : Int))
                                                                               (IntKind.u32.wrap (((wl l x_2).getD (IntKind.i64.wrap ((↑(wl l x_2).length : Int) - (2 : Int))).toNat (0 : Int)).tdiv (1024 : Int))))]).length ≤
                                                                         (140737488355328 : Nat) ∧
                                                                        (wl l x_2 ++
                                                                             [IntKind.u32.wrap
                                                                               (IntKind.u32.wrap
                                                                                 (IntKind.u32.wrap ((wl l x_2).getD (IntKind.i64.wrap ((↑(wl l x_2).length : Int) - (16 : Int))).toNat (0 : Int) + (wl l x_2).getD (IntKind.i64.wrap ((↑(wl l x_2).length : Int) - (7 : Int))).toNat (0 : Int)) +
                                                                                  ixor IntKind.u32
                                                                                   (ixor IntKind.u32 (↑(BitVec.toNat (rr (toW (D.val (Value.int IntKind.u32 ((wl l x_2).getD (IntKind.i64.wrap ((↑(wl l x_2).length : Int) - (15 : Int))).toNat (0 : Int))))) (7 : Nat))) : Int)
                                                                                    (↑(BitVec.toNat (rr (toW (D.val (Value.int IntKind.u32 ((wl l x_2).getD (IntKind.i64.wrap ((↑(wl l x_2).length : Int) - (15 : Int))).toNat (0 : Int))))) (18 : Nat))) : Int))
                                                                                   (IntKind.u32.wrap (((wl l x_2).getD (IntKind.i64.wrap ((↑(wl l x_2).length : Int) - (15 : Int))).toNat (0 : Int)).tdiv (8 : Int)))) +
                                                                                ixor IntKind.u32
                                                                                 (ixor IntKind.u32 (↑(BitVec.toNat (rr (toW (D.val (Value.int IntKind.u32 ((wl l x_2).getD (IntKind.i64.wrap ((↑(wl l x_2).length : Int) - (2 : Int))).toNat (0 : Int))))) (17 : Nat))) : Int)
                                                                                  (↑(BitVec.toNat (rr (toW (D.val (Value.int IntKind.u32 ((wl l x_2).getD (IntKind.i64.wrap ((↑(wl l x_2).length : Int) - (2 : Int))).toNat (0 : Int))))) (19 : Nat))) : Int))
                                                                                 (IntKind.u32.wrap (((wl l x_2).getD (IntKind.i64.wrap ((↑(wl l x_2).length : Int) - (2 : Int))).toNat (0 : Int)).tdiv (1024 : Int))))]).length *
                                                                           (4 : Nat) ≤
                                                                          (140737488355328 : Nat) ∧
                                                                         (1 : Nat) ≠ (0 : Nat) ∧ (1 : Nat) = (1 : Nat)) ∧
                                                                    True ∧
                                                                     ((AV.row (24 : Nat) = AV.row (24 : Nat) ∧ True) ∧
                                                                       (some
                                                                           (Blk.row (113 : TypeId)
                                                                            (D.ints IntKind.u32
                                                                             (wl l x_2 ++
                                                                              [IntKind.u32.wrap
                                                                                (IntKind.u32.wrap
                                                                                  (IntKind.u32.wrap ((wl l x_2).getD (IntKind.i64.wrap ((↑(wl l x_2).length : Int) - (16 : Int))).toNat (0 : Int) + (wl l x_2).getD (IntKind.i64.wrap ((↑(wl l x_2).length : Int) - (7 : Int))).toNat (0 : Int)) +
                                                                                   ixor IntKind.u32
                                                                                    (ixor IntKind.u32 (↑(BitVec.toNat (rr (toW (D.val (Value.int IntKind.u32 ((wl l x_2).getD (IntKind.i64.wrap ((↑(wl l x_2).length : Int) - (15 : Int))).toNat (0 : Int))))) (7 : Nat))) : Int)
                                                                                     (↑(BitVec.toNat (rr (toW (D.val (Value.int IntKind.u32 ((wl l x_2).getD (IntKind.i64.wrap ((↑(wl l x_2).length : Int) - (15 : Int))).toNat (0 : Int))))) (18 : Nat))) : Int))
                                                                                    (IntKind.u32.wrap (((wl l x_2).getD (IntKind.i64.wrap ((↑(wl l x_2).length : Int) - (15 : Int))).toNat (0 : Int)).tdiv (8 : Int)))) +
                                                                                 ixor IntKind.u32
                                                                                  (ixor IntKind.u32 (↑(BitVec.toNat (rr (toW (D.val (Value.int IntKind.u32 ((wl l x_2).getD (IntKind.i64.wrap ((↑(wl l x_2).length : Int) - (2 : Int))).toNat (0 : Int))))) (17 : Nat))) : Int)
                                                                                   (↑(BitVec.toNat (rr (toW (D.val (Value.int IntKind.u32 ((wl l x_2).getD (IntKind.i64.wrap ((↑(wl l x_2).length : Int) - (2 : Int))).toNat (0 : Int))))) (19 : Nat))) : Int))
                                                                                  (IntKind.u32.wrap (((wl l x_2).getD (IntKind.i64.wrap ((↑(wl l x_2).length : Int) - (2 : Int))).toNat (0 : Int)).tdiv (1024 : Int))))]))) =
                                                                          some
                                                                           (Blk.row (113 : TypeId)
                                                                            (D.ints IntKind.u32
                                                                             (wl l
                                                                              (wl l x_2 ++
                                                                                [IntKind.u32.wrap
                                                                                  (IntKind.u32.wrap
                                                                                    (IntKind.u32.wrap ((wl l x_2).getD (IntKind.i64.wrap ((↑(wl l x_2).length : Int) - (16 : Int))).toNat (0 : Int) + (wl l x_2).getD (IntKind.i64.wrap ((↑(wl l x_2).length : Int) - (7 : Int))).toNat (0 : Int)) +
                                                                                     ixor IntKind.u32
                                                                                      (ixor IntKind.u32 (↑(BitVec.toNat (rr (toW (D.val (Value.int IntKind.u32 ((wl l x_2).getD (IntKind.i64.wrap ((↑(wl l x_2).length : Int) - (15 : Int))).toNat (0 : Int))))) (7 : Nat))) : Int)
                                                                                       (↑(BitVec.toNat (rr (toW (D.val (Value.int IntKind.u32 ((wl l x_2).getD (IntKind.i64.wrap ((↑(wl l x_2).length : Int) - (15 : Int))).toNat (0 : Int))))) (18 : Nat))) : Int))
                                                                                      (IntKind.u32.wrap (((wl l x_2).getD (IntKind.i64.wrap ((↑(wl l x_2).length : Int) - (15 : Int))).toNat (0 : Int)).tdiv (8 : Int)))) +
                                                                                   ixor IntKind.u32
                                                                                    (ixor IntKind.u32 (↑(BitVec.toNat (rr (toW (D.val (Value.int IntKind.u32 ((wl l x_2).getD (IntKind.i64.wrap ((↑(wl l x_2).length : Int) - (2 : Int))).toNat (0 : Int))))) (17 : Nat))) : Int)
                                                                                     (↑(BitVec.toNat (rr (toW (D.val (Value.int IntKind.u32 ((wl l x_2).getD (IntKind.i64.wrap ((↑(wl l x_2).length : Int) - (2 : Int))).toNat (0 : Int))))) (19 : Nat))) : Int))
                                                                                    (IntKind.u32.wrap (((wl l x_2).getD (IntKind.i64.wrap ((↑(wl l x_2).length : Int) - (2 : Int))).toNat (0 : Int)).tdiv (1024 : Int))))]).length))) ∧
                                                                         True) ∧
                                                                        true = true) ∧
                                                                      ((16 : Nat) ≤
                                                                         (wl l x_2 ++
                                                                           [IntKind.u32.wrap
                                                                             (IntKind.u32.wrap
                                                                               (IntKind.u32.wrap ((wl l x_2).getD (IntKind.i64.wrap ((↑(wl l x_2).length : Int) - (16 : Int))).toNat (0 : Int) + (wl l x_2).getD (IntKind.i64.wrap ((↑(wl l x_2).length : Int) - (7 : Int))).toNat (0 : Int)) +
                                                                                ixor IntKind.u32
                                                                                 (ixor IntKind.u32 (↑(BitVec.toNat (rr (toW (D.val (Value.int IntKind.u32 ((wl l x_2).getD (IntKind.i64.wrap ((↑(wl l x_2).length : Int) - (15 : Int))).toNat (0 : Int))))) (7 : Nat))) : Int)
                                                                                  (↑(BitVec.toNat (rr (toW (D.val (Value.int IntKind.u32 ((wl l x_2).getD (IntKind.i64.wrap ((↑(wl l x_2).length : Int) - (15 : Int))).toNat (0 : Int))))) (18 : Nat))) : Int))
                                                                                 (IntKind.u32.wrap (((wl l x_2).getD (IntKind.i64.wrap ((↑(wl l x_2).length : Int) - (15 : Int))).toNat (0 : Int)).tdiv (8 : Int)))) +
                                                                              ixor IntKind.u32
                                                                               (ixor IntKind.u32 (↑(BitVec.toNat (rr (toW (D.val (Value.int IntKind.u32 ((wl l x_2).getD (IntKind.i64.wrap ((↑(wl l x_2).length : Int) - (2 : Int))).toNat (0 : Int))))) (17 : Nat))) : Int)
                                                                                (↑(BitVec.toNat (rr (toW (D.val (Value.int IntKind.u32 ((wl l x_2).getD (IntKind.i64.wrap ((↑(wl l x_2).length : Int) - (2 : Int))).toNat (0 : Int))))) (19 : Nat))) : Int))
                                                                               (IntKind.u32.wrap (((wl l x_2).getD (IntKind.i64.wrap ((↑(wl l x_2).length : Int) - (2 : Int))).toNat (0 : Int)).tdiv (1024 : Int))))]).length ∧
                                                                        (wl l x_2 ++
                                                                           [IntKind.u32.wrap
                                                                             (IntKind.u32.wrap
                                                                               (IntKind.u32.wrap ((wl l x_2).getD (IntKind.i64.wrap ((↑(wl l x_2).length : Int) - (16 : Int))).toNat (0 : Int) + (wl l x_2).getD (IntKind.i64.wrap ((↑(wl l x_2).length : Int) - (7 : Int))).toNat (0 : Int)) +
                                                                                ixor IntKind.u32
                                                                                 (ixor IntKind.u32 (↑(BitVec.toNat (rr (toW (D.val (Value.int IntKind.u32 ((wl l x_2).getD (IntKind.i64.wrap ((↑(wl l x_2).length : Int) - (15 : Int))).toNat (0 : Int))))) (7 : Nat))) : Int)
                                                                                  (↑(BitVec.toNat (rr (toW (D.val (Value.int IntKind.u32 ((wl l x_2).getD (IntKind.i64.wrap ((↑(wl l x_2).length : Int) - (15 : Int))).toNat (0 : Int))))) (18 : Nat))) : Int))
                                                                                 (IntKind.u32.wrap (((wl l x_2).getD (IntKind.i64.wrap ((↑(wl l x_2).length : Int) - (15 : Int))).toNat (0 : Int)).tdiv (8 : Int)))) +
                                                                              ixor IntKind.u32
                                                                               (ixor IntKind.u32 (↑(BitVec.toNat (rr (toW (D.val (Value.int IntKind.u32 ((wl l x_2).getD (IntKind.i64.wrap ((↑(wl l x_2).length : Int) - (2 : Int))).toNat (0 : Int))))) (17 : Nat))) : Int)
                                                                                (↑(BitVec.toNat (rr (toW (D.val (Value.int IntKind.u32 ((wl l x_2).getD (IntKind.i64.wrap ((↑(wl l x_2).length : Int) - (2 : Int))).toNat (0 : Int))))) (19 : Nat))) : Int))
                                                                               (IntKind.u32.wrap (((wl l x_2).getD (IntKind.i64.wrap ((↑(wl l x_2).length : Int) - (2 : Int))).toNat (0 : Int)).tdiv (1024 : Int))))]).length ≤
                                                                         (64 : Nat)) ∧
                                                                       (64 : Nat) -
                                                                         (wl l x_2 ++
                                                                           [IntKind.u32.wrap
                                                                             (IntKind.u32.wrap
                                                                               (IntKind.u32.wrap ((wl l x_2).getD (IntKind.i64.wrap ((↑(wl l x_2).length : Int) - (16 : Int))).toNat (0 : Int) + (wl l x_2).getD (IntKind.i64.wrap ((↑(wl l x_2).length : Int) - (7 : Int))).toNat (0 : Int)) +
                                                                                ixor IntKind.u32
                                                                                 (ixor IntKind.u32 (↑(BitVec.toNat (rr (toW (D.val (Value.int IntKind.u32 ((wl l x_2).getD (IntKind.i64.wrap ((↑(wl l x_2).length : Int) - (15 : Int))).toNat (0 : Int))))) (7 : Nat))) : Int)
                                                                                  (↑(BitVec.toNat (rr (toW (D.val (Value.int IntKind.u32 ((wl l x_2).getD (IntKind.i64.wrap ((↑(wl l x_2).length : Int) - (15 : Int))).toNat (0 : Int))))) (18 : Nat))) : Int))
                                                                                 (IntKind.u32.wrap (((wl l x_2).getD (IntKind.i64.wrap ((↑(wl l x_2).length : Int) - (15 : Int))).toNat (0 : Int)).tdiv (8 : Int)))) +
                                                                              ixor IntKind.u32
                                                                               (ixor IntKind.u32 (↑(BitVec.toNat (rr (toW (D.val (Value.int IntKind.u32 ((wl l x_2).getD (IntKind.i64.wrap ((↑(wl l x_2).length : Int) - (2 : Int))).toNat (0 : Int))))) (17 : Nat))) : Int)
                                                                                (↑(BitVec.toNat (rr (toW (D.val (Value.int IntKind.u32 ((wl l x_2).getD (IntKind.i64.wrap ((↑(wl l x_2).length : Int) - (2 : Int))).toNat (0 : Int))))) (19 : Nat))) : Int))
                                                                               (IntKind.u32.wrap (((wl l x_2).getD (IntKind.i64.wrap ((↑(wl l x_2).length : Int) - (2 : Int))).toNat (0 : Int)).tdiv (1024 : Int))))]).length <
                                                                        (64 : Nat) - x_2
                    | false =>
                     True ∧
                      ((0 : Int) ≤ (0 : Int) ∧ (0 : Int) < (↑(8 : Nat) : Int) ∧ (1 : Nat) = (1 : Nat)) ∧
                       ((1 : Nat) ≠ (0 : Nat) ∧ (1 : Nat) = (1 : Nat) ∧ false = false) ∧
                        True ∧
                         ((0 : Int) ≤ (1 : Int) ∧ (1 : Int) < (↑(8 : Nat) : Int) ∧ (1 : Nat) = (1 : Nat)) ∧
                          ((1 : Nat) ≠ (0 : Nat) ∧ (1 : Nat) = (1 : Nat) ∧ false = false) ∧
                           True ∧
                            ((0 : Int) ≤ (2 : Int) ∧ (2 : Int) < (↑(8 : Nat) : Int) ∧ (1 : Nat) = (1 : Nat)) ∧
                             ((1 : Nat) ≠ (0 : Nat) ∧ (1 : Nat) = (1 : Nat) ∧ false = false) ∧
                              True ∧
                               ((0 : Int) ≤ (3 : Int) ∧ (3 : Int) < (↑(8 : Nat) : Int) ∧ (1 : Nat) = (1 : Nat)) ∧
                                ((1 : Nat) ≠ (0 : Nat) ∧ (1 : Nat) = (1 : Nat) ∧ false = false) ∧
                                 True ∧
                                  ((0 : Int) ≤ (4 : Int) ∧ (4 : Int) < (↑(8 : Nat) : Int) ∧ (1 : Nat) = (1 : Nat)) ∧
                                   ((1 : Nat) ≠ (0 : Nat) ∧ (1 : Nat) = (1 : Nat) ∧ false = false) ∧
                                    True ∧
                                     ((0 : Int) ≤ (5 : Int) ∧ (5 : Int) < (↑(8 : Nat) : Int) ∧ (1 : Nat) = (1 : Nat)) ∧
                                      ((1 : Nat) ≠ (0 : Nat) ∧ (1 : Nat) = (1 : Nat) ∧ false = false) ∧
                                       True ∧
                                        ((0 : Int) ≤ (6 : Int) ∧ (6 : Int) < (↑(8 : Nat) : Int) ∧ (1 : Nat) = (1 : Nat)) ∧
                                         ((1 : Nat) ≠ (0 : Nat) ∧ (1 : Nat) = (1 : Nat) ∧ false = false) ∧
                                          True ∧
                                           ((0 : Int) ≤ (7 : Int) ∧ (7 : Int) < (↑(8 : Nat) : Int) ∧ (1 : Nat) = (1 : Nat)) ∧
                                            ((1 : Nat) ≠ (0 : Nat) ∧ (1 : Nat) = (1 : Nat) ∧ false = false) ∧
                                             True ∧
                                              True ∧
                                               True ∧
                                                True ∧
                                                 True ∧
                                                  True ∧
                                                   True ∧
                                                    True ∧
                                                     True ∧
                                                      True ∧
                                                       True ∧
                                                        (((AV.d (D.ints IntKind.u32 [(↑(BitVec.toNat x.a) : Int), (↑(BitVec.toNat x.b) : Int), (↑(BitVec.toNat x.c) : Int), (↑(BitVec.toNat x.d) : Int), (↑(BitVec.toNat x.e) : Int), (↑(BitVec.toNat x.f) : Int), (↑(BitVec.toNat x.g) : Int), (↑(BitVec.toNat x.h) : Int)]) =
                                                             AV.d (D.ints IntKind.u32 [(↑(BitVec.toNat x.a) : Int), (↑(BitVec.toNat x.b) : Int), (↑(BitVec.toNat x.c) : Int), (↑(BitVec.toNat x.d) : Int), (↑(BitVec.toNat x.e) : Int), (↑(BitVec.toNat x.f) : Int), (↑(BitVec.toNat x.g) : Int), (↑(BitVec.toNat x.h) : Int)]) ∧
                                                            AV.d (D.str l) = AV.d (D.str l) ∧
                                                             AV.d (D.val (Value.slice none (0 : Nat) (0 : Nat))) = AV.d (D.val (Value.slice none (0 : Nat) (0 : Nat))) ∧
                                                              AV.row (24 : Nat) = AV.row (24 : Nat) ∧
                                                               AV.d (D.val (Value.int IntKind.i64 (↑((4 : Nat) * x_1) : Int))) = AV.d (D.val (Value.int IntKind.i64 (↑((4 : Nat) * x_1) : Int))) ∧
                                                                AV.d (D.val (Value.int IntKind.u32 (↑(BitVec.toNat x.a) : Int))) = AV.d (D.val (Value.int IntKind.u32 (↑(BitVec.toNat (rd x l (Int.toNat (0 : Int))).a) : Int))) ∧
                                                                 AV.d (D.val (Value.int IntKind.u32 (↑(BitVec.toNat x.b) : Int))) = AV.d (D.val (Value.int IntKind.u32 (↑(BitVec.toNat (rd x l (Int.toNat (0 : Int))).b) : Int))) ∧
                                                                  AV.d (D.val (Value.int IntKind.u32 (↑(BitVec.toNat x.c) : Int))) = AV.d (D.val (Value.int IntKind.u32 (↑(BitVec.toNat (rd x l (Int.toNat (0 : Int))).c) : Int))) ∧
                                                                   AV.d (D.val (Value.int IntKind.u32 (↑(BitVec.toNat x.d) : Int))) = AV.d (D.val (Value.int IntKind.u32 (↑(BitVec.toNat (rd x l (Int.toNat (0 : Int))).d) : Int))) ∧
                                                                    AV.d (D.val (Value.int IntKind.u32 (↑(BitVec.toNat x.e) : Int))) = AV.d (D.val (Value.int IntKind.u32 (↑(BitVec.toNat (rd x l (Int.toNat (0 : Int))).e) : Int))) ∧
                                                                     AV.d (D.val (Value.int IntKind.u32 (↑(BitVec.toNat x.f) : Int))) = AV.d (D.val (Value.int IntKind.u32 (↑(BitVec.toNat (rd x l (Int.toNat (0 : Int))).f) : Int))) ∧
                                                                      AV.d (D.val (Value.int IntKind.u32 (↑(BitVec.toNat x.g) : Int))) = AV.d (D.val (Value.int IntKind.u32 (↑(BitVec.toNat (rd x l (Int.toNat (0 : Int))).g) : Int))) ∧
                                                                       AV.d (D.val (Value.int IntKind.u32 (↑(BitVec.toNat x.h) : Int))) = AV.d (D.val (Value.int IntKind.u32 (↑(BitVec.toNat (rd x l (Int.toNat (0 : Int))).h) : Int))) ∧
                                                                        AV.d (D.val (Value.int IntKind.i64 (↑((4 : Nat) * x_1) : Int))) = AV.d (D.val (Value.int IntKind.i64 (↑((4 : Nat) * x_1) : Int))) ∧
                                                                         AV.d (D.val (Value.bool (decide ((↑((4 : Nat) * x_1) : Int) < (64 : Int))))) = AV.d (D.val (Value.bool (decide ((↑((4 : Nat) * x_1) : Int) < (64 : Int))))) ∧
                                                                          AV.row (24 : Nat) = AV.row (24 : Nat) ∧
                                                                           AV.d (D.val (Value.int IntKind.i64 (↑(wl l x_2).length : Int))) = AV.d (D.val (Value.int IntKind.i64 (↑(wl l x_2).length : Int))) ∧
                                                                            AV.d (D.val (Value.bool (decide ((↑(wl l x_2).length : Int) < (64 : Int))))) = AV.d (D.val (Value.bool (decide ((↑(wl l x_2).length : Int) < (64 : Int))))) ∧
                                                                             AV.d
                                                                                (D.ints IntKind.u32
                                                                                 [(↑(BitVec.toNat x.a) : Int), (↑(BitVec.toNat x.b) : Int), (↑(BitVec.toNat x.c) : Int), (↑(BitVec.toNat x.d) : Int), (↑(BitVec.toNat x.e) : Int), (↑(BitVec.toNat x.f) : Int), (↑(BitVec.toNat x.g) : Int), (↑(BitVec.toNat x.h) : Int)]) =
                                                                               AV.d
                                                                                (D.ints IntKind.u32
                                                                                 [(↑(BitVec.toNat x.a) : Int), (↑(BitVec.toNat x.b) : Int), (↑(BitVec.toNat x.c) : Int), (↑(BitVec.toNat x.d) : Int), (↑(BitVec.toNat x.e) : Int), (↑(BitVec.toNat x.f) : Int), (↑(BitVec.toNat x.g) : Int), (↑(BitVec.toNat x.h) : Int)]) ∧
                                                                              AV.dat (D.val (Value.int IntKind.u32 (↑(BitVec.toNat x.a) : Int))) = AV.dat (D.val (Value.int IntKind.u32 (↑(BitVec.toNat x.a) : Int))) ∧
                                                                               AV.d (D.val (Value.int IntKind.u32 (↑(BitVec.toNat x.a) : Int))) = AV.d (D.val (Value.int IntKind.u32 (↑(BitVec.toNat x.a) : Int))) ∧
                                                                                AV.d
                                                                                   (D.ints IntKind.u32
                                                                                    [(↑(BitVec.toNat x.a) : Int), (↑(BitVec.toNat x.b) : Int), (↑(BitVec.toNat x.c) : Int), (↑(BitVec.toNat x.d) : Int), (↑(BitVec.toNat x.e) : Int), (↑(BitVec.toNat x.f) : Int), (↑(BitVec.toNat x.g) : Int),
                                                                                     (↑(BitVec.toNat x.h) : Int)]) =
                                                                                  AV.d
                                                                                   (D.ints IntKind.u32
                                                                                    [(↑(BitVec.toNat x.a) : Int), (↑(BitVec.toNat x.b) : Int), (↑(BitVec.toNat x.c) : Int), (↑(BitVec.toNat x.d) : Int), (↑(BitVec.toNat x.e) : Int), (↑(BitVec.toNat x.f) : Int), (↑(BitVec.toNat x.g) : Int),
                                                                                     (↑(BitVec.toNat x.h) : Int)]) ∧
                                                                                 AV.dat (D.val (Value.int IntKind.u32 (↑(BitVec.toNat x.b) : Int))) = AV.dat (D.val (Value.int IntKind.u32 (↑(BitVec.toNat x.b) : Int))) ∧
                                                                                  AV.d (D.val (Value.int IntKind.u32 (↑(BitVec.toNat x.b) : Int))) = AV.d (D.val (Value.int IntKind.u32 (↑(BitVec.toNat x.b) : Int))) ∧
                                                                                   AV.d
                                                                                      (D.ints IntKind.u32
                                                                                       [(↑(BitVec.toNat x.a) : Int), (↑(BitVec.toNat x.b) : Int), (↑(BitVec.toNat x.c) : Int), (↑(BitVec.toNat x.d) : Int), (↑(BitVec.toNat x.e) : Int), (↑(BitVec.toNat x.f) : Int), (↑(BitVec.toNat x.g) : Int),
                                                                                        (↑(BitVec.toNat x.h) : Int)]) =
                                                                                     AV.d
                                                                                      (D.ints IntKind.u32
                                                                                       [(↑(BitVec.toNat x.a) : Int), (↑(BitVec.toNat x.b) : Int), (↑(BitVec.toNat x.c) : Int), (↑(BitVec.toNat x.d) : Int), (↑(BitVec.toNat x.e) : Int), (↑(BitVec.toNat x.f) : Int), (↑(BitVec.toNat x.g) : Int),
                                                                                        (↑(BitVec.toNat x.h) : Int)]) ∧
                                                                                    AV.dat (D.val (Value.int IntKind.u32 (↑(BitVec.toNat x.c) : Int))) = AV.dat (D.val (Value.int IntKind.u32 (↑(BitVec.toNat x.c) : Int))) ∧
                                                                                     AV.d (D.val (Value.int IntKind.u32 (↑(BitVec.toNat x.c) : Int))) = AV.d (D.val (Value.int IntKind.u32 (↑(BitVec.toNat x.c) : Int))) ∧
                                                                                      AV.d
                                                                                         (D.ints IntKind.u32
                                                                                          [(↑(BitVec.toNat x.a) : Int), (↑(BitVec.toNat x.b) : Int), (↑(BitVec.toNat x.c) : Int), (↑(BitVec.toNat x.d) : Int), (↑(BitVec.toNat x.e) : Int), (↑(BitVec.toNat x.f) : Int), (↑(BitVec.toNat x.g) : Int),
                                                                                           (↑(BitVec.toNat x.h) : Int)]) =
                                                                                        AV.d
                                                                                         (D.ints IntKind.u32
                                                                                          [(↑(BitVec.toNat x.a) : Int), (↑(BitVec.toNat x.b) : Int), (↑(BitVec.toNat x.c) : Int), (↑(BitVec.toNat x.d) : Int), (↑(BitVec.toNat x.e) : Int), (↑(BitVec.toNat x.f) : Int), (↑(BitVec.toNat x.g) : Int),
                                                                                           (↑(BitVec.toNat x.h) : Int)]) ∧
                                                                                       AV.dat (D.val (Value.int IntKind.u32 (↑(BitVec.toNat x.d) : Int))) = AV.dat (D.val (Value.int IntKind.u32 (↑(BitVec.toNat x.d) : Int))) ∧
                                                                                        AV.d (D.val (Value.int IntKind.u32 (↑(BitVec.toNat x.d) : Int))) = AV.d (D.val (Value.int IntKind.u32 (↑(BitVec.toNat x.d) : Int))) ∧
                                                                                         AV.d
                                                                                            (D.ints IntKind.u32
                                                                                             [(↑(BitVec.toNat x.a) : Int), (↑(BitVec.toNat x.b) : Int), (↑(BitVec.toNat x.c) : Int), (↑(BitVec.toNat x.d) : Int), (↑(BitVec.toNat x.e) : Int), (↑(BitVec.toNat x.f) : Int), (↑(BitVec.toNat x.g) : Int),
                                                                                              (↑(BitVec.toNat x.h) : Int)]) =
                                                                                           AV.d
                                                                                            (D.ints IntKind.u32
                                                                                             [(↑(BitVec.toNat x.a) : Int), (↑(BitVec.toNat x.b) : Int), (↑(BitVec.toNat x.c) : Int), (↑(BitVec.toNat x.d) : Int), (↑(BitVec.toNat x.e) : Int), (↑(BitVec.toNat x.f) : Int), (↑(BitVec.toNat x.g) : Int),
                                                                                              (↑(BitVec.toNat x.h) : Int)]) ∧
                                                                                          AV.dat (D.val (Value.int IntKind.u32 (↑(BitVec.toNat x.e) : Int))) = AV.dat (D.val (Value.int IntKind.u32 (↑(BitVec.toNat x.e) : Int))) ∧
                                                                                           AV.d (D.val (Value.int IntKind.u32 (↑(BitVec.toNat x.e) : Int))) = AV.d (D.val (Value.int IntKind.u32 (↑(BitVec.toNat x.e) : Int))) ∧
                                                                                            AV.d
                                                                                               (D.ints IntKind.u32
                                                                                                [(↑(BitVec.toNat x.a) : Int), (↑(BitVec.toNat x.b) : Int), (↑(BitVec.toNat x.c) : Int), (↑(BitVec.toNat x.d) : Int), (↑(BitVec.toNat x.e) : Int), (↑(BitVec.toNat x.f) : Int), (↑(BitVec.toNat x.g) : Int),
                                                                                                 (↑(BitVec.toNat x.h) : Int)]) =
                                                                                              AV.d
                                                                                               (D.ints IntKind.u32
                                                                                                [(↑(BitVec.toNat x.a) : Int), (↑(BitVec.toNat x.b) : Int), (↑(BitVec.toNat x.c) : Int), (↑(BitVec.toNat x.d) : Int), (↑(BitVec.toNat x.e) : Int), (↑(BitVec.toNat x.f) : Int), (↑(BitVec.toNat x.g) : Int),
                                                                                                 (↑(BitVec.toNat x.h) : Int)]) ∧
                                                                                             AV.dat (D.val (Value.int IntKind.u32 (↑(BitVec.toNat x.f) : Int))) = AV.dat (D.val (Value.int IntKind.u32 (↑(BitVec.toNat x.f) : Int))) ∧
                                                                                              AV.d (D.val (Value.int IntKind.u32 (↑(BitVec.toNat x.f) : Int))) = AV.d (D.val (Value.int IntKind.u32 (↑(BitVec.toNat x.f) : Int))) ∧
                                                                                               AV.d
                                                                                                  (D.ints IntKind.u32
                                                                                                   [(↑(BitVec.toNat x.a) : Int), (↑(BitVec.toNat x.b) : Int), (↑(BitVec.toNat x.c) : Int), (↑(BitVec.toNat x.d) : Int), (↑(BitVec.toNat x.e) : Int), (↑(BitVec.toNat x.f) : Int), (↑(BitVec.toNat x.g) : Int),
                                                                                                    (↑(BitVec.toNat x.h) : Int)]) =
                                                                                                 AV.d
                                                                                                  (D.ints IntKind.u32
                                                                                                   [(↑(BitVec.toNat x.a) : Int), (↑(BitVec.toNat x.b) : Int), (↑(BitVec.toNat x.c) : Int), (↑(BitVec.toNat x.d) : Int), (↑(BitVec.toNat x.e) : Int), (↑(BitVec.toNat x.f) : Int), (↑(BitVec.toNat x.g) : Int),
                                                                                                    (↑(BitVec.toNat x.h) : Int)]) ∧
                                                                                                AV.dat (D.val (Value.int IntKind.u32 (↑(BitVec.toNat x.g) : Int))) = AV.dat (D.val (Value.int IntKind.u32 (↑(BitVec.toNat x.g) : Int))) ∧
                                                                                                 AV.d (D.val (Value.int IntKind.u32 (↑(BitVec.toNat x.g) : Int))) = AV.d (D.val (Value.int IntKind.u32 (↑(BitVec.toNat x.g) : Int))) ∧
                                                                                                  AV.d
                                                                                                     (D.ints IntKind.u32
                                                                                                      [(↑(BitVec.toNat x.a) : Int), (↑(BitVec.toNat x.b) : Int), (↑(BitVec.toNat x.c) : Int), (↑(BitVec.toNat x.d) : Int), (↑(BitVec.toNat x.e) : Int), (↑(BitVec.toNat x.f) : Int),
                                                                                                       (↑(BitVec.toNat x.g) : Int), (↑(BitVec.toNat x.h) : Int)]) =
                                                                                                    AV.d
                                                                                                     (D.ints IntKind.u32
                                                                                                      [(↑(BitVec.toNat x.a) : Int), (↑(BitVec.toNat x.b) : Int), (↑(BitVec.toNat x.c) : Int), (↑(BitVec.toNat x.d) : Int), (↑(BitVec.toNat x.e) : Int), (↑(BitVec.toNat x.f) : Int),
                                                                                                       (↑(BitVec.toNat x.g) : Int), (↑(BitVec.toNat x.h) : Int)]) ∧
                                                                                                   AV.dat (D.val (Value.int IntKind.u32 (↑(BitVec.toNat x.h) : Int))) = AV.dat (D.val (Value.int IntKind.u32 (↑(BitVec.toNat x.h) : Int))) ∧
                                                                                                    AV.d (D.val (Value.int IntKind.u32 (↑(BitVec.toNat x.h) : Int))) = AV.d (D.val (Value.int IntKind.u32 (↑(BitVec.toNat x.h) : Int))) ∧
                                                                                                     AV.row (24 : Nat) = AV.row (24 : Nat) ∧
                                                                                                      AV.d (D.val (Value.int IntKind.i64 (↑(wl l x_2).length : Int))) = AV.d (D.val (Value.int IntKind.i64 (↑(wl l x_2).length : Int))) ∧
                                                                                                       AV.d (D.val (Value.int IntKind.i64 (0 : Int))) = AV.d (D.val (Value.int IntKind.i64 (↑(Int.toNat (0 : Int)) : Int))) ∧ True) ∧
                                                           (some (Blk.row (113 : TypeId) (D.ints IntKind.u32 (wl l x_2))) = some (Blk.row (113 : TypeId) (D.ints IntKind.u32 (wl l x_2))) ∧ True) ∧ true = true) ∧
                                                          Int.toNat (0 : Int) ≤ (64 : Nat)) ∧
                                                         ∀ (x_3 : Nat),
                                                          x_3 ≤ (64 : Nat) →
                                                           true = true ∧
                                                            True ∧
                                                             match decide ((↑x_3 : Int) < (↑(wl l x_2).length : Int)) with
                                                             | true =>
                                                              True ∧
                                                               ((0 : Int) ≤ (↑x_3 : Int) ∧ (↑x_3 : Int) < (↑(wl l x_2).length : Int) ∧ (1 : Nat) = (1 : Nat)) ∧
                                                                ((↑x_3 : Int).toNat < (wl l x_2).length ∧ (1 : Nat) = (1 : Nat) ∧ false = false) ∧
                                                                 True ∧
                                                                  True ∧
                                                                   True ∧
                                                                    True ∧
                                                                     (∃ (x_4 : W),
                                                                       ∃ (n : Nat),
                                                                        [D.val (Value.int IntKind.u32 (↑(BitVec.toNat (rd x l x_3).e) : Int)), D.val (Value.int IntKind.u64 (6 : Int))] = [D.val (Value.int IntKind.u32 (↑(BitVec.toNat x_4) : Int)), D.val (Value.int IntKind.u64 (↑n : Int))] ∧ (1 : Nat) ≤ n ∧ n ≤ (31 : Nat)) ∧
                                                                      True ∧
                                                                       (∃ (x_4 : W),
                                                                         ∃ (n : Nat),
                                                                          [D.val (Value.int IntKind.u32 (↑(BitVec.toNat (rd x l x_3).e) : Int)), D.val (Value.int IntKind.u64 (11 : Int))] = [D.val (Value.int IntKind.u32 (↑(BitVec.toNat x_4) : Int)), D.val (Value.int IntKind.u64 (↑n : Int))] ∧ (1 : Nat) ≤ n ∧ n ≤ (31 : Nat)) ∧
                                                                        True ∧
                                                                         True ∧
                                                                          (∃ (x_4 : W),
                                                                            ∃ (n : Nat),
                                                                             [D.val (Value.int IntKind.u32 (↑(BitVec.toNat (rd x l x_3).e) : Int)), D.val (Value.int IntKind.u64 (25 : Int))] = [D.val (Value.int IntKind.u32 (↑(BitVec.toNat x_4) : Int)), D.val (Value.int IntKind.u64 (↑n : Int))] ∧
                                                                              (1 : Nat) ≤ n ∧ n ≤ (31 : Nat)) ∧
                                                                           True ∧
                                                                            True ∧
                                                                             True ∧
                                                                              True ∧
                                                                               True ∧
                                                                                (∃ (x_4 : W),
                                                                                  ∃ (y : W),
                                                                                   ∃ (z : W),
                                                                                    [D.val (Value.int IntKind.u32 (↑(BitVec.toNat (rd x l x_3).e) : Int)), D.val (Value.int IntKind.u32 (↑(BitVec.toNat (rd x l x_3).f) : Int)), D.val (Value.int IntKind.u32 (↑(BitVec.toNat (rd x l x_3).g) : Int))] =
                                                                                     [D.val (Value.int IntKind.u32 (↑(BitVec.toNat x_4) : Int)), D.val (Value.int IntKind.u32 (↑(BitVec.toNat y) : Int)), D.val (Value.int IntKind.u32 (↑(BitVec.toNat z) : Int))]) ∧
                                                                                 True ∧
                                                                                  True ∧
                                                                                   ((0 : Int) ≤ (↑x_3 : Int) ∧ (↑x_3 : Int) < (↑(64 : Nat) : Int) ∧ (64 : Nat) = (64 : Nat) ∧ (1 : Nat) = (1 : Nat)) ∧
                                                                                    ((1 : Nat) ≠ (0 : Nat) ∧ (1 : Nat) = (1 : Nat) ∧ false = false) ∧
                                                                                     True ∧
                                                                                      True ∧
                                                                                       True ∧
                                                                                        True ∧
                                                                                         True ∧
                                                                                          (∃ (x_4 : W),
                                                                                            ∃ (n : Nat),
                                                                                             [D.val (Value.int IntKind.u32 (↑(BitVec.toNat (rd x l x_3).a) : Int)), D.val (Value.int IntKind.u64 (2 : Int))] =
                                                                                               [D.val (Value.int IntKind.u32 (↑(BitVec.toNat x_4) : Int)), D.val (Value.int IntKind.u64 (↑n : Int))] ∧
                                                                                              (1 : Nat) ≤ n ∧ n ≤ (31 : Nat)) ∧
                                                                                           True ∧
                                                                                            (∃ (x_4 : W),
                                                                                              ∃ (n : Nat),
                                                                                               [D.val (Value.int IntKind.u32 (↑(BitVec.toNat (rd x l x_3).a) : Int)), D.val (Value.int IntKind.u64 (13 : Int))] =
                                                                                                 [D.val (Value.int IntKind.u32 (↑(BitVec.toNat x_4) : Int)), D.val (Value.int IntKind.u64 (↑n : Int))] ∧
                                                                                                (1 : Nat) ≤ n ∧ n ≤ (31 : Nat)) ∧
                                                                                             True ∧
                                                                                              True ∧
                                                                                               (∃ (x_4 : W),
                                                                                                 ∃ (n : Nat),
                                                                                                  [D.val (Value.int IntKind.u32 (↑(BitVec.toNat (rd x l x_3).a) : Int)), D.val (Value.int IntKind.u64 (22 : Int))] =
                                                                                                    [D.val (Value.int IntKind.u32 (↑(BitVec.toNat x_4) : Int)), D.val (Value.int IntKind.u64 (↑n : Int))] ∧
                                                                                                   (1 : Nat) ≤ n ∧ n ≤ (31 : Nat)) ∧
                                                                                                True ∧
                                                                                                 True ∧
                                                                                                  True ∧
                                                                                                   True ∧
                                                                                                    (∃ (x_4 : W),
                                                                                                      ∃ (y : W),
                                                                                                       ∃ (z : W),
                                                                                                        [D.val (Value.int IntKind.u32 (↑(BitVec.toNat (rd x l x_3).a) : Int)), D.val (Value.int IntKind.u32 (↑(BitVec.toNat (rd x l x_3).b) : Int)),
                                                                                                          D.val (Value.int IntKind.u32 (↑(BitVec.toNat (rd x l x_3).c) : Int))] =
                                                                                                         [D.val (Value.int IntKind.u32 (↑(BitVec.toNat x_4) : Int)), D.val (Value.int IntKind.u32 (↑(BitVec.toNat y) : Int)), D.val (Value.int IntKind.u32 (↑(BitVec.toNat z) : Int))]) ∧
                                                                                                     True ∧
                                                                                                      True ∧
                                                                                                       True ∧
                                                                                                        True ∧
                                                                                                         True ∧
                                                                                                          True ∧
                                                                                                           True ∧
                                                                                                            True ∧
                                                                                                             True ∧
                                                                                                              True ∧
                                                                                                               True ∧
                                                                                                                True ∧
                                                                                                                 True ∧
                                                                                                                  True ∧
                                                                                                                   True ∧
                                                                                                                    True ∧
                                                                                                                     True ∧
                                                                                                                      True ∧
                                                                                                                       True ∧
                                                                                                                        True ∧
                                                                                                                         True ∧
                                                                                                                          True ∧
                                                                                                                           True ∧
                                                                                                                            True ∧
                                                                                                                             ((AV.d
                                                                                                                                  (D.ints IntKind.u32
                                                                                                                                   [(↑(BitVec.toNat x.a) : Int), (↑(BitVec.toNat x.b) : Int), (↑(BitVec.toNat x.c) : Int), (↑(BitVec.toNat x.d) : Int),
                                                                                                                                    (↑(BitVec.toNat x.e) : Int), (↑(BitVec.toNat x.f) : Int), (↑(BitVec.toNat x.g) : Int), (↑(BitVec.toNat x.h) : Int)]) =
                                                                                                                                 AV.d
                                                                                                                                  (D.ints IntKind.u32
                                                                                                                                   [(↑(BitVec.toNat x.a) : Int), (↑(BitVec.toNat x.b) : Int), (↑(BitVec.toNat x.c) : Int), (↑(BitVec.toNat x.d) : Int),
                                                                                                                                    (↑(BitVec.toNat x.e) : Int), (↑(BitVec.toNat x.f) : Int), (↑(BitVec.toNat x.g) : Int), (↑(BitVec.toNat x.h) : Int)]) ∧
                                                                                                                                AV.d (D.str l) = AV.d (D.str l) ∧
                                                                                                                                 AV.d (D.val (Value.slice none (0 : Nat) (0 : Nat))) = AV.d (D.val (Value.slice none (0 : Nat) (0 : Nat))) ∧
                                                                                                                                  AV.row (24 : Nat) = AV.row (24 : Nat) ∧
                                                                                                                                   AV.d (D.val (Value.int IntKind.i64 (↑((4 : Nat) * x_1) : Int))) = AV.d (D.val (Value.int IntKind.i64 (↑((4 : Nat) * x_1) : Int))) ∧
                                                                                                                                    AV.d
                                                                                                                                       (D.val
                                                                                                                                        (Value.int IntKind.u32
                                                                                                                                         (IntKind.u32.wrap
                                                                                                                                          (IntKind.u32.wrap
                                                                                                                                            (IntKind.u32.wrap
                                                                                                                                              (IntKind.u32.wrap
                                                                                                                                                (IntKind.u32.wrap
                                                                                                                                                  ((↑(BitVec.toNat (rd x l x_3).h) : Int) +
                                                                                                                                                   ixor IntKind.u32
                                                                                                                                                    (ixor IntKind.u32
                                                                                                                                                     (↑(BitVec.toNat
                                                                                                                                                        (rr (toW (D.val (Value.int IntKind.u32 (↑(BitVec.toNat (rd x l x_3).e) : Int)))) (6 : Nat))) :
                                                                                                                                                      Int)
                                                                                                                                                     (↑(BitVec.toNat
                                                                                                                                                        (rr (toW (D.val (Value.int IntKind.u32 (↑(BitVec.toNat (rd x l x_3).e) : Int)))) (11 : Nat))) :
                                                                                                                                                      Int))
                                                                                                                                                    (↑(BitVec.toNat
                                                                                                                                                       (rr (toW (D.val (Value.int IntKind.u32 (↑(BitVec.toNat (rd x l x_3).e) : Int)))) (25 : Nat))) :
                                                                                                                                                     Int)) +
                                                                                                                                                 (↑(BitVec.toNat
                                                                                                                                                    (chW (toW (D.val (Value.int IntKind.u32 (↑(BitVec.toNat (rd x l x_3).e) : Int))))
                                                                                                                                                     (toW (D.val (Value.int IntKind.u32 (↑(BitVec.toNat (rd x l x_3).f) : Int))))
                                                                                                                                                     (toW (D.val (Value.int IntKind.u32 (↑(BitVec.toNat (rd x l x_3).g) : Int)))))) :
                                                                                                                                                  Int)) +
                                                                                                                                               gl1.getD (↑x_3 : Int).toNat (0 : Int)) +
                                                                                                                                             (wl l x_2).getD (↑x_3 : Int).toNat (0 : Int)) +
                                                                                                                                           IntKind.u32.wrap
                                                                                                                                            (ixor IntKind.u32
                                                                                                                                              (ixor IntKind.u32
                                                                                                                                               (↑(BitVec.toNat (rr (toW (D.val (Value.int IntKind.u32 (↑(BitVec.toNat (rd x l x_3).a) : Int)))) (2 : Nat))) : Int)
                                                                                                                                               (↑(BitVec.toNat (rr (toW (D.val (Value.int IntKind.u32 (↑(BitVec.toNat (rd x l x_3).a) : Int)))) (13 : Nat))) :
                                                                                                                                                Int))
                                                                                                                                              (↑(BitVec.toNat (rr (toW (D.val (Value.int IntKind.u32 (↑(BitVec.toNat (rd x l x_3).a) : Int)))) (22 : Nat))) : Int) +
                                                                                                                                             (↑(BitVec.toNat
                                                                                                                                                (mjW (toW (D.val (Value.int IntKind.u32 (↑(BitVec.toNat (rd x l x_3).a) : Int))))
                                                                                                                                                 (toW (D.val (Value.int IntKind.u32 (↑(BitVec.toNat (rd x l x_3).b) : Int))))
                                                                                                                                                 (toW (D.val (Value.int IntKind.u32 (↑(BitVec.toNat (rd x l x_3).c) : Int)))))) :
                                                                                                                                              Int)))))) =
                                                                                                                                      AV.d (D.val (Value.int IntKind.u32 (↑(BitVec.toNat (rd x l (IntKind.i64.wrap ((↑x_3 : Int) + (1 : Int))).toNat).a) : Int))) ∧
                                                                                                                                     AV.d (D.val (Value.int IntKind.u32 (↑(BitVec.toNat (rd x l x_3).a) : Int))) =
                                                                                                                                       AV.d (D.val (Value.int IntKind.u32 (↑(BitVec.toNat (rd x l (IntKind.i64.wrap ((↑x_3 : Int) + (1 : Int))).toNat).b) : Int))) ∧
                                                                                                                                      AV.d (D.val (Value.int IntKind.u32 (↑(BitVec.toNat (rd x l x_3).b) : Int))) =
                                                                                                                                        AV.d (D.val (Value.int IntKind.u32 (↑(BitVec.toNat (rd x l (IntKind.i64.wrap ((↑x_3 : Int) + (1 : Int))).toNat).c) : Int))) ∧
                                                                                                                                       AV.d (D.val (Value.int IntKind.u32 (↑(BitVec.toNat (rd x l x_3).c) : Int))) =
                                                                                                                                         AV.d (D.val (Value.int IntKind.u32 (↑(BitVec.toNat (rd x l (IntKind.i64.wrap ((↑x_3 : Int) + (1 : Int))).toNat).d) : Int))) ∧
                                                                                                                                        AV.d
                                                                                                                                           (D.val
                                                                                                                                            (Value.int IntKind.u32
                                                                                                                                             (IntKind.u32.wrap
                                                                                                                                              ((↑(BitVec.toNat (rd x l x_3).d) : Int) +
                                                                                                                                               IntKind.u32.wrap
                                                                                                                                                (IntKind.u32.wrap
                                                                                                                                                  (IntKind.u32.wrap
                                                                                                                                                    (IntKind.u32.wrap
                                                                                                                                                      ((↑(BitVec.toNat (rd x l x_3).h) : Int) +
                                                                                                                                                       ixor IntKind.u32
                                                                                                                                                        (ixor IntKind.u32
                                                                                                                                                         (↑(BitVec.toNat
                                                                                                                                                            (rr (toW (D.val (Value.int IntKind.u32 (↑(BitVec.toNat (rd x l x_3).e) : Int))))
                                                                                                                                                             (6 : Nat))) :
                                                                                                                                                          Int)
                                                                                                                                                         (↑(BitVec.toNat
                                                                                                                                                            (rr (toW (D.val (Value.int IntKind.u32 (↑(BitVec.toNat (rd x l x_3).e) : Int))))
                                                                                                                                                             (11 : Nat))) :
                                                                                                                                                          Int))
                                                                                                                                                        (↑(BitVec.toNat
                                                                                                                                                           (rr (toW (D.val (Value.int IntKind.u32 (↑(BitVec.toNat (rd x l x_3).e) : Int))))
                                                                                                                                                            (25 : Nat))) :
                                                                                                                                                         Int)) +
                                                                                                                                                     (↑(BitVec.toNat
                                                                                                                                                        (chW (toW (D.val (Value.int IntKind.u32 (↑(BitVec.toNat (rd x l x_3).e) : Int))))
                                                                                                                                                         (toW (D.val (Value.int IntKind.u32 (↑(BitVec.toNat (rd x l x_3).f) : Int))))
                                                                                                                                                         (toW (D.val (Value.int IntKind.u32 (↑(BitVec.toNat (rd x l x_3).g) : Int)))))) :
                                                                                                                                                      Int)) +
                                                                                                                                                   gl1.getD (↑x_3 : Int).toNat (0 : Int)) +
                                                                                                                                                 (wl l x_2).getD (↑x_3 : Int).toNat (0 : Int)))))) =
                                                                                                                                          AV.d (D.val (Value.int IntKind.u32 (↑(BitVec.toNat (rd x l (IntKind.i64.wrap ((↑x_3 : Int) + (1 : Int))).toNat).e) : Int))) ∧
                                                                                                                                         AV.d (D.val (Value.int IntKind.u32 (↑(BitVec.toNat (rd x l x_3).e) : Int))) =
                                                                                                                                           AV.d
                                                                                                                                            (D.val (Value.int IntKind.u32 (↑(BitVec.toNat (rd x l (IntKind.i64.wrap ((↑x_3 : Int) + (1 : Int))).toNat).f) : Int))) ∧
                                                                                                                                          AV.d (D.val (Value.int IntKind.u32 (↑(BitVec.toNat (rd x l x_3).f) : Int))) =
                                                                                                                                            AV.d
                                                                                                                                             (D.val (Value.int IntKind.u32 (↑(BitVec.toNat (rd x l (IntKind.i64.wrap ((↑x_3 : Int) + (1 : Int))).toNat).g) : Int))) ∧
                                                                                                                                           AV.d (D.val (Value.int IntKind.u32 (↑(BitVec.toNat (rd x l x_3).g) : Int))) =
                                                                                                                                             AV.d
                                                                                                                                              (D.val
                                                                                                                                               (Value.int IntKind.u32 (↑(BitVec.toNat (rd x l (IntKind.i64.wrap ((↑x_3 : Int) + (1 : Int))).toNat).h) : Int))) ∧
                                                                                                                                            AV.d (D.val (Value.int IntKind.i64 (↑((4 : Nat) * x_1) : Int))) =
                                                                                                                                              AV.d (D.val (Value.int IntKind.i64 (↑((4 : Nat) * x_1) : Int))) ∧
                                                                                                                                             AV.d (D.val (Value.bool (decide ((↑((4 : Nat) * x_1) : Int) < (64 : Int))))) =
                                                                                                                                               AV.d (D.val (Value.bool (decide ((↑((4 : Nat) * x_1) : Int) < (64 : Int))))) ∧
                                                                                                                                              AV.row (24 : Nat) = AV.row (24 : Nat) ∧
                                                                                                                                               AV.d (D.val (Value.int IntKind.i64 (↑(wl l x_2).length : Int))) =
                                                                                                                                                 AV.d (D.val (Value.int IntKind.i64 (↑(wl l x_2).length : Int))) ∧
                                                                                                                                                AV.d (D.val (Value.bool (decide ((↑(wl l x_2).length : Int) < (64 : Int))))) =
                                                                                                                                                  AV.d (D.val (Value.bool (decide ((↑(wl l x_2).length : Int) < (64 : Int))))) ∧
                                                                                                                                                 AV.d
                                                                                                                                                    (D.ints IntKind.u32
                                                                                                                                                     [(↑(BitVec.toNat x.a) : Int), (↑(BitVec.toNat x.b) : Int), (↑(BitVec.toNat x.c) : Int),
                                                                                                                                                      (↑(BitVec.toNat x.d) : Int), (↑(BitVec.toNat x.e) : Int), (↑(BitVec.toNat x.f) : Int),
                                                                                                                                                      (↑(BitVec.toNat x.g) : Int), (↑(BitVec.toNat x.h) : Int)]) =
                                                                                                                                                   AV.d
                                                                                                                                                    (D.ints IntKind.u32
                                                                                                                                                     [(↑(BitVec.toNat x.a) : Int), (↑(BitVec.toNat x.b) : Int), (↑(BitVec.toNat x.c) : Int),
                                                                                                                                                      (↑(BitVec.toNat x.d) : Int), (↑(BitVec.toNat x.e) : Int), (↑(BitVec.toNat x.f) : Int),
                                                                                                                                                      (↑(BitVec.toNat x.g) : Int), (↑(BitVec.toNat x.h) : Int)]) ∧
                                                                                                                                                  AV.dat (D.val (Value.int IntKind.u32 (↑(BitVec.toNat x.a) : Int))) =
                                                                                                                                                    AV.dat (D.val (Value.int IntKind.u32 (↑(BitVec.toNat x.a) : Int))) ∧
                                                                                                                                                   AV.d (D.val (Value.int IntKind.u32 (↑(BitVec.toNat x.a) : Int))) =
                                                                                                                                                     AV.d (D.val (Value.int IntKind.u32 (↑(BitVec.toNat x.a) : Int))) ∧
                                                                                                                                                    AV.d
                                                                                                                                                       (D.ints IntKind.u32
                                                                                                                                                        [(↑(BitVec.toNat x.a) : Int), (↑(BitVec.toNat x.b) : Int), (↑(BitVec.toNat x.c) : Int),
                                                                                                                                                         (↑(BitVec.toNat x.d) : Int), (↑(BitVec.toNat x.e) : Int), (↑(BitVec.toNat x.f) : Int),
                                                                                                                                                         (↑(BitVec.toNat x.g) : Int), (↑(BitVec.toNat x.h) : Int)]) =
                                                                                                                                                      AV.d
                                                                                                                                                       (D.ints IntKind.u32
                                                                                                                                                        [(↑(BitVec.toNat x.a) : Int), (↑(BitVec.toNat x.b) : Int), (↑(BitVec.toNat x.c) : Int),
                                                                                                                                                         (↑(BitVec.toNat x.d) : Int), (↑(BitVec.toNat x.e) : Int), (↑(BitVec.toNat x.f) : Int),
                                                                                                                                                         (↑(BitVec.toNat x.g) : Int), (↑(BitVec.toNat x.h) : Int)]) ∧
                                                                                                                                                     AV.dat (D.val (Value.int IntKind.u32 (↑(BitVec.toNat x.b) : Int))) =
                                                                                                                                                       AV.dat (D.val (Value.int IntKind.u32 (↑(BitVec.toNat x.b) : Int))) ∧
                                                                                                                                                      AV.d (D.val (Value.int IntKind.u32 (↑(BitVec.toNat x.b) : Int))) =
                                                                                                                                                        AV.d (D.val (Value.int IntKind.u32 (↑(BitVec.toNat x.b) : Int))) ∧
                                                                                                                                                       AV.d
                                                                                                                                                          (D.ints IntKind.u32
                                                                                                                                                           [(↑(BitVec.toNat x.a) : Int), (↑(BitVec.toNat x.b) : Int), (↑(BitVec.toNat x.c) : Int),
                                                                                                                                                            (↑(BitVec.toNat x.d) : Int), (↑(BitVec.toNat x.e) : Int), (↑(BitVec.toNat x.f) : Int),
                                                                                                                                                            (↑(BitVec.toNat x.g) : Int), (↑(BitVec.toNat x.h) : Int)]) =
                                                                                                                                                         AV.d
                                                                                                                                                          (D.ints IntKind.u32
                                                                                                                                                           [(↑(BitVec.toNat x.a) : Int), (↑(BitVec.toNat x.b) : Int), (↑(BitVec.toNat x.c) : Int),
                                                                                                                                                            (↑(BitVec.toNat x.d) : Int), (↑(BitVec.toNat x.e) : Int), (↑(BitVec.toNat x.f) : Int),
                                                                                                                                                            (↑(BitVec.toNat x.g) : Int), (↑(BitVec.toNat x.h) : Int)]) ∧
                                                                                                                                                        AV.dat (D.val (Value.int IntKind.u32 (↑(BitVec.toNat x.c) : Int))) =
                                                                                                                                                          AV.dat (D.val (Value.int IntKind.u32 (↑(BitVec.toNat x.c) : Int))) ∧
                                                                                                                                                         AV.d (D.val (Value.int IntKind.u32 (↑(BitVec.toNat x.c) : Int))) =
                                                                                                                                                           AV.d (D.val (Value.int IntKind.u32 (↑(BitVec.toNat x.c) : Int))) ∧
                                                                                                                                                          AV.d
                                                                                                                                                             (D.ints IntKind.u32
                                                                                                                                                              [(↑(BitVec.toNat x.a) : Int), (↑(BitVec.toNat x.b) : Int),
                                                                                                                                                               (↑(BitVec.toNat x.c) : Int), (↑(BitVec.toNat x.d) : Int),
                                                                                                                                                               (↑(BitVec.toNat x.e) : Int), (↑(BitVec.toNat x.f) : Int),
                                                                                                                                                               (↑(BitVec.toNat x.g) : Int), (↑(BitVec.toNat x.h) : Int)]) =
                                                                                                                                                            AV.d
                                                                                                                                                             (D.ints IntKind.u32
                                                                                                                                                              [(↑(BitVec.toNat x.a) : Int), (↑(BitVec.toNat x.b) : Int),
                                                                                                                                                               (↑(BitVec.toNat x.c) : Int), (↑(BitVec.toNat x.d) : Int),
                                                                                                                                                               (↑(BitVec.toNat x.e) : Int), (↑(BitVec.toNat x.f) : Int),
                                                                                                                                                               (↑(BitVec.toNat x.g) : Int), (↑(BitVec.toNat x.h) : Int)]) ∧
                                                                                                                                                           AV.dat (D.val (Value.int IntKind.u32 (↑(BitVec.toNat x.d) : Int))) =
                                                                                                                                                             AV.dat (D.val (Value.int IntKind.u32 (↑(BitVec.toNat x.d) : Int))) ∧
                                                                                                                                                            AV.d (D.val (Value.int IntKind.u32 (↑(BitVec.toNat x.d) : Int))) =
                                                                                                                                                              AV.d (D.val (Value.int IntKind.u32 (↑(BitVec.toNat x.d) : Int))) ∧
                                                                                                                                                             AV.d
                                                                                                                                                                (D.ints IntKind.u32
                                                                                                                                                                 [(↑(BitVec.toNat x.a) : Int), (↑(BitVec.toNat x.b) : Int),
                                                                                                                                                                  (↑(BitVec.toNat x.c) : Int), (↑(BitVec.toNat x.d) : Int),
                                                                                                                                                                  (↑(BitVec.toNat x.e) : Int), (↑(BitVec.toNat x.f) : Int),
                                                                                                                                                                  (↑(BitVec.toNat x.g) : Int), (↑(BitVec.toNat x.h) : Int)]) =
                                                                                                                                                               AV.d
                                                                                                                                                                (D.ints IntKind.u32
                                                                                                                                                                 [(↑(BitVec.toNat x.a) : Int), (↑(BitVec.toNat x.b) : Int),
                                                                                                                                                                  (↑(BitVec.toNat x.c) : Int), (↑(BitVec.toNat x.d) : Int),
                                                                                                                                                                  (↑(BitVec.toNat x.e) : Int), (↑(BitVec.toNat x.f) : Int),
                                                                                                                                                                  (↑(BitVec.toNat x.g) : Int), (↑(BitVec.toNat x.h) : Int)]) ∧
                                                                                                                                                              AV.dat (D.val (Value.int IntKind.u32 (↑(BitVec.toNat x.e) : Int))) =
                                                                                                                                                                AV.dat (D.val (Value.int IntKind.u32 (↑(BitVec.toNat x.e) : Int))) ∧
                                                                                                                                                               AV.d (D.val (Value.int IntKind.u32 (↑(BitVec.toNat x.e) : Int))) =
                                                                                                                                                                 AV.d (D.val (Value.int IntKind.u32 (↑(BitVec.toNat x.e) : Int))) ∧
                                                                                                                                                                AV.d
                                                                                                                                                                   (D.ints IntKind.u32
                                                                                                                                                                    [(↑(BitVec.toNat x.a) : Int), (↑(BitVec.toNat x.b) : Int),
                                                                                                                                                                     (↑(BitVec.toNat x.c) : Int), (↑(BitVec.toNat x.d) : Int),
                                                                                                                                                                     (↑(BitVec.toNat x.e) : Int), (↑(BitVec.toNat x.f) : Int),
                                                                                                                                                                     (↑(BitVec.toNat x.g) : Int), (↑(BitVec.toNat x.h) : Int)]) =
                                                                                                                                                                  AV.d
                                                                                                                                                                   (D.ints IntKind.u32
                                                                                                                                                                    [(↑(BitVec.toNat x.a) : Int), (↑(BitVec.toNat x.b) : Int),
                                                                                                                                                                     (↑(BitVec.toNat x.c) : Int), (↑(BitVec.toNat x.d) : Int),
                                                                                                                                                                     (↑(BitVec.toNat x.e) : Int), (↑(BitVec.toNat x.f) : Int),
                                                                                                                                                                     (↑(BitVec.toNat x.g) : Int), (↑(BitVec.toNat x.h) : Int)]) ∧
                                                                                                                                                                 AV.dat (D.val (Value.int IntKind.u32 (↑(BitVec.toNat x.f) : Int))) =
                                                                                                                                                                   AV.dat (D.val (Value.int IntKind.u32 (↑(BitVec.toNat x.f) : Int))) ∧
                                                                                                                                                                  AV.d (D.val (Value.int IntKind.u32 (↑(BitVec.toNat x.f) : Int))) =
                                                                                                                                                                    AV.d (D.val (Value.int IntKind.u32 (↑(BitVec.toNat x.f) : Int))) ∧
                                                                                                                                                                   AV.d
                                                                                                                                                                      (D.ints IntKind.u32
                                                                                                                                                                       [(↑(BitVec.toNat x.a) : Int), (↑(BitVec.toNat x.b) : Int),
                                                                                                                                                                        (↑(BitVec.toNat x.c) : Int), (↑(BitVec.toNat x.d) : Int),
                                                                                                                                                                        (↑(BitVec.toNat x.e) : Int), (↑(BitVec.toNat x.f) : Int),
                                                                                                                                                                        (↑(BitVec.toNat x.g) : Int), (↑(BitVec.toNat x.h) : Int)]) =
                                                                                                                                                                     AV.d
                                                                                                                                                                      (D.ints IntKind.u32
                                                                                                                                                                       [(↑(BitVec.toNat x.a) : Int), (↑(BitVec.toNat x.b) : Int),
                                                                                                                                                                        (↑(BitVec.toNat x.c) : Int), (↑(BitVec.toNat x.d) : Int),
                                                                                                                                                                        (↑(BitVec.toNat x.e) : Int), (↑(BitVec.toNat x.f) : Int),
                                                                                                                                                                        (↑(BitVec.toNat x.g) : Int), (↑(BitVec.toNat x.h) : Int)]) ∧
                                                                                                                                                                    AV.dat (D.val (Value.int IntKind.u32 (↑(BitVec.toNat x.g) : Int))) =
                                                                                                                                                                      AV.dat (D.val (Value.int IntKind.u32 (↑(BitVec.toNat x.g) : Int))) ∧
                                                                                                                                                                     AV.d (D.val (Value.int IntKind.u32 (↑(BitVec.toNat x.g) : Int))) =
                                                                                                                                                                       AV.d (D.val (Value.int IntKind.u32 (↑(BitVec.toNat x.g) : Int))) ∧
                                                                                                                                                                      AV.d
                                                                                                                                                                         (D.ints IntKind.u32
                                                                                                                                                                          [(↑(BitVec.toNat x.a) : Int), (↑(BitVec.toNat x.b) : Int),
                                                                                                                                                                           (↑(BitVec.toNat x.c) : Int), (↑(BitVec.toNat x.d) : Int),
                                                                                                                                                                           (↑(BitVec.toNat x.e) : Int), (↑(BitVec.toNat x.f) : Int),
                                                                                                                                                                           (↑(BitVec.toNat x.g) : Int), (↑(BitVec.toNat x.h) : Int)]) =
                                                                                                                                                                        AV.d
                                                                                                                                                                         (D.ints IntKind.u32
                                                                                                                                                                          [(↑(BitVec.toNat x.a) : Int), (↑(BitVec.toNat x.b) : Int),
                                                                                                                                                                           (↑(BitVec.toNat x.c) : Int), (↑(BitVec.toNat x.d) : Int),
                                                                                                                                                                           (↑(BitVec.toNat x.e) : Int), (↑(BitVec.toNat x.f) : Int),
                                                                                                                                                                           (↑(BitVec.toNat x.g) : Int), (↑(BitVec.toNat x.h) : Int)]) ∧
                                                                                                                                                                       AV.dat (D.val (Value.int IntKind.u32 (↑(BitVec.toNat x.h) : Int))) =
                                                                                                                                                                         AV.dat
                                                                                                                                                                          (D.val (Value.int IntKind.u32 (↑(BitVec.toNat x.h) : Int))) ∧
                                                                                                                                                                        AV.d (D.val (Value.int IntKind.u32 (↑(BitVec.toNat x.h) : Int))) =
                                                                                                                                                                          AV.d
                                                                                                                                                                           (D.val
                                                                                                                                                                            (Value.int IntKind.u32 (↑(BitVec.toNat x.h) : Int))) ∧
                                                                                                                                                                         AV.row (24 : Nat) = AV.row (24 : Nat) ∧
                                                                                                                                                                          AV.d
                                                                                                                                                                             (D.val
                                                                                                                                                                              (Value.int IntKind.i64 (↑(wl l x_2).length : Int))) =
                                                                                                                                                                            AV.d
                                                                                                                                                                             (D.val
                                                                                                                                                                              (Value.int IntKind.i64 (↑(wl l x_2).length : Int))) ∧
                                                                                                                                                                           AV.d
                                                                                                                                                                              (D.val
                                                                                                                                                                               (Value.int IntKind.i64
                                                                                                                                                                                (IntKind.i64.wrap ((↑x_3 : Int) + (1 : Int))))) =
                                                                                                                                                                             AV.d
                                                                                                                                                                              (D.val
                                                                                                                                                                               (Value.int IntKind.i64
                                                                                                                                                                                (↑(IntKind.i64.wrap
                                                                                                                                                                                    ((↑x_3 : Int) + (1 : Int))).toNat :
                                                                                                                                                                                 Int))) ∧
                                                                                                                                                                            True) ∧
                                                                                                                               (some (Blk.row (113 : TypeId) (D.ints IntKind.u32 (wl l x_2))) = some (Blk.row (113 : TypeId) (D.ints IntKind.u32 (wl l x_2))) ∧ True) ∧
                                                                                                                                true = true) ∧
                                                                                                                              (IntKind.i64.wrap ((↑x_3 : Int) + (1 : Int))).toNat ≤ (64 : Nat) ∧ (64 : Nat) - (IntKind.i64.wrap ((↑x_3 : Int) + (1 : Int))).toNat < (64 : Nat) - x_3
                                                             | false =>
                                                              True ∧
                                                               ((0 : Int) ≤ (0 : Int) ∧ (0 : Int) < (↑(8 : Nat) : Int) ∧ (1 : Nat) = (1 : Nat)) ∧
                                                                ((1 : Nat) ≠ (0 : Nat) ∧ (1 : Nat) = (1 : Nat) ∧ false = false) ∧
                                                                 True ∧
                                                                  True ∧
                                                                   True ∧
                                                                    ((0 : Int) ≤ (1 : Int) ∧ (1 : Int) < (↑(8 : Nat) : Int) ∧ (1 : Nat) = (1 : Nat)) ∧
                                                                     ((1 : Nat) ≠ (0 : Nat) ∧ (1 : Nat) = (1 : Nat) ∧ false = false) ∧
                                                                      True ∧
                                                                       True ∧
                                                                        True ∧
                                                                         ((0 : Int) ≤ (2 : Int) ∧ (2 : Int) < (↑(8 : Nat) : Int) ∧ (1 : Nat) = (1 : Nat)) ∧
                                                                          ((1 : Nat) ≠ (0 : Nat) ∧ (1 : Nat) = (1 : Nat) ∧ false = false) ∧
                                                                           True ∧
                                                                            True ∧
                                                                             True ∧
                                                                              ((0 : Int) ≤ (3 : Int) ∧ (3 : Int) < (↑(8 : Nat) : Int) ∧ (1 : Nat) = (1 : Nat)) ∧
                                                                               ((1 : Nat) ≠ (0 : Nat) ∧ (1 : Nat) = (1 : Nat) ∧ false = false) ∧
                                                                                True ∧
                                                                                 True ∧
                                                                                  True ∧
                                                                                   ((0 : Int) ≤ (4 : Int) ∧ (4 : Int) < (↑(8 : Nat) : Int) ∧ (1 : Nat) = (1 : Nat)) ∧
                                                                                    ((1 : Nat) ≠ (0 : Nat) ∧ (1 : Nat) = (1 : Nat) ∧ false = false) ∧
                                                                                     True ∧
                                                                                      True ∧
                                                                                       True ∧
                                                                                        ((0 : Int) ≤ (5 : Int) ∧ (5 : Int) < (↑(8 : Nat) : Int) ∧ (1 : Nat) = (1 : Nat)) ∧
                                                                                         ((1 : Nat) ≠ (0 : Nat) ∧ (1 : Nat) = (1 : Nat) ∧ false = false) ∧
                                                                                          True ∧
                                                                                           True ∧
                                                                                            True ∧
                                                                                             ((0 : Int) ≤ (6 : Int) ∧ (6 : Int) < (↑(8 : Nat) : Int) ∧ (1 : Nat) = (1 : Nat)) ∧
                                                                                              ((1 : Nat) ≠ (0 : Nat) ∧ (1 : Nat) = (1 : Nat) ∧ false = false) ∧
                                                                                               True ∧
                                                                                                True ∧
                                                                                                 True ∧
                                                                                                  ((0 : Int) ≤ (7 : Int) ∧ (7 : Int) < (↑(8 : Nat) : Int) ∧ (1 : Nat) = (1 : Nat)) ∧
                                                                                                   ((1 : Nat) ≠ (0 : Nat) ∧ (1 : Nat) = (1 : Nat) ∧ false = false) ∧
                                                                                                    True ∧
                                                                                                     True ∧
                                                                                                      ((1 : Nat) = (1 : Nat) ∧ (8 : Nat) ≤ (4096 : Nat)) ∧
                                                                                                       True ∧
                                                                                                        (false = false ∧ True) ∧
                                                                                                         D.ints IntKind.u32
                                                                                                           [IntKind.u32.wrap ((↑(BitVec.toNat x.a) : Int) + (↑(BitVec.toNat (rd x l x_3).a) : Int)), IntKind.u32.wrap ((↑(BitVec.toNat x.b) : Int) + (↑(BitVec.toNat (rd x l x_3).b) : Int)),
                                                                                                            IntKind.u32.wrap ((↑(BitVec.toNat x.c) : Int) + (↑(BitVec.toNat (rd x l x_3).c) : Int)), IntKind.u32.wrap ((↑(BitVec.toNat x.d) : Int) + (↑(BitVec.toNat (rd x l x_3).d) : Int)),
                                                                                                            IntKind.u32.wrap ((↑(BitVec.toNat x.e) : Int) + (↑(BitVec.toNat (rd x l x_3).e) : Int)), IntKind.u32.wrap ((↑(BitVec.toNat x.f) : Int) + (↑(BitVec.toNat (rd x l x_3).f) : Int)),
                                                                                                            IntKind.u32.wrap ((↑(BitVec.toNat x.g) : Int) + (↑(BitVec.toNat (rd x l x_3).g) : Int)), IntKind.u32.wrap ((↑(BitVec.toNat x.h) : Int) + (↑(BitVec.toNat (rd x l x_3).h) : Int))] =
                                                                                                          F) := by kernel_rfl

end Go.Proofs.YtkicjckhkefnpaaDoor
/- the reference's block: the proof. -/
namespace Go.Proofs.YtkicjckhkefnpaaDoor
open Go Go.Vg

theorem mulW (x : W) : IntKind.u32.wrap ((x.toNat : Int) * 256) = ((x * 256).toNat : Int) := by
  rw [w32, BitVec.toNat_mul]
  have : (256 : W).toNat = 256 := rfl
  rw [this]
  omega
theorem bytW {l : List Int} (h : isBytes l) {i : Nat} (hi : i < l.length) : IntKind.u32.wrap (l.getD i 0) = ((BitVec.ofNat 32 (l.getD i 0).toNat).toNat : Int) := by
  obtain ⟨b, e, hb⟩ := byte_at h hi
  rw [e, Int.toNat_natCast, wN32, BitVec.toNat_ofNat]
theorem pw_wat {l : List Int} (h : isBytes l) {i : Nat} (hi : i + 3 < l.length) : pw l i 4 = wat l i := by
  obtain ⟨a, ea, ha⟩ := byte_at h (i := i) (by omega)
  obtain ⟨b, eb, hb⟩ := byte_at h (i := i + 1) (by omega)
  obtain ⟨c, ec, hc⟩ := byte_at h (i := i + 2) (by omega)
  obtain ⟨d, ed, hd⟩ := byte_at h (i := i + 3) (by omega)
  unfold wat
  simp only [pw, Nat.add_zero]
  rw [ea, eb, ec, ed]
  unfold w4
  simp only [Int.toNat_natCast]
  apply BitVec.eq_of_toNat_eq
  have h256 : (256 : W).toNat = 256 := rfl
  simp only [BitVec.toNat_add, BitVec.toNat_mul, BitVec.toNat_ofNat, h256]
  simp only [show (2 : Nat) ^ 32 = 4294967296 from rfl]
  omega
theorem quoW (x : W) (k : Nat) (hk : k ≤ 32) : IntKind.u32.wrap (((x.toNat : Nat) : Int).tdiv ((2 ^ k : Nat) : Int)) = ((x >>> k).toNat : Int) := by
  have hx := x.isLt
  have : x.toNat / 2 ^ k < 4294967296 := Nat.lt_of_le_of_lt (Nat.div_le_self _ _) hx
  rw [tdivN, wrapN .u32 (show _ < 4294967296 from this), BitVec.toNat_ushiftRight, Nat.shiftRight_eq_div_pow]
theorem quo8 (x : W) : IntKind.u32.wrap (((x.toNat : Nat) : Int).tdiv 8) = ((x >>> 3).toNat : Int) := quoW x 3 (by decide)
theorem quo1024 (x : W) : IntKind.u32.wrap (((x.toNat : Nat) : Int).tdiv 1024) = ((x >>> 10).toNat : Int) := quoW x 10 (by decide)
theorem sched (a b c d : W) : ((a + b) + c) + d = ((a + c) + b) + d := by
  rw [BitVec.add_assoc a b c, BitVec.add_comm b c, ← BitVec.add_assoc]
theorem wl_get' (l : List Int) {n j : Nat} (h : j < n) : (wl l n).getD j 0 = ((wn l j).toNat : Int) := by
  have := wl_get l h []
  rwa [List.append_nil] at this

set_option maxRecDepth 100000 in
theorem m128 : Meets Tryd.prog 128 sp128 := by
  refine meets_of_owed (C := c128) ⟨tab_ok, lkS_ok ⟨m133, m134, m135, trivial⟩⟩ (by kernel_rfl) (by kernel_rfl : Tryd.prog.funcs[128]? = some Tryd.f128) (by kernel_rfl) (by kernel_rfl) (by kernel_rfl) _ ?_
  rintro _ ⟨x, l, rfl, hb, hl⟩
  refine ⟨(fun h => by cases h), inv128 x l, ?_⟩
  show owed c128 (inv128 x l) Tryd.f128 [.ints .u32 x.l, .str l] (.ints .u32 (prL x.l l))
  unfold prL
  rw [vc128, ofR_l]
  have hw0 : wl l (0 / 4) = [] := rfl
  have hp0 : ∀ i, pw l i 0 = 0 := fun _ => rfl
  have hz : ((BitVec.toNat (0 : W) : Nat) : Int) = 0 := rfl
  have hr0 : rd x l 0 = x := rfl
  simp (decide := true) only [eq_self, true_and, and_true, ne_eq, not_false_eq_true, Int.toNat_natCast, hw0, hp0, hz, Int.toNat_zero, hr0]
  refine ⟨by and_intros <;> first | rfl | omega | decide | trivial, fun i hi => ?_⟩
  split
  · rename_i h
    have h : i < 16 := by have := of_decide_eq_true h; omega
    refine ⟨by and_intros <;> first | rfl | omega | decide | trivial, ?_⟩
    rintro ⟨k, at_⟩ ⟨hk, hat⟩
    simp only at hk hat ⊢
    obtain rfl : at_ = 4 * i := by omega
    split
    · rename_i h2
      have h2 : k < 4 := by have := of_decide_eq_true h2; omega
      have e1 : IntKind.i64.wrap (((4 * i : Nat) : Int) + (k : Int)) = ((4 * i + k : Nat) : Int) := by rw [wi (by omega) (by omega)]; omega
      have e2 : IntKind.i64.wrap ((k : Int) + 1) = ((k + 1 : Nat) : Int) := by rw [wi (by omega) (by omega)]; omega
      simp only [e1, e2, Int.toNat_natCast, mulW, bytW hb (i := 4 * i + k) (by omega), addW]
      and_intros <;> first | rfl | omega | trivial
    · rename_i h2
      obtain rfl : k = 4 := by have := of_decide_eq_false h2; omega
      have e4 : IntKind.i64.wrap (((4 * i : Nat) : Int) + 4) = ((4 * i + 4 : Nat) : Int) := by rw [wi (by omega) (by omega)]; omega
      rw [e4, Int.toNat_natCast, show (4 * i + 4) / 4 = i + 1 by omega, pw_wat hb (by omega), ← wn_lo l h, ← wl_succ, wl_len]
      and_intros <;> first | rfl | omega | trivial
  · rename_i h
    obtain rfl : i = 16 := by have := of_decide_eq_false h; omega
    simp only [wl_len]
    refine ⟨by and_intros <;> first | rfl | omega | decide | trivial, ?_⟩
    rintro n ⟨hn, hn2⟩
    split
    · rename_i h
      have h : n < 64 := by have := of_decide_eq_true h; omega
      have e15 : IntKind.i64.wrap ((n : Int) - 15) = ((n - 15 : Nat) : Int) := by rw [wi (by omega) (by omega)]; omega
      have e16 : IntKind.i64.wrap ((n : Int) - 16) = ((n - 16 : Nat) : Int) := by rw [wi (by omega) (by omega)]; omega
      have e7 : IntKind.i64.wrap ((n : Int) - 7) = ((n - 7 : Nat) : Int) := by rw [wi (by omega) (by omega)]; omega
      have e2 : IntKind.i64.wrap ((n : Int) - 2) = ((n - 2 : Nat) : Int) := by rw [wi (by omega) (by omega)]; omega
      have g15 := wl_get' l (n := n) (j := n - 15) (by omega)
      have g16 := wl_get' l (n := n) (j := n - 16) (by omega)
      have g7 := wl_get' l (n := n) (j := n - 7) (by omega)
      have g2 := wl_get' l (n := n) (j := n - 2) (by omega)
      have hs : wn l (n - 16) + wn l (n - 7) + sA (wn l (n - 15)) + sB (wn l (n - 2)) = wn l n := by rw [sched, ← wn_hi l hn]
      simp only [e15, e16, e7, e2, Int.toNat_natCast, g15, g16, g7, g2, toW_wd, xorW, quo8, quo1024, addW, fA, fB, hs, ← wl_succ, wl_len]
      and_intros <;> first | exact trivial | rfl | omega | exact ⟨_, 7, rfl, by decide, by decide⟩ | exact ⟨_, 18, rfl, by decide, by decide⟩ | exact ⟨_, 17, rfl, by decide, by decide⟩ | exact ⟨_, 19, rfl, by decide, by decide⟩
    · rename_i h
      obtain rfl : n = 64 := by have := of_decide_eq_false h; omega
      refine ⟨by and_intros <;> first | rfl | omega | decide | trivial, fun t ht => ?_⟩
      split
      · rename_i h
        have h : t < 64 := by have := of_decide_eq_true h; omega
        have ew : IntKind.i64.wrap ((t : Int) + 1) = ((t + 1 : Nat) : Int) := by rw [wi (by omega) (by omega)]; omega
        have gt := wl_get' l (n := 64) (j := t) h
        simp only [ew, Int.toNat_natCast, gt, gl_ok.2.2, kW_eq h, toW_wd, xorW, addW, fC, fD, rd_succ]
        and_intros <;> first | exact trivial | rfl | omega | exact ⟨_, 6, rfl, by decide, by decide⟩ | exact ⟨_, 11, rfl, by decide, by decide⟩ | exact ⟨_, 25, rfl, by decide, by decide⟩ | exact ⟨_, 2, rfl, by decide, by decide⟩ | exact ⟨_, 13, rfl, by decide, by decide⟩ | exact ⟨_, 22, rfl, by decide, by decide⟩ | exact ⟨_, _, _, rfl⟩
      · rename_i h
        obtain rfl : t = 64 := by have := of_decide_eq_false h; omega
        simp only [addW]
        and_intros <;> first | exact trivial | rfl | omega

end Go.Proofs.YtkicjckhkefnpaaDoor
