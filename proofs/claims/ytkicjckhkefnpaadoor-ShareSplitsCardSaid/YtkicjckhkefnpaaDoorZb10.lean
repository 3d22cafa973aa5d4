/- The types, as the steps ask of them; checked against the program by the kernel. Written by a program of this session. -/
import Derived.Test.YtkicjckhkefnpaaDoorZb7
import Derived.Test.YtkicjckhkefnpaaDoorProg
import Derived.KernelRfl
import Derived.Test.YtkicjckhkefnpaaDoorZb9
namespace Go.Proofs.YtkicjckhkefnpaaDoor
open Go Go.Vg
def tab : Tab := [
 ⟨.other, 0, 0, .val (.bool false), false⟩,
 ⟨.other, 1, 8, .val .nilFunc, false⟩,
 ⟨.int .i64, 1, 8, .val (.int .i64 0), false⟩,
 ⟨.int .i64, 1, 8, .val (.int .i64 0), false⟩,
 ⟨.bool, 1, 1, .val (.bool false), false⟩,
 ⟨.int .u8, 1, 1, .val (.int .u8 0), false⟩,
 ⟨.int .u8, 1, 1, .val (.int .u8 0), false⟩,
 ⟨.st [(0, 2), (1, 3), (2, 4), (3, 6)], 4, 24, .st [.val (.int .i64 0), .val (.int .i64 0), .val (.bool false), .val (.int .u8 0)], true⟩,
 ⟨.st [(0, 2), (1, 3), (2, 4), (3, 6)], 4, 24, .st [.val (.int .i64 0), .val (.int .i64 0), .val (.bool false), .val (.int .u8 0)], true⟩,
 ⟨.str, 1, 16, .str [], false⟩,
 ⟨.str, 1, 16, .str [], false⟩,
 ⟨.str, 1, 16, .str [], false⟩,
 ⟨.int .u64, 1, 8, .val (.int .u64 0), false⟩,
 ⟨.st [(0, 9), (1, 12)], 2, 24, .st [.str [], .val (.int .u64 0)], false⟩,
 ⟨.st [(0, 9), (1, 12)], 2, 24, .st [.str [], .val (.int .u64 0)], false⟩,
 ⟨.ptr 195, 1, 8, .val (.pointer none), false⟩,
 ⟨.ptr 198, 1, 8, .val (.pointer none), false⟩,
 ⟨.ptr 206, 1, 8, .val (.pointer none), false⟩,
 ⟨.st [(0, 17)], 1, 8, .st [.val (.pointer none)], false⟩,
 ⟨.st [(0, 17)], 1, 8, .st [.val (.pointer none)], false⟩,
 ⟨.other, 1, 16, .val .nilIface, false⟩,
 ⟨.int .i32, 1, 4, .val (.int .i32 0), false⟩,
 ⟨.slice 26, 1, 24, .slc 1 [], false⟩,
 ⟨.slice 28, 1, 24, .slc 32 [], false⟩,
 ⟨.st [(0, 3), (1, 23)], 2, 32, .st [.val (.int .i64 0), .slc 32 []], false⟩,
 ⟨.st [(0, 3), (1, 23)], 2, 32, .st [.val (.int .i64 0), .slc 32 []], false⟩,
 ⟨.slice 5, 1, 24, .ints .u8 [], false⟩,
 ⟨.other, 1, 8, .val .nilFunc, false⟩,
 ⟨.arr 32 5, 32, 32, .arr .u8 32 (List.replicate 32 0), false⟩,
 ⟨.other, 1, 8, .val .nilFunc, false⟩,
 ⟨.other, 1, 8, .val .nilFunc, false⟩,
 ⟨.other, 1, 8, .val .nilFunc, false⟩,
 ⟨.other, 1, 8, .val .nilFunc, false⟩,
 ⟨.other, 1, 8, .val .nilFunc, false⟩,
 ⟨.int .i64, 1, 8, .val (.int .i64 0), false⟩,
 ⟨.other, 1, 8, .val .nilFunc, false⟩,
 ⟨.other, 1, 8, .val .nilFunc, false⟩,
 ⟨.other, 0, 0, .val (.bool false), false⟩,
 ⟨.other, 1, 8, .val .nilFunc, false⟩,
 ⟨.other, 1, 8, .val .nilFunc, false⟩,
 ⟨.other, 1, 8, .val .nilFunc, false⟩,
 ⟨.other, 1, 8, .val .nilFunc, false⟩,
 ⟨.other, 1, 8, .val .nilFunc, false⟩,
 ⟨.st [(0, 28), (32, 3)], 33, 40, .st [.arr .u8 32 (List.replicate 32 0), .val (.int .i64 0)], true⟩,
 ⟨.st [(0, 28), (32, 3)], 33, 40, .st [.arr .u8 32 (List.replicate 32 0), .val (.int .i64 0)], true⟩,
 ⟨.ptr 122, 1, 8, .val (.pointer none), false⟩,
 ⟨.other, 0, 0, .val (.bool false), false⟩,
 ⟨.other, 1, 8, .val .nilFunc, false⟩,
 ⟨.other, 1, 8, .val .nilFunc, false⟩,
 ⟨.other, 1, 8, .val .nilFunc, false⟩,
 ⟨.other, 1, 8, .val .nilFunc, false⟩,
 ⟨.slice 56, 1, 24, .slc 3 [], false⟩,
 ⟨.other, 1, 8, .val .nilFunc, false⟩,
 ⟨.other, 1, 8, .val .nilFunc, false⟩,
 ⟨.other, 1, 8, .val .nilFunc, false⟩,
 ⟨.st [(0, 3), (1, 26), (2, 26)], 3, 56, .st [.val (.int .i64 0), .ints .u8 [], .ints .u8 []], false⟩,
 ⟨.st [(0, 3), (1, 26), (2, 26)], 3, 56, .st [.val (.int .i64 0), .ints .u8 [], .ints .u8 []], false⟩,
 ⟨.other, 1, 8, .val .nilFunc, false⟩,
 ⟨.other, 1, 8, .val .nilFunc, false⟩,
 ⟨.other, 0, 0, .val (.bool false), false⟩,
 ⟨.other, 1, 8, .val .nilFunc, false⟩,
 ⟨.slice 9, 1, 24, .slc 1 [], false⟩,
 ⟨.other, 0, 0, .val (.bool false), false⟩,
 ⟨.other, 1, 8, .val .nilFunc, false⟩,
 ⟨.other, 0, 0, .val (.bool false), false⟩,
 ⟨.other, 1, 8, .val .nilFunc, false⟩,
 ⟨.other, 0, 0, .val (.bool false), false⟩,
 ⟨.other, 1, 8, .val .nilFunc, false⟩,
 ⟨.other, 1, 8, .val .nilFunc, false⟩,
 ⟨.other, 1, 8, .val .nilFunc, false⟩,
 ⟨.slice 77, 1, 24, .slc 7 [], false⟩,
 ⟨.ptr 150, 1, 8, .val (.pointer none), false⟩,
 ⟨.other, 1, 8, .val .nilFunc, false⟩,
 ⟨.int .u64, 1, 8, .val (.int .u64 0), false⟩,
 ⟨.arr 4 73, 4, 32, .arr .u64 4 (List.replicate 4 0), false⟩,
 ⟨.arr 4 73, 4, 32, .arr .u64 4 (List.replicate 4 0), false⟩,
 ⟨.st [(0, 4), (1, 4), (2, 3), (3, 75)], 7, 48, .st [.val (.bool false), .val (.bool false), .val (.int .i64 0), .arr .u64 4 (List.replicate 4 0)], true⟩,
 ⟨.st [(0, 4), (1, 4), (2, 3), (3, 75)], 7, 48, .st [.val (.bool false), .val (.bool false), .val (.int .i64 0), .arr .u64 4 (List.replicate 4 0)], true⟩,
 ⟨.other, 0, 0, .val (.bool false), false⟩,
 ⟨.other, 1, 8, .val .nilFunc, false⟩,
 ⟨.other, 0, 0, .val (.bool false), false⟩,
 ⟨.other, 1, 8, .val .nilFunc, false⟩,
 ⟨.other, 1, 8, .val .nilFunc, false⟩,
 ⟨.other, 1, 8, .val .nilFunc, false⟩,
 ⟨.other, 1, 8, .val .nilFunc, false⟩,
 ⟨.other, 1, 8, .val .nilFunc, false⟩,
 ⟨.other, 1, 8, .val .nilFunc, false⟩,
 ⟨.arr 8 73, 8, 64, .arr .u64 8 (List.replicate 8 0), false⟩,
 ⟨.arr 8 73, 8, 64, .arr .u64 8 (List.replicate 8 0), false⟩,
 ⟨.slice 3, 1, 24, .ints .i64 [], false⟩,
 ⟨.other, 1, 8, .val .nilFunc, false⟩,
 ⟨.other, 1, 8, .val .nilFunc, false⟩,
 ⟨.other, 1, 8, .val .nilFunc, false⟩,
 ⟨.other, 1, 8, .val .nilFunc, false⟩,
 ⟨.other, 1, 8, .val .nilFunc, false⟩,
 ⟨.other, 1, 8, .val .nilFunc, false⟩,
 ⟨.other, 1, 8, .val .nilFunc, false⟩,
 ⟨.other, 1, 8, .val .nilFunc, false⟩,
 ⟨.other, 1, 8, .val .nilFunc, false⟩,
 ⟨.other, 1, 8, .val .nilFunc, false⟩,
 ⟨.other, 1, 8, .val .nilFunc, false⟩,
 ⟨.other, 1, 8, .val .nilFunc, false⟩,
 ⟨.other, 1, 8, .val .nilFunc, false⟩,
 ⟨.other, 1, 8, .val .nilFunc, false⟩,
 ⟨.slice 167, 1, 24, .slc 5 [], false⟩,
 ⟨.other, 0, 0, .val (.bool false), false⟩,
 ⟨.other, 1, 8, .val .nilFunc, false⟩,
 ⟨.other, 1, 8, .val .nilFunc, false⟩,
 ⟨.other, 1, 8, .val .nilFunc, false⟩,
 ⟨.other, 1, 8, .val .nilFunc, false⟩,
 ⟨.ptr 25, 1, 8, .val (.pointer none), false⟩,
 ⟨.other, 1, 8, .val .nilFunc, false⟩,
 ⟨.other, 1, 8, .val .nilFunc, false⟩,
 ⟨.int .u32, 1, 4, .val (.int .u32 0), false⟩,
 ⟨.arr 8 113, 8, 32, .arr .u32 8 (List.replicate 8 0), false⟩,
 ⟨.arr 64 5, 64, 64, .arr .u8 64 (List.replicate 64 0), false⟩,
 ⟨.st [(0, 114), (8, 73), (9, 115)], 73, 104, .st [.arr .u32 8 (List.replicate 8 0), .val (.int .u64 0), .arr .u8 64 (List.replicate 64 0)], true⟩,
 ⟨.st [(0, 114), (8, 73), (9, 115)], 73, 104, .st [.arr .u32 8 (List.replicate 8 0), .val (.int .u64 0), .arr .u8 64 (List.replicate 64 0)], true⟩,
 ⟨.other, 1, 8, .val .nilFunc, false⟩,
 ⟨.other, 1, 8, .val .nilFunc, false⟩,
 ⟨.other, 1, 8, .val .nilFunc, false⟩,
 ⟨.st [(0, 26), (1, 44)], 34, 64, .st [.ints .u8 [], .st [.arr .u8 32 (List.replicate 32 0), .val (.int .i64 0)]], false⟩,
 ⟨.st [(0, 26), (1, 44)], 34, 64, .st [.ints .u8 [], .st [.arr .u8 32 (List.replicate 32 0), .val (.int .i64 0)]], false⟩,
 ⟨.other, 1, 8, .val .nilFunc, false⟩,
 ⟨.st [(0, 117), (73, 117)], 146, 208, .st [.st [.arr .u32 8 (List.replicate 8 0), .val (.int .u64 0), .arr .u8 64 (List.replicate 64 0)], .st [.arr .u32 8 (List.replicate 8 0), .val (.int .u64 0), .arr .u8 64 (List.replicate 64 0)]], true⟩,
 ⟨.st [(0, 117), (73, 117)], 146, 208, .st [.st [.arr .u32 8 (List.replicate 8 0), .val (.int .u64 0), .arr .u8 64 (List.replicate 64 0)], .st [.arr .u32 8 (List.replicate 8 0), .val (.int .u64 0), .arr .u8 64 (List.replicate 64 0)]], true⟩,
 ⟨.other, 1, 8, .val .nilFunc, false⟩,
 ⟨.ptr 129, 1, 8, .val (.pointer none), false⟩,
 ⟨.st [(0, 26), (1, 28), (33, 22), (34, 3)], 35, 88, .st [.ints .u8 [], .arr .u8 32 (List.replicate 32 0), .slc 1 [], .val (.int .i64 0)], false⟩,
 ⟨.st [(0, 26), (1, 28), (33, 22), (34, 3)], 35, 88, .st [.ints .u8 [], .arr .u8 32 (List.replicate 32 0), .slc 1 [], .val (.int .i64 0)], false⟩,
 ⟨.st [(0, 5), (1, 26)], 2, 32, .st [.val (.int .u8 0), .ints .u8 []], false⟩,
 ⟨.st [(0, 5), (1, 26)], 2, 32, .st [.val (.int .u8 0), .ints .u8 []], false⟩,
 ⟨.other, 0, 0, .val (.bool false), false⟩,
 ⟨.other, 1, 8, .val .nilFunc, false⟩,
 ⟨.other, 0, 0, .val (.bool false), false⟩,
 ⟨.other, 1, 8, .val .nilFunc, false⟩,
 ⟨.other, 1, 8, .val .nilFunc, false⟩,
 ⟨.slice 131, 1, 24, .slc 2 [], false⟩,
 ⟨.other, 1, 8, .val .nilFunc, false⟩,
 ⟨.other, 1, 8, .val .nilFunc, false⟩,
 ⟨.other, 0, 0, .val (.bool false), false⟩,
 ⟨.other, 1, 8, .val .nilFunc, false⟩,
 ⟨.other, 1, 8, .val .nilFunc, false⟩,
 ⟨.other, 1, 8, .val .nilFunc, false⟩,
 ⟨.other, 1, 8, .val .nilFunc, false⟩,
 ⟨.other, 1, 8, .val .nilFunc, false⟩,
 ⟨.other, 1, 8, .val .nilFunc, false⟩,
 ⟨.other, 1, 8, .val .nilFunc, false⟩,
 ⟨.other, 1, 8, .val .nilFunc, false⟩,
 ⟨.st [(0, 125), (146, 73), (147, 28), (179, 4)], 180, 256, .st [.st [.st [.arr .u32 8 (List.replicate 8 0), .val (.int .u64 0), .arr .u8 64 (List.replicate 64 0)], .st [.arr .u32 8 (List.replicate 8 0), .val (.int .u64 0), .arr .u8 64 (List.replicate 64 0)]], .val (.int .u64 0), .arr .u8 32 (List.replicate 32 0), .val (.bool false)], true⟩,
 ⟨.st [(0, 125), (146, 73), (147, 28), (179, 4)], 180, 256, .st [.st [.st [.arr .u32 8 (List.replicate 8 0), .val (.int .u64 0), .arr .u8 64 (List.replicate 64 0)], .st [.arr .u32 8 (List.replicate 8 0), .val (.int .u64 0), .arr .u8 64 (List.replicate 64 0)]], .val (.int .u64 0), .arr .u8 32 (List.replicate 32 0), .val (.bool false)], true⟩,
 ⟨.other, 1, 8, .val .nilFunc, false⟩,
 ⟨.slice 73, 1, 24, .ints .u64 [], false⟩,
 ⟨.other, 1, 8, .val .nilFunc, false⟩,
 ⟨.other, 0, 0, .val (.bool false), false⟩,
 ⟨.other, 1, 8, .val .nilFunc, false⟩,
 ⟨.int .u64, 1, 8, .val (.int .u64 0), false⟩,
 ⟨.other, 1, 8, .val .nilFunc, false⟩,
 ⟨.other, 1, 8, .val .nilFunc, false⟩,
 ⟨.other, 1, 8, .val .nilFunc, false⟩,
 ⟨.other, 1, 8, .val .nilFunc, false⟩,
 ⟨.other, 1, 8, .val .nilFunc, false⟩,
 ⟨.other, 1, 8, .val .nilFunc, false⟩,
 ⟨.other, 1, 8, .val .nilFunc, false⟩,
 ⟨.slice 75, 1, 24, .slc 4 [], false⟩,
 ⟨.other, 1, 8, .val .nilFunc, false⟩,
 ⟨.st [(0, 3), (1, 75)], 5, 40, .st [.val (.int .i64 0), .arr .u64 4 (List.replicate 4 0)], true⟩,
 ⟨.st [(0, 3), (1, 75)], 5, 40, .st [.val (.int .i64 0), .arr .u64 4 (List.replicate 4 0)], true⟩,
 ⟨.slice 89, 1, 24, .slc 1 [], false⟩,
 ⟨.other, 1, 8, .val .nilFunc, false⟩,
 ⟨.slice 113, 1, 24, .ints .u32 [], false⟩,
 ⟨.other, 1, 8, .val .nilFunc, false⟩,
 ⟨.other, 1, 8, .val .nilFunc, false⟩,
 ⟨.other, 1, 8, .val .nilFunc, false⟩,
 ⟨.other, 1, 8, .val .nilFunc, false⟩,
 ⟨.other, 1, 8, .val .nilFunc, false⟩,
 ⟨.other, 0, 0, .val (.bool false), false⟩,
 ⟨.other, 1, 8, .val .nilFunc, false⟩,
 ⟨.other, 1, 8, .val .nilFunc, false⟩,
 ⟨.arr 8 5, 8, 8, .arr .u8 8 (List.replicate 8 0), false⟩,
 ⟨.other, 0, 0, .val (.bool false), false⟩,
 ⟨.other, 1, 8, .val .nilFunc, false⟩,
 ⟨.other, 1, 8, .val .nilFunc, false⟩,
 ⟨.other, 1, 8, .val .nilFunc, false⟩,
 ⟨.other, 1, 8, .val .nilFunc, false⟩,
 ⟨.arr 64 113, 64, 256, .arr .u32 64 (List.replicate 64 0), false⟩,
 ⟨.other, 1, 8, .val .nilFunc, false⟩,
 ⟨.other, 1, 8, .val .nilFunc, false⟩,
 ⟨.other, 0, 0, .val (.bool false), false⟩,
 ⟨.other, 1, 8, .val .nilFunc, false⟩,
 ⟨.other, 1, 8, .val .nilFunc, false⟩,
 ⟨.other, 1, 8, .val .nilFunc, false⟩,
 ⟨.other, 1, 8, .val .nilFunc, false⟩,
 ⟨.other, 1, 8, .val .nilFunc, false⟩,
 ⟨.st [(0, 17), (1, 17), (2, 17), (3, 9)], 4, 40, .st [.val (.pointer none), .val (.pointer none), .val (.pointer none), .str []], false⟩,
 ⟨.st [(0, 17), (1, 17), (2, 17), (3, 9)], 4, 40, .st [.val (.pointer none), .val (.pointer none), .val (.pointer none), .str []], false⟩,
 ⟨.other, 0, 0, .val (.bool false), false⟩,
 ⟨.other, 0, 0, .val (.bool false), false⟩,
 ⟨.other, 0, 0, .val (.bool false), false⟩,
 ⟨.int .u8, 1, 1, .val (.int .u8 0), false⟩,
 ⟨.int .u8, 1, 1, .val (.int .u8 0), false⟩,
 ⟨.other, 1, 8, .val .nilFunc, false⟩,
 ⟨.ptr 5, 1, 8, .val (.pointer none), false⟩,
 ⟨.int .i32, 1, 4, .val (.int .i32 0), false⟩,
 ⟨.int .i32, 1, 4, .val (.int .i32 0), false⟩,
 ⟨.st [(0, 12), (1, 12), (2, 113), (3, 199), (4, 5), (5, 5), (6, 200), (7, 201), (8, 202), (9, 203), (10, 204)], 11, 48, .st [.val (.int .u64 0), .val (.int .u64 0), .val (.int .u32 0), .val (.int .u8 0), .val (.int .u8 0), .val (.int .u8 0), .val (.int .u8 0), .val .nilFunc, .val (.pointer none), .val (.int .i32 0), .val (.int .i32 0)], false⟩,
 ⟨.st [(0, 12), (1, 12), (2, 113), (3, 199), (4, 5), (5, 5), (6, 200), (7, 201), (8, 202), (9, 203), (10, 204)], 11, 48, .st [.val (.int .u64 0), .val (.int .u64 0), .val (.int .u32 0), .val (.int .u8 0), .val (.int .u8 0), .val (.int .u8 0), .val (.int .u8 0), .val .nilFunc, .val (.pointer none), .val (.int .i32 0), .val (.int .i32 0)], false⟩,
 ⟨.other, 0, 0, .val (.bool false), false⟩]
theorem tab_ok : TabOk Tryd.prog tab := tabB_ok (by kernel_rfl)
end Go.Proofs.YtkicjckhkefnpaaDoor
namespace Go.Proofs.YtkicjckhkefnpaaDoor
open Go Go.Vg
abbrev dgs (l : List Int) : D := .ints .i64 l
abbrev num4 (l : List Int) : D := .arr .u64 4 l
abbrev num8 (l : List Int) : D := .arr .u64 8 l
def lenOk (l : List Int) : Prop := l.length ≤ 1048576
def sp105 : Go.Vg.Spec := ⟨fun ds => ∃ l i, ds = [dgs l, i64 i] ∧ lenOk l, fun ds => i64 (dig (intsOf (ds.headD default)) (numOf (ds.getD 1 default))), true, [89, 3]⟩
def sp106 : Go.Vg.Spec := ⟨fun ds => ∃ l, ds = [dgs l] ∧ lenOk l, fun ds => dgs (trimL (intsOf (ds.headD default))), false, [89]⟩
def sp102 : Go.Vg.Spec := ⟨fun ds => ∃ l, ds = [.ints .u64 l] ∧ okw l ∧ l.length ≤ 100, fun ds => dgs (dg (vB 18446744073709551616 (intsOf (ds.headD default)))), false, [152]⟩
def sp103 : Go.Vg.Spec := ⟨fun ds => ∃ l n, ds = [dgs l, i64 n] ∧ okd l ∧ lenOk l ∧ 0 ≤ n ∧ n ≤ 100, fun ds => .ints .u64 (nB 18446744073709551616 (numOf (ds.getD 1 default)).toNat (vB 65536 (intsOf (ds.headD default)))), false, [89, 3]⟩
def c105 : Ctx := ⟨tab, fun _ => none, [], []⟩
set_option maxRecDepth 100000 in
theorem vc105  (l : List Int) (i : Int) (F : D)  :
    (owed c105 (fun _ => none) Tryd.f105 [dgs l, i64 i] F) = (
 True ∧ True ∧ True ∧ True ∧ match decide (i < (0 : Int)) with
 | true => True ∧ True ∧ (false = false ∧ True) ∧ D.val (.int .i64 0) = F
 | false => True ∧ True ∧ True ∧ True ∧ True ∧ match decide (i ≥ (↑l.length : Int)) with
  | true => True ∧ (false = false ∧ True) ∧ D.val (.int .i64 0) = F
  | false => True ∧ True ∧ ((0 : Int) ≤ i ∧ i < (↑l.length : Int) ∧ 1 = 1) ∧ (1 ≠ 0 ∧ 1 = 1 ∧ false = false) ∧ True ∧ (false = false ∧ True) ∧ D.val (.int .i64 (l.getD i.toNat (0 : Int))) = F) := by kernel_rfl
def inv106 : Nat → Option Inv
 | 1 => some ⟨List Int, fun l => [(0, .d (dgs l))], fun _ => [], fun s => intsOf (slotD s 0), fun s l => trimL l = trimL (intsOf (slotD s 0)) ∧ lenOk l, fun l => l.length⟩
 | _ => none
set_option maxRecDepth 100000 in
theorem vc106  (l : List Int) (F : D)  :
    (owed c105 inv106 Tryd.f106 [dgs l] F) = (
 True ∧ (((sm (AV.d (D.ints .i64 l)) ∧ True) ∧ True ∧ true = true) ∧ trimL l = trimL l ∧ lenOk l) ∧ ∀ (x : List Int), trimL x = trimL l ∧ lenOk x → true = true ∧ True ∧ True ∧ True ∧ True ∧ match decide ((↑x.length : Int) > (0 : Int)) with
 | true => True ∧ True ∧ True ∧ True ∧ ((0 : Int) ≤ IntKind.i64.wrap ((↑x.length : Int) - (1 : Int)) ∧ IntKind.i64.wrap ((↑x.length : Int) - (1 : Int)) < (↑x.length : Int) ∧ 1 = 1) ∧ (1 ≠ 0 ∧ 1 = 1 ∧ false = false) ∧ True ∧ True ∧ match x.getD (IntKind.i64.wrap ((↑x.length : Int) - (1 : Int))).toNat (0 : Int) == (0 : Int) with
  | true => True ∧ True ∧ True ∧ True ∧ ((0 : Int) ≤ 0 ∧ (0 : Int) ≤ IntKind.i64.wrap ((↑x.length : Int) - (1 : Int)) ∧ IntKind.i64.wrap ((↑x.length : Int) - (1 : Int)) ≤ (↑x.length : Int) ∧ 1 = 1) ∧ True ∧ ((sm (AV.d (D.ints .i64 (List.drop 0 (List.take (IntKind.i64.wrap ((↑x.length : Int) - (1 : Int))).toNat x)))) ∧ True) ∧ True ∧ true = true) ∧ (trimL (List.drop 0 (List.take (IntKind.i64.wrap ((↑x.length : Int) - (1 : Int))).toNat x)) = trimL l ∧ lenOk (List.drop 0 (List.take (IntKind.i64.wrap ((↑x.length : Int) - (1 : Int))).toNat x))) ∧ (List.drop 0 (List.take (IntKind.i64.wrap ((↑x.length : Int) - (1 : Int))).toNat x)).length < x.length
  | false => True ∧ True ∧ (false = false ∧ True) ∧ D.ints .i64 x = F
 | false => True ∧ True ∧ True ∧ (false = false ∧ True) ∧ D.ints .i64 x = F) := by kernel_rfl
def c102 : Ctx := ⟨tab, lkS [(106, sp106)], [3], [25]⟩
def inv102 (l : List Int) : Nat → Option Inv
 | 3 => some ⟨Int, fun i => [(8, .d (i64 i)), (3, .row 3)], fun i => [(3, .row 3 (dgs (outW (l.take i.toNat))))], fun s => slotN s 8, fun _ i => 0 ≤ i ∧ i ≤ l.length, fun i => (l.length - i).toNat⟩
 | 6 => some ⟨Int × Int × List Int, fun x => [(12, .d (i64 x.1)), (5, .d (u64 x.2.1)), (3, .row 3)], fun x => [(3, .row 3 (dgs x.2.2))], fun s => (slotN s 12, slotN s 5, rowD s 3),
   fun s x => (0 ≤ x.1 ∧ x.1 ≤ 4) ∧ x.2.1 = (((slotN s 5).toNat / 65536 ^ x.1.toNat : Nat) : Int) ∧ x.2.2 = rowD s 3 ++ nB 65536 x.1.toNat (slotN s 5).toNat, fun x => (4 - x.1).toNat⟩
 | _ => none
set_option maxRecDepth 100000 in
theorem vc102  (l : List Int) (F : D)  :
    (owed c102 (inv102 l) Tryd.f102 [.ints .u64 l] F) = (
 True ∧ 1 ≠ 0 ∧ True ∧ True ∧ True ∧ (((sm (AV.d (D.val (.int .i64 0))) ∧ sm (AV.row 3) ∧ True) ∧ (some (Blk.row (3 : TypeId) (D.ints .i64 [])) = some (Blk.row (3 : TypeId) (D.ints .i64 (outW (List.take 0 l)))) ∧ True) ∧ true = true) ∧ (0 : Int) ≤ 0 ∧ (0 : Int) ≤ (↑l.length : Int)) ∧ ∀ (x : Int), (0 : Int) ≤ x ∧ x ≤ (↑l.length : Int) → true = true ∧ True ∧ match decide (x < (↑l.length : Int)) with
 | true => ((0 : Int) ≤ x ∧ x < (↑l.length : Int) ∧ 1 = 1) ∧ (1 ≠ 0 ∧ 1 = 1 ∧ false = false) ∧ True ∧ True ∧ (((sm (AV.d (D.val (.int .i64 0))) ∧ sm (AV.d (D.val (.int .u64 (l.getD x.toNat (0 : Int))))) ∧ sm (AV.row 3) ∧ True) ∧ (sm (some (Blk.row (3 : TypeId) (D.ints .i64 (outW (List.take x.toNat l))))) ∧ True) ∧ true = true) ∧ ((0 : Int) ≤ 0 ∧ (0 : Int) ≤ 4) ∧ l.getD x.toNat (0 : Int) = (↑((l.getD x.toNat (0 : Int)).toNat / 1) : Int) ∧ outW (List.take x.toNat l) = outW (List.take x.toNat l) ++ nB 65536 0 (l.getD x.toNat (0 : Int)).toNat) ∧ ∀ (x_1 : Int × Int × List Int), ((0 : Int) ≤ x_1.fst ∧ x_1.fst ≤ (4 : Int)) ∧ x_1.snd.fst = (↑((l.getD x.toNat (0 : Int)).toNat / 65536 ^ x_1.fst.toNat) : Int) ∧ x_1.snd.snd = outW (List.take x.toNat l) ++ nB 65536 x_1.fst.toNat (l.getD x.toNat (0 : Int)).toNat → true = true ∧ True ∧ match decide (x_1.fst < (4 : Int)) with
  | true => True ∧ True ∧ (65536 : Int) ≠ 0 ∧ True ∧ (1 = 1 ∧ 1 ≤ 4096) ∧ ((3 : TypeId) = (3 : TypeId) ∧ 89 = 89 ∧ true = true ∧ (x_1.snd.snd ++ [IntKind.i64.wrap (x_1.snd.fst.tmod (65536 : Int))]).length ≤ 140737488355328 ∧ (x_1.snd.snd ++ [IntKind.i64.wrap (x_1.snd.fst.tmod (65536 : Int))]).length * 8 ≤ 140737488355328 ∧ 1 ≠ 0 ∧ 1 = 1) ∧ True ∧ True ∧ (65536 : Int) ≠ 0 ∧ True ∧ True ∧ True ∧ ((sm (AV.d (D.val (.int .i64 (IntKind.i64.wrap (x_1.fst + (1 : Int)))))) ∧ sm (AV.d (D.val (.int .u64 (IntKind.u64.wrap (x_1.snd.fst.tdiv (65536 : Int)))))) ∧ sm (AV.row 3) ∧ True) ∧ (sm (some (Blk.row (3 : TypeId) (D.ints .i64 (x_1.snd.snd ++ [IntKind.i64.wrap (x_1.snd.fst.tmod (65536 : Int))])))) ∧ True) ∧ true = true) ∧ (((0 : Int) ≤ IntKind.i64.wrap (x_1.fst + (1 : Int)) ∧ IntKind.i64.wrap (x_1.fst + (1 : Int)) ≤ (4 : Int)) ∧ IntKind.u64.wrap (x_1.snd.fst.tdiv (65536 : Int)) = (↑((l.getD x.toNat (0 : Int)).toNat / 65536 ^ (IntKind.i64.wrap (x_1.fst + (1 : Int))).toNat) : Int) ∧ x_1.snd.snd ++ [IntKind.i64.wrap (x_1.snd.fst.tmod (65536 : Int))] = outW (List.take x.toNat l) ++ nB 65536 (IntKind.i64.wrap (x_1.fst + (1 : Int))).toNat (l.getD x.toNat (0 : Int)).toNat) ∧ ((4 : Int) - IntKind.i64.wrap (x_1.fst + (1 : Int))).toNat < ((4 : Int) - x_1.fst).toNat
  | false => True ∧ True ∧ ((sm (AV.d (D.val (.int .i64 (IntKind.i64.wrap (x + (1 : Int)))))) ∧ sm (AV.row 3) ∧ True) ∧ (some (Blk.row (3 : TypeId) (D.ints .i64 x_1.snd.snd)) = some (Blk.row (3 : TypeId) (D.ints .i64 (outW (List.take (IntKind.i64.wrap (x + (1 : Int))).toNat l)))) ∧ True) ∧ true = true) ∧ ((0 : Int) ≤ IntKind.i64.wrap (x + (1 : Int)) ∧ IntKind.i64.wrap (x + (1 : Int)) ≤ (↑l.length : Int)) ∧ ((↑l.length : Int) - IntKind.i64.wrap (x + (1 : Int))).toNat < ((↑l.length : Int) - x).toNat
 | false => True ∧ (∃ (l_1 : List Int), [D.ints .i64 (outW (List.take x.toNat l))] = [D.ints .i64 l_1] ∧ lenOk l_1) ∧ True ∧ (false = false ∧ True) ∧ D.ints .i64 (trimL (outW (List.take x.toNat l))) = F) := by kernel_rfl
def inv103 (l : List Int) (n : Int) : Nat → Option Inv
 | 3 => some ⟨Int, fun i => [(6, .d (i64 i))], fun i => [(8, .fix (.arr .u64 n.toNat (wl n.toNat l (i + 1).toNat)))], fun s => slotN s 6, fun _ i => -1 ≤ i ∧ i < l.length, fun i => (i + 1).toNat⟩
 | _ => none
set_option maxRecDepth 100000 in
theorem vc103  (l : List Int) (n : Int) (F : D)  :
    (owed c105 (inv103 l n) Tryd.f103 [dgs l, i64 n] F) = (
 True ∧ True ∧ ((0 : Int) ≤ n ∧ n = n ∧ n ≤ (281474976710656 : Int) ∧ (↑(8 : Nat) : Int) * n ≤ (281474976710656 : Int) ∧ 1 = 1) ∧ True ∧ True ∧ True ∧ True ∧ True ∧ (((sm (AV.d (D.val (.int .i64 (IntKind.i64.wrap ((↑l.length : Int) - (1 : Int)))))) ∧ True) ∧ (some (Blk.fix (D.arr .u64 n.toNat (List.replicate n.toNat (0 : Int)))) = some (Blk.fix (D.arr .u64 n.toNat (wl n.toNat l (IntKind.i64.wrap ((↑l.length : Int) - (1 : Int)) + (1 : Int)).toNat))) ∧ True) ∧ true = true) ∧ (-1 : Int) ≤ IntKind.i64.wrap ((↑l.length : Int) - (1 : Int)) ∧ IntKind.i64.wrap ((↑l.length : Int) - (1 : Int)) < (↑l.length : Int)) ∧ ∀ (x : Int), (-1 : Int) ≤ x ∧ x < (↑l.length : Int) → true = true ∧ True ∧ True ∧ match decide (x ≥ (0 : Int)) with
 | true => True ∧ True ∧ True ∧ True ∧ match decide (x < IntKind.i64.wrap ((4 : Int) * n)) with
  | true => True ∧ True ∧ (4 : Int) ≠ 0 ∧ True ∧ True ∧ (4 : Int) ≠ 0 ∧ ((0 : Int) ≤ IntKind.i64.wrap (x.tdiv (4 : Int)) ∧ IntKind.i64.wrap (x.tdiv (4 : Int)) < (↑n.toNat : Int) ∧ 1 = 1) ∧ (1 ≠ 0 ∧ 1 = 1 ∧ false = false) ∧ True ∧ True ∧ True ∧ ((0 : Int) ≤ x ∧ x < (↑l.length : Int) ∧ 1 = 1) ∧ (1 ≠ 0 ∧ 1 = 1 ∧ false = false) ∧ True ∧ True ∧ ((0 : Int) ≤ IntKind.i64.wrap (x.tdiv (4 : Int)) ∧ IntKind.i64.wrap (x.tdiv (4 : Int)) < (↑n.toNat : Int) ∧ 1 = 1) ∧ ((0 + (IntKind.i64.wrap (x.tdiv (4 : Int))).toNat < n.toNat ∧ ([] : List Nat) = [] ∧ true = true) ∧ 1 ≠ 0 ∧ 1 = 1 ∧ false = false) ∧ True ∧ True ∧ True ∧ ((sm (AV.d (D.val (.int .i64 (IntKind.i64.wrap (x - (1 : Int)))))) ∧ True) ∧ (some (Blk.fix (D.arr .u64 n.toNat ((wl n.toNat l (x + (1 : Int)).toNat).set (0 + (IntKind.i64.wrap (x.tdiv (4 : Int))).toNat) (IntKind.u64.wrap (IntKind.u64.wrap ((wl n.toNat l (x + (1 : Int)).toNat).getD (0 + (IntKind.i64.wrap (x.tdiv (4 : Int))).toNat) (0 : Int) * (65536 : Int)) + IntKind.u64.wrap (l.getD x.toNat (0 : Int))))))) = some (Blk.fix (D.arr .u64 n.toNat (wl n.toNat l (IntKind.i64.wrap (x - (1 : Int)) + (1 : Int)).toNat))) ∧ True) ∧ true = true) ∧ ((-1 : Int) ≤ IntKind.i64.wrap (x - (1 : Int)) ∧ IntKind.i64.wrap (x - (1 : Int)) < (↑l.length : Int)) ∧ (IntKind.i64.wrap (x - (1 : Int)) + (1 : Int)).toNat < (x + (1 : Int)).toNat
  | false => True ∧ True ∧ True ∧ ((sm (AV.d (D.val (.int .i64 (IntKind.i64.wrap (x - (1 : Int)))))) ∧ True) ∧ (some (Blk.fix (D.arr .u64 n.toNat (wl n.toNat l (x + (1 : Int)).toNat))) = some (Blk.fix (D.arr .u64 n.toNat (wl n.toNat l (IntKind.i64.wrap (x - (1 : Int)) + (1 : Int)).toNat))) ∧ True) ∧ true = true) ∧ ((-1 : Int) ≤ IntKind.i64.wrap (x - (1 : Int)) ∧ IntKind.i64.wrap (x - (1 : Int)) < (↑l.length : Int)) ∧ (IntKind.i64.wrap (x - (1 : Int)) + (1 : Int)).toNat < (x + (1 : Int)).toNat
 | false => True ∧ True ∧ (false = false ∧ True) ∧ D.ints .u64 (List.take n.toNat (List.drop 0 (wl n.toNat l (x + (1 : Int)).toNat))) = F) := by kernel_rfl
def sp48 : Go.Vg.Spec := ⟨fun ds => ∃ l, ds = [num4 l] ∧ okw l ∧ l.length = 4, fun ds => dgs (dg (vB 18446744073709551616 (arrOf (ds.headD default)))), false, [75]⟩
def sp50 : Go.Vg.Spec := ⟨fun ds => ∃ l, ds = [dgs l] ∧ okd l ∧ lenOk l, fun ds => num4 (nB 18446744073709551616 4 (vB 65536 (intsOf (ds.headD default)))), true, [89]⟩
def c48 : Ctx := ⟨tab, lkS [(102, sp102)], [], [12]⟩
def c50 : Ctx := ⟨tab, lkS [(103, sp103)], [], []⟩
set_option maxRecDepth 100000 in
theorem vc48  (l : List Int) (F : D)  :
    (owed c48 (fun _ => none) Tryd.f48 [num4 l] F) = (
 (True ∧ false = false) ∧ True ∧ ((0 : Int) ≤ 0 ∧ (0 : Int) < (↑(4 : Nat) : Int) ∧ 4 = 4 ∧ 1 = 1) ∧ (1 ≠ 0 ∧ 1 = 1 ∧ false = false) ∧ ((0 : Int) ≤ 1 ∧ (1 : Int) < (↑(4 : Nat) : Int) ∧ 4 = 4 ∧ 1 = 1) ∧ (1 ≠ 0 ∧ 1 = 1 ∧ false = false) ∧ ((0 : Int) ≤ 2 ∧ (2 : Int) < (↑(4 : Nat) : Int) ∧ 4 = 4 ∧ 1 = 1) ∧ (1 ≠ 0 ∧ 1 = 1 ∧ false = false) ∧ ((0 : Int) ≤ 3 ∧ (3 : Int) < (↑(4 : Nat) : Int) ∧ 4 = 4 ∧ 1 = 1) ∧ (1 ≠ 0 ∧ 1 = 1 ∧ false = false) ∧ (1 = 1 ∧ 4 ≤ 4096) ∧ (∃ (l_1 : List Int), [D.ints .u64 [l.getD 0 (0 : Int), l.getD 1 (0 : Int), l.getD 2 (0 : Int), l.getD 3 (0 : Int)]] = [D.ints .u64 l_1] ∧ okw l_1 ∧ l_1.length ≤ 100) ∧ True ∧ (false = false ∧ True) ∧ D.ints .i64 (dg (vB 18446744073709551616 [l.getD 0 (0 : Int), l.getD 1 (0 : Int), l.getD 2 (0 : Int), l.getD 3 (0 : Int)])) = F) := by kernel_rfl
set_option maxRecDepth 100000 in
theorem vc50  (l : List Int) (F : D)  :
    (owed c50 (fun _ => none) Tryd.f50 [dgs l] F) = (
 (True ∧ 4 ≠ 0) ∧ True ∧ (∃ (l_1 : List Int), ∃ (n : Int), [D.ints .i64 l, D.val (.int .i64 4)] = [D.ints .i64 l_1, D.val (Value.int IntKind.i64 n)] ∧ okd l_1 ∧ lenOk l_1 ∧ (0 : Int) ≤ n ∧ n ≤ (100 : Int)) ∧ True ∧ True ∧ ((0 : Int) ≤ 0 ∧ (0 : Int) < (↑(nB 18446744073709551616 4 (vB 65536 l)).length : Int) ∧ 1 = 1) ∧ (1 ≠ 0 ∧ 1 = 1 ∧ false = false) ∧ True ∧ ((0 : Int) ≤ 1 ∧ (1 : Int) < (↑(nB 18446744073709551616 4 (vB 65536 l)).length : Int) ∧ 1 = 1) ∧ (1 ≠ 0 ∧ 1 = 1 ∧ false = false) ∧ True ∧ ((0 : Int) ≤ 2 ∧ (2 : Int) < (↑(nB 18446744073709551616 4 (vB 65536 l)).length : Int) ∧ 1 = 1) ∧ (1 ≠ 0 ∧ 1 = 1 ∧ false = false) ∧ True ∧ ((0 : Int) ≤ 3 ∧ (3 : Int) < (↑(nB 18446744073709551616 4 (vB 65536 l)).length : Int) ∧ 1 = 1) ∧ (1 ≠ 0 ∧ 1 = 1 ∧ false = false) ∧ (1 = 1 ∧ false = false ∧ (0 < 4 ∧ ([] : List Nat) = [] ∧ true = true) ∧ false = false ∧ (1 < 4 ∧ ([] : List Nat) = [] ∧ true = true) ∧ false = false ∧ (2 < 4 ∧ ([] : List Nat) = [] ∧ true = true) ∧ false = false ∧ (3 < 4 ∧ ([] : List Nat) = [] ∧ true = true) ∧ True) ∧ (Sk.arr 4 = Sk.arr 4 ∧ 4 ≠ 0 ∧ 4 = 4 ∧ false = false) ∧ ((4 ≠ 0 ∧ 4 = 4 ∧ true = true) ∧ True) ∧ D.arr .u64 4 [(nB 18446744073709551616 4 (vB 65536 l)).getD 0 (0 : Int), (nB 18446744073709551616 4 (vB 65536 l)).getD 1 (0 : Int), (nB 18446744073709551616 4 (vB 65536 l)).getD 2 (0 : Int), (nB 18446744073709551616 4 (vB 65536 l)).getD 3 (0 : Int)] = F) := by kernel_rfl
def lenS (l : List Int) : Prop := l.length ≤ 65536
def sp53 : Go.Vg.Spec := ⟨fun ds => ∃ l m, ds = [dgs l, dgs m] ∧ (okd l ∧ lenS l) ∧ okd m ∧ lenS m, fun ds => dgs (dg (vB 65536 (intsOf (ds.headD default)) + vB 65536 (intsOf (ds.getD 1 default)))), false, [89, 89]⟩
def c53 : Ctx := ⟨tab, lkS [(105, sp105), (106, sp106)], [5], [41]⟩
def inv53 (l m : List Int) : Nat → Option Inv
 | 4 => some ⟨Nat, fun i => [(7, .d (i64 i)), (6, .d (i64 (((vB 65536 (l.take i) + vB 65536 (m.take i)) / 65536 ^ i : Nat) : Int))), (5, .row 5)], fun i => [(5, .row 3 (dgs (nB 65536 i (vB 65536 (l.take i) + vB 65536 (m.take i)))))], fun s => (slotN s 7).toNat,
   fun _ i => i ≤ l.length + m.length + 1, fun i => l.length + m.length + 1 - i⟩
 | _ => none
set_option maxRecDepth 100000 in
theorem vc53  (l m : List Int) (F : D)  :
    (owed c53 (inv53 l m) Tryd.f53 [dgs l, dgs m] F) = (
 True ∧ 1 ≠ 0 ∧ True ∧ True ∧ (((AV.d (D.val (.int .i64 0)) = AV.d (D.val (.int .i64 (↑(Int.toNat (0 : Int)) : Int))) ∧ AV.d (D.val (.int .i64 0)) = AV.d (D.val (.int .i64 (↑((vB 65536 (List.take (Int.toNat (0 : Int)) l) + vB 65536 (List.take (Int.toNat (0 : Int)) m)) / 1) : Int))) ∧ sm (AV.row 5) ∧ True) ∧ (some (Blk.row (3 : TypeId) (D.ints .i64 [])) = some (Blk.row (3 : TypeId) (D.ints .i64 (nB 65536 (Int.toNat (0 : Int)) (vB 65536 (List.take (Int.toNat (0 : Int)) l) + vB 65536 (List.take (Int.toNat (0 : Int)) m))))) ∧ True) ∧ true = true) ∧ Int.toNat (0 : Int) ≤ l.length + m.length + 1) ∧ ∀ (x : Nat), x ≤ l.length + m.length + 1 → true = true ∧ True ∧ True ∧ True ∧ True ∧ True ∧ match decide ((↑x : Int) < (↑l.length : Int)) with
 | true => True ∧ True ∧ True ∧ True ∧ True ∧ True ∧ (∃ (l_1 : List Int), ∃ (i : Int), [D.ints .i64 l, D.val (.int .i64 (↑x : Int))] = [D.ints .i64 l_1, D.val (Value.int IntKind.i64 i)] ∧ lenOk l_1) ∧ True ∧ True ∧ (∃ (l : List Int), ∃ (i : Int), [D.ints .i64 m, D.val (.int .i64 (↑x : Int))] = [D.ints .i64 l, D.val (Value.int IntKind.i64 i)] ∧ lenOk l) ∧ True ∧ True ∧ True ∧ True ∧ True ∧ (65536 : Int) ≠ 0 ∧ (1 = 1 ∧ 1 ≤ 4096) ∧ ((3 : TypeId) = (3 : TypeId) ∧ 89 = 89 ∧ true = true ∧ (nB 65536 x (vB 65536 (List.take x l) + vB 65536 (List.take x m)) ++ [(IntKind.i64.wrap ((↑((vB 65536 (List.take x l) + vB 65536 (List.take x m)) / 65536 ^ x) : Int) + IntKind.i64.wrap (dig l (↑x : Int) + dig m (↑x : Int)))).tmod (65536 : Int)]).length ≤ 140737488355328 ∧ (nB 65536 x (vB 65536 (List.take x l) + vB 65536 (List.take x m)) ++ [(IntKind.i64.wrap ((↑((vB 65536 (List.take x l) + vB 65536 (List.take x m)) / 65536 ^ x) : Int) + IntKind.i64.wrap (dig l (↑x : Int) + dig m (↑x : Int)))).tmod (65536 : Int)]).length * 8 ≤ 140737488355328 ∧ 1 ≠ 0 ∧ 1 = 1) ∧ True ∧ True ∧ (65536 : Int) ≠ 0 ∧ True ∧ True ∧ True ∧ True ∧ ((AV.d (D.val (.int .i64 (IntKind.i64.wrap ((↑x : Int) + (1 : Int))))) = AV.d (D.val (.int .i64 (↑(IntKind.i64.wrap ((↑x : Int) + (1 : Int))).toNat : Int))) ∧ AV.d (D.val (.int .i64 (IntKind.i64.wrap ((IntKind.i64.wrap ((↑((vB 65536 (List.take x l) + vB 65536 (List.take x m)) / 65536 ^ x) : Int) + IntKind.i64.wrap (dig l (↑x : Int) + dig m (↑x : Int)))).tdiv (65536 : Int))))) = AV.d (D.val (.int .i64 (↑((vB 65536 (List.take (IntKind.i64.wrap ((↑x : Int) + (1 : Int))).toNat l) + vB 65536 (List.take (IntKind.i64.wrap ((↑x : Int) + (1 : Int))).toNat m)) / 65536 ^ (IntKind.i64.wrap ((↑x : Int) + (1 : Int))).toNat) : Int))) ∧ sm (AV.row 5) ∧ True) ∧ (some (Blk.row (3 : TypeId) (D.ints .i64 (nB 65536 x (vB 65536 (List.take x l) + vB 65536 (List.take x m)) ++ [(IntKind.i64.wrap ((↑((vB 65536 (List.take x l) + vB 65536 (List.take x m)) / 65536 ^ x) : Int) + IntKind.i64.wrap (dig l (↑x : Int) + dig m (↑x : Int)))).tmod (65536 : Int)]))) = some (Blk.row (3 : TypeId) (D.ints .i64 (nB 65536 (IntKind.i64.wrap ((↑x : Int) + (1 : Int))).toNat (vB 65536 (List.take (IntKind.i64.wrap ((↑x : Int) + (1 : Int))).toNat l) + vB 65536 (List.take (IntKind.i64.wrap ((↑x : Int) + (1 : Int))).toNat m))))) ∧ True) ∧ true = true) ∧ (IntKind.i64.wrap ((↑x : Int) + (1 : Int))).toNat ≤ l.length + m.length + 1 ∧ l.length + m.length + 1 - (IntKind.i64.wrap ((↑x : Int) + (1 : Int))).toNat < l.length + m.length + 1 - x
 | false => True ∧ True ∧ True ∧ True ∧ True ∧ True ∧ match decide ((↑x : Int) < (↑m.length : Int)) with
  | true => True ∧ True ∧ True ∧ True ∧ (∃ (l_1 : List Int), ∃ (i : Int), [D.ints .i64 l, D.val (.int .i64 (↑x : Int))] = [D.ints .i64 l_1, D.val (Value.int IntKind.i64 i)] ∧ lenOk l_1) ∧ True ∧ True ∧ (∃ (l : List Int), ∃ (i : Int), [D.ints .i64 m, D.val (.int .i64 (↑x : Int))] = [D.ints .i64 l, D.val (Value.int IntKind.i64 i)] ∧ lenOk l) ∧ True ∧ True ∧ True ∧ True ∧ True ∧ (65536 : Int) ≠ 0 ∧ (1 = 1 ∧ 1 ≤ 4096) ∧ ((3 : TypeId) = (3 : TypeId) ∧ 89 = 89 ∧ true = true ∧ (nB 65536 x (vB 65536 (List.take x l) + vB 65536 (List.take x m)) ++ [(IntKind.i64.wrap ((↑((vB 65536 (List.take x l) + vB 65536 (List.take x m)) / 65536 ^ x) : Int) + IntKind.i64.wrap (dig l (↑x : Int) + dig m (↑x : Int)))).tmod (65536 : Int)]).length ≤ 140737488355328 ∧ (nB 65536 x (vB 65536 (List.take x l) + vB 65536 (List.take x m)) ++ [(IntKind.i64.wrap ((↑((vB 65536 (List.take x l) + vB 65536 (List.take x m)) / 65536 ^ x) : Int) + IntKind.i64.wrap (dig l (↑x : Int) + dig m (↑x : Int)))).tmod (65536 : Int)]).length * 8 ≤ 140737488355328 ∧ 1 ≠ 0 ∧ 1 = 1) ∧ True ∧ True ∧ (65536 : Int) ≠ 0 ∧ True ∧ True ∧ True ∧ True ∧ ((AV.d (D.val (.int .i64 (IntKind.i64.wrap ((↑x : Int) + (1 : Int))))) = AV.d (D.val (.int .i64 (↑(IntKind.i64.wrap ((↑x : Int) + (1 : Int))).toNat : Int))) ∧ AV.d (D.val (.int .i64 (IntKind.i64.wrap ((IntKind.i64.wrap ((↑((vB 65536 (List.take x l) + vB 65536 (List.take x m)) / 65536 ^ x) : Int) + IntKind.i64.wrap (dig l (↑x : Int) + dig m (↑x : Int)))).tdiv (65536 : Int))))) = AV.d (D.val (.int .i64 (↑((vB 65536 (List.take (IntKind.i64.wrap ((↑x : Int) + (1 : Int))).toNat l) + vB 65536 (List.take (IntKind.i64.wrap ((↑x : Int) + (1 : Int))).toNat m)) / 65536 ^ (IntKind.i64.wrap ((↑x : Int) + (1 : Int))).toNat) : Int))) ∧ sm (AV.row 5) ∧ True) ∧ (some (Blk.row (3 : TypeId) (D.ints .i64 (nB 65536 x (vB 65536 (List.take x l) + vB 65536 (List.take x m)) ++ [(IntKind.i64.wrap ((↑((vB 65536 (List.take x l) + vB 65536 (List.take x m)) / 65536 ^ x) : Int) + IntKind.i64.wrap (dig l (↑x : Int) + dig m (↑x : Int)))).tmod (65536 : Int)]))) = some (Blk.row (3 : TypeId) (D.ints .i64 (nB 65536 (IntKind.i64.wrap ((↑x : Int) + (1 : Int))).toNat (vB 65536 (List.take (IntKind.i64.wrap ((↑x : Int) + (1 : Int))).toNat l) + vB 65536 (List.take (IntKind.i64.wrap ((↑x : Int) + (1 : Int))).toNat m))))) ∧ True) ∧ true = true) ∧ (IntKind.i64.wrap ((↑x : Int) + (1 : Int))).toNat ≤ l.length + m.length + 1 ∧ l.length + m.length + 1 - (IntKind.i64.wrap ((↑x : Int) + (1 : Int))).toNat < l.length + m.length + 1 - x
  | false => True ∧ True ∧ True ∧ match decide ((↑((vB 65536 (List.take x l) + vB 65536 (List.take x m)) / 65536 ^ x) : Int) > (0 : Int)) with
   | true => True ∧ True ∧ True ∧ (∃ (l_1 : List Int), ∃ (i : Int), [D.ints .i64 l, D.val (.int .i64 (↑x : Int))] = [D.ints .i64 l_1, D.val (Value.int IntKind.i64 i)] ∧ lenOk l_1) ∧ True ∧ True ∧ (∃ (l : List Int), ∃ (i : Int), [D.ints .i64 m, D.val (.int .i64 (↑x : Int))] = [D.ints .i64 l, D.val (Value.int IntKind.i64 i)] ∧ lenOk l) ∧ True ∧ True ∧ True ∧ True ∧ True ∧ (65536 : Int) ≠ 0 ∧ (1 = 1 ∧ 1 ≤ 4096) ∧ ((3 : TypeId) = (3 : TypeId) ∧ 89 = 89 ∧ true = true ∧ (nB 65536 x (vB 65536 (List.take x l) + vB 65536 (List.take x m)) ++ [(IntKind.i64.wrap ((↑((vB 65536 (List.take x l) + vB 65536 (List.take x m)) / 65536 ^ x) : Int) + IntKind.i64.wrap (dig l (↑x : Int) + dig m (↑x : Int)))).tmod (65536 : Int)]).length ≤ 140737488355328 ∧ (nB 65536 x (vB 65536 (List.take x l) + vB 65536 (List.take x m)) ++ [(IntKind.i64.wrap ((↑((vB 65536 (List.take x l) + vB 65536 (List.take x m)) / 65536 ^ x) : Int) + IntKind.i64.wrap (dig l (↑x : Int) + dig m (↑x : Int)))).tmod (65536 : Int)]).length * 8 ≤ 140737488355328 ∧ 1 ≠ 0 ∧ 1 = 1) ∧ True ∧ True ∧ (65536 : Int) ≠ 0 ∧ True ∧ True ∧ True ∧ True ∧ ((AV.d (D.val (.int .i64 (IntKind.i64.wrap ((↑x : Int) + (1 : Int))))) = AV.d (D.val (.int .i64 (↑(IntKind.i64.wrap ((↑x : Int) + (1 : Int))).toNat : Int))) ∧ AV.d (D.val (.int .i64 (IntKind.i64.wrap ((IntKind.i64.wrap ((↑((vB 65536 (List.take x l) + vB 65536 (List.take x m)) / 65536 ^ x) : Int) + IntKind.i64.wrap (dig l (↑x : Int) + dig m (↑x : Int)))).tdiv (65536 : Int))))) = AV.d (D.val (.int .i64 (↑((vB 65536 (List.take (IntKind.i64.wrap ((↑x : Int) + (1 : Int))).toNat l) + vB 65536 (List.take (IntKind.i64.wrap ((↑x : Int) + (1 : Int))).toNat m)) / 65536 ^ (IntKind.i64.wrap ((↑x : Int) + (1 : Int))).toNat) : Int))) ∧ sm (AV.row 5) ∧ True) ∧ (some (Blk.row (3 : TypeId) (D.ints .i64 (nB 65536 x (vB 65536 (List.take x l) + vB 65536 (List.take x m)) ++ [(IntKind.i64.wrap ((↑((vB 65536 (List.take x l) + vB 65536 (List.take x m)) / 65536 ^ x) : Int) + IntKind.i64.wrap (dig l (↑x : Int) + dig m (↑x : Int)))).tmod (65536 : Int)]))) = some (Blk.row (3 : TypeId) (D.ints .i64 (nB 65536 (IntKind.i64.wrap ((↑x : Int) + (1 : Int))).toNat (vB 65536 (List.take (IntKind.i64.wrap ((↑x : Int) + (1 : Int))).toNat l) + vB 65536 (List.take (IntKind.i64.wrap ((↑x : Int) + (1 : Int))).toNat m))))) ∧ True) ∧ true = true) ∧ (IntKind.i64.wrap ((↑x : Int) + (1 : Int))).toNat ≤ l.length + m.length + 1 ∧ l.length + m.length + 1 - (IntKind.i64.wrap ((↑x : Int) + (1 : Int))).toNat < l.length + m.length + 1 - x
   | false => True ∧ (∃ (l_1 : List Int), [D.ints .i64 (nB 65536 x (vB 65536 (List.take x l) + vB 65536 (List.take x m)))] = [D.ints .i64 l_1] ∧ lenOk l_1) ∧ True ∧ (false = false ∧ True) ∧ D.ints .i64 (trimL (nB 65536 x (vB 65536 (List.take x l) + vB 65536 (List.take x m)))) = F) := by kernel_rfl
noncomputable def dgP (n : Nat) : List Int := opq (dg (2 ^ n))
noncomputable def sp100 : Go.Vg.Spec := ⟨fun ds => ∃ n, ds = [i64 n] ∧ 0 ≤ n ∧ n ≤ 1048576, fun ds => dgs (dgP (numOf (ds.headD default)).toNat), false, [3]⟩
def sp54 : Go.Vg.Spec := ⟨fun ds => ∃ l m, ds = [dgs l, dgs m] ∧ (okd l ∧ lenS l) ∧ okd m ∧ lenS m, fun ds => dgs (dg (vB 65536 (intsOf (ds.headD default)) * vB 65536 (intsOf (ds.getD 1 default)))), false, [89, 89]⟩
def c54 : Ctx := ⟨tab, lkS [(106, sp106)], [], [65]⟩
structure TimesI (l m : List Int) (i : Nat) (out : List Int) : Prop where
 len : out.length = l.length + m.length
 ok : okd out
 zero : ∀ j, i + m.length ≤ j → out.getD j 0 = 0
 val : vB 65536 out = vB 65536 (l.take i) * vB 65536 m
structure TimesJ (l m : List Int) (i k : Nat) (carry : Int) (out : List Int) : Prop where
 len : out.length = l.length + m.length
 ok : okd out
 zero : ∀ j, i + m.length ≤ j → out.getD j 0 = 0
 car : 0 ≤ carry ∧ carry < 65536
 val : vB 65536 out + 65536 ^ (i + k) * carry.toNat = vB 65536 (l.take i) * vB 65536 m + 65536 ^ i * ((l.getD i 0).toNat * vB 65536 (m.take k))
def inv54 (l m : List Int) : Nat → Option Inv
 | 3 => some ⟨Nat × List Int, fun x => [(17, .d (i64 x.1))], fun x => [(14, .fix (.arr .i64 (l.length + m.length) x.2))], fun s => ((slotN s 17).toNat, rowD s 14), fun _ x => x.1 ≤ l.length ∧ TimesI l m x.1 x.2, fun x => l.length - x.1⟩
 | 7 => some ⟨Nat × Int × List Int, fun x => [(22, .d (i64 x.1)), (7, .d (i64 x.2.1))], fun x => [(14, .fix (.arr .i64 (l.length + m.length) x.2.2))], fun s => ((slotN s 22).toNat, slotN s 7, rowD s 14), fun s x => x.1 ≤ m.length ∧ TimesJ l m (slotN s 17).toNat x.1 x.2.1 x.2.2, fun x => m.length - x.1⟩
 | _ => none
set_option maxRecDepth 100000 in
theorem vc54  (l m : List Int) (F : D)  :
    (owed c54 (inv54 l m) Tryd.f54 [dgs l, dgs m] F) = (
 True ∧ True ∧ True ∧ True ∧ True ∧ True ∧ ((0 : Int) ≤ IntKind.i64.wrap ((↑l.length : Int) + (↑m.length : Int)) ∧ IntKind.i64.wrap ((↑l.length : Int) + (↑m.length : Int)) = IntKind.i64.wrap ((↑l.length : Int) + (↑m.length : Int)) ∧ IntKind.i64.wrap ((↑l.length : Int) + (↑m.length : Int)) ≤ (281474976710656 : Int) ∧ (↑(8 : Nat) : Int) * IntKind.i64.wrap ((↑l.length : Int) + (↑m.length : Int)) ≤ (281474976710656 : Int) ∧ 1 = 1) ∧ True ∧ True ∧ True ∧ True ∧ (((AV.d (D.val (.int .i64 0)) = AV.d (D.val (.int .i64 (↑(0 : Nat) : Int))) ∧ True) ∧ (some (Blk.fix (D.arr .i64 (IntKind.i64.wrap ((↑l.length : Int) + (↑m.length : Int))).toNat (List.replicate (IntKind.i64.wrap ((↑l.length : Int) + (↑m.length : Int))).toNat (0 : Int)))) = some (Blk.fix (D.arr .i64 (l.length + m.length) (List.replicate (IntKind.i64.wrap ((↑l.length : Int) + (↑m.length : Int))).toNat (0 : Int)))) ∧ True) ∧ true = true) ∧ 0 ≤ l.length ∧ TimesI l m 0 (List.replicate (IntKind.i64.wrap ((↑l.length : Int) + (↑m.length : Int))).toNat (0 : Int))) ∧ ∀ (x : Nat × List Int), x.fst ≤ l.length ∧ TimesI l m x.fst x.snd → true = true ∧ True ∧ match decide ((↑x.fst : Int) < (↑l.length : Int)) with
 | true => True ∧ True ∧ True ∧ True ∧ True ∧ True ∧ (((AV.d (D.val (.int .i64 0)) = AV.d (D.val (.int .i64 (↑(0 : Nat) : Int))) ∧ sm (AV.d (D.val (.int .i64 0))) ∧ True) ∧ (sm (some (Blk.fix (D.arr .i64 (l.length + m.length) x.snd))) ∧ True) ∧ true = true) ∧ 0 ≤ m.length ∧ TimesJ l m (↑x.fst : Int).toNat 0 (0 : Int) x.snd) ∧ ∀ (x_1 : Nat × Int × List Int), x_1.fst ≤ m.length ∧ TimesJ l m (↑x.fst : Int).toNat x_1.fst x_1.snd.fst x_1.snd.snd → true = true ∧ True ∧ match decide ((↑x_1.fst : Int) < (↑m.length : Int)) with
  | true => True ∧ True ∧ True ∧ True ∧ True ∧ True ∧ True ∧ ((0 : Int) ≤ IntKind.i64.wrap ((↑x.fst : Int) + (↑x_1.fst : Int)) ∧ IntKind.i64.wrap ((↑x.fst : Int) + (↑x_1.fst : Int)) < (↑(IntKind.i64.wrap ((↑l.length : Int) + (↑m.length : Int))).toNat : Int) ∧ 1 = 1) ∧ (1 ≠ 0 ∧ 1 = 1 ∧ false = false) ∧ True ∧ True ∧ ((0 : Int) ≤ (↑x.fst : Int) ∧ (↑x.fst : Int) < (↑l.length : Int) ∧ 1 = 1) ∧ (1 ≠ 0 ∧ 1 = 1 ∧ false = false) ∧ True ∧ True ∧ ((0 : Int) ≤ (↑x_1.fst : Int) ∧ (↑x_1.fst : Int) < (↑m.length : Int) ∧ 1 = 1) ∧ (1 ≠ 0 ∧ 1 = 1 ∧ false = false) ∧ True ∧ True ∧ True ∧ True ∧ True ∧ True ∧ True ∧ True ∧ True ∧ (65536 : Int) ≠ 0 ∧ ((0 : Int) ≤ IntKind.i64.wrap ((↑x.fst : Int) + (↑x_1.fst : Int)) ∧ IntKind.i64.wrap ((↑x.fst : Int) + (↑x_1.fst : Int)) < (↑(IntKind.i64.wrap ((↑l.length : Int) + (↑m.length : Int))).toNat : Int) ∧ 1 = 1) ∧ ((0 + (IntKind.i64.wrap ((↑x.fst : Int) + (↑x_1.fst : Int))).toNat < l.length + m.length ∧ ([] : List Nat) = [] ∧ true = true) ∧ 1 ≠ 0 ∧ 1 = 1 ∧ false = false) ∧ True ∧ (65536 : Int) ≠ 0 ∧ True ∧ True ∧ True ∧ ((AV.d (D.val (.int .i64 (IntKind.i64.wrap ((↑x_1.fst : Int) + (1 : Int))))) = AV.d (D.val (.int .i64 (↑(IntKind.i64.wrap ((↑x_1.fst : Int) + (1 : Int))).toNat : Int))) ∧ sm (AV.d (D.val (Value.int IntKind.i64 (IntKind.i64.wrap ((IntKind.i64.wrap (x_1.snd.fst + IntKind.i64.wrap (x_1.snd.snd.getD (0 + (IntKind.i64.wrap ((↑x.fst : Int) + (↑x_1.fst : Int))).toNat) (0 : Int) + IntKind.i64.wrap (l.getD (↑x.fst : Int).toNat (0 : Int) * m.getD (↑x_1.fst : Int).toNat (0 : Int))))).tdiv (65536 : Int)))))) ∧ True) ∧ (sm (some (Blk.fix (D.arr .i64 (l.length + m.length) (x_1.snd.snd.set (0 + (IntKind.i64.wrap ((↑x.fst : Int) + (↑x_1.fst : Int))).toNat) ((IntKind.i64.wrap (x_1.snd.fst + IntKind.i64.wrap (x_1.snd.snd.getD (0 + (IntKind.i64.wrap ((↑x.fst : Int) + (↑x_1.fst : Int))).toNat) (0 : Int) + IntKind.i64.wrap (l.getD (↑x.fst : Int).toNat (0 : Int) * m.getD (↑x_1.fst : Int).toNat (0 : Int))))).tmod (65536 : Int)))))) ∧ True) ∧ true = true) ∧ ((IntKind.i64.wrap ((↑x_1.fst : Int) + (1 : Int))).toNat ≤ m.length ∧ TimesJ l m (↑x.fst : Int).toNat (IntKind.i64.wrap ((↑x_1.fst : Int) + (1 : Int))).toNat (IntKind.i64.wrap ((IntKind.i64.wrap (x_1.snd.fst + IntKind.i64.wrap (x_1.snd.snd.getD (0 + (IntKind.i64.wrap ((↑x.fst : Int) + (↑x_1.fst : Int))).toNat) (0 : Int) + IntKind.i64.wrap (l.getD (↑x.fst : Int).toNat (0 : Int) * m.getD (↑x_1.fst : Int).toNat (0 : Int))))).tdiv (65536 : Int))) (x_1.snd.snd.set (0 + (IntKind.i64.wrap ((↑x.fst : Int) + (↑x_1.fst : Int))).toNat) ((IntKind.i64.wrap (x_1.snd.fst + IntKind.i64.wrap (x_1.snd.snd.getD (0 + (IntKind.i64.wrap ((↑x.fst : Int) + (↑x_1.fst : Int))).toNat) (0 : Int) + IntKind.i64.wrap (l.getD (↑x.fst : Int).toNat (0 : Int) * m.getD (↑x_1.fst : Int).toNat (0 : Int))))).tmod (65536 : Int)))) ∧ m.length - (IntKind.i64.wrap ((↑x_1.fst : Int) + (1 : Int))).toNat < m.length - x_1.fst
  | false => True ∧ True ∧ True ∧ True ∧ True ∧ ((0 : Int) ≤ IntKind.i64.wrap ((↑x.fst : Int) + (↑m.length : Int)) ∧ IntKind.i64.wrap ((↑x.fst : Int) + (↑m.length : Int)) < (↑(IntKind.i64.wrap ((↑l.length : Int) + (↑m.length : Int))).toNat : Int) ∧ 1 = 1) ∧ (1 ≠ 0 ∧ 1 = 1 ∧ false = false) ∧ True ∧ True ∧ ((0 : Int) ≤ IntKind.i64.wrap ((↑x.fst : Int) + (↑m.length : Int)) ∧ IntKind.i64.wrap ((↑x.fst : Int) + (↑m.length : Int)) < (↑(IntKind.i64.wrap ((↑l.length : Int) + (↑m.length : Int))).toNat : Int) ∧ 1 = 1) ∧ ((0 + (IntKind.i64.wrap ((↑x.fst : Int) + (↑m.length : Int))).toNat < l.length + m.length ∧ ([] : List Nat) = [] ∧ true = true) ∧ 1 ≠ 0 ∧ 1 = 1 ∧ false = false) ∧ True ∧ True ∧ ((AV.d (D.val (.int .i64 (IntKind.i64.wrap ((↑x.fst : Int) + (1 : Int))))) = AV.d (D.val (.int .i64 (↑(IntKind.i64.wrap ((↑x.fst : Int) + (1 : Int))).toNat : Int))) ∧ True) ∧ (sm (some (Blk.fix (D.arr .i64 (l.length + m.length) (x_1.snd.snd.set (0 + (IntKind.i64.wrap ((↑x.fst : Int) + (↑m.length : Int))).toNat) (IntKind.i64.wrap (x_1.snd.snd.getD (0 + (IntKind.i64.wrap ((↑x.fst : Int) + (↑m.length : Int))).toNat) (0 : Int) + x_1.snd.fst)))))) ∧ True) ∧ true = true) ∧ ((IntKind.i64.wrap ((↑x.fst : Int) + (1 : Int))).toNat ≤ l.length ∧ TimesI l m (IntKind.i64.wrap ((↑x.fst : Int) + (1 : Int))).toNat (x_1.snd.snd.set (0 + (IntKind.i64.wrap ((↑x.fst : Int) + (↑m.length : Int))).toNat) (IntKind.i64.wrap (x_1.snd.snd.getD (0 + (IntKind.i64.wrap ((↑x.fst : Int) + (↑m.length : Int))).toNat) (0 : Int) + x_1.snd.fst)))) ∧ l.length - (IntKind.i64.wrap ((↑x.fst : Int) + (1 : Int))).toNat < l.length - x.fst
 | false => True ∧ (∃ (l_1 : List Int), [D.ints .i64 (List.take (IntKind.i64.wrap ((↑l.length : Int) + (↑m.length : Int))).toNat (List.drop 0 x.snd))] = [D.ints .i64 l_1] ∧ lenOk l_1) ∧ True ∧ (false = false ∧ True) ∧ D.ints .i64 (trimL (List.take (IntKind.i64.wrap ((↑l.length : Int) + (↑m.length : Int))).toNat (List.drop 0 x.snd))) = F) := by kernel_rfl
set_option maxRecDepth 100000 in
theorem vc100  (n : Int) (F : D)  :
    (owed c105 (fun _ => none) Tryd.f100 [i64 n] F) = (
 True ∧ True ∧ (16 : Int) ≠ 0 ∧ True ∧ ((0 : Int) ≤ IntKind.i64.wrap (IntKind.i64.wrap (n.tdiv (16 : Int)) + (1 : Int)) ∧ IntKind.i64.wrap (IntKind.i64.wrap (n.tdiv (16 : Int)) + (1 : Int)) = IntKind.i64.wrap (IntKind.i64.wrap (n.tdiv (16 : Int)) + (1 : Int)) ∧ IntKind.i64.wrap (IntKind.i64.wrap (n.tdiv (16 : Int)) + (1 : Int)) ≤ (281474976710656 : Int) ∧ (↑(8 : Nat) : Int) * IntKind.i64.wrap (IntKind.i64.wrap (n.tdiv (16 : Int)) + (1 : Int)) ≤ (281474976710656 : Int) ∧ 1 = 1) ∧ True ∧ True ∧ True ∧ (16 : Int) ≠ 0 ∧ True ∧ (16 : Int) ≠ 0 ∧ (0 : Int) ≤ n.tmod (16 : Int) ∧ ((0 : Int) ≤ IntKind.i64.wrap (n.tdiv (16 : Int)) ∧ IntKind.i64.wrap (n.tdiv (16 : Int)) < (↑(IntKind.i64.wrap (IntKind.i64.wrap (n.tdiv (16 : Int)) + (1 : Int))).toNat : Int) ∧ 1 = 1) ∧ ((0 + (IntKind.i64.wrap (n.tdiv (16 : Int))).toNat < (IntKind.i64.wrap (IntKind.i64.wrap (n.tdiv (16 : Int)) + (1 : Int))).toNat ∧ ([] : List Nat) = [] ∧ true = true) ∧ 1 ≠ 0 ∧ 1 = 1 ∧ false = false) ∧ True ∧ True ∧ (false = false ∧ True) ∧ D.ints .i64 (List.take (IntKind.i64.wrap (IntKind.i64.wrap (n.tdiv (16 : Int)) + (1 : Int))).toNat (List.drop 0 ((List.replicate (IntKind.i64.wrap (IntKind.i64.wrap (n.tdiv (16 : Int)) + (1 : Int))).toNat (0 : Int)).set (0 + (IntKind.i64.wrap (n.tdiv (16 : Int))).toNat) (ishl IntKind.i64 (1 : Int) (n.tmod (16 : Int)))))) = F) := by kernel_rfl
theorem wu {n : Int} (h : 0 ≤ n) (h2 : n < 18446744073709551616) : IntKind.u64.wrap n = n := by rw [w64]; omega
set_option maxRecDepth 100000 in
theorem m105 : Meets Tryd.prog 105 sp105 := by
 refine meets_of_owed (C := c105) ⟨tab_ok, fun f s h => by cases h⟩ (by kernel_rfl) (by kernel_rfl : Tryd.prog.funcs[105]? = some Tryd.f105) (by kernel_rfl) (by kernel_rfl) (by kernel_rfl) _ ?_
 rintro _ ⟨l, i, rfl, hl⟩
 refine ⟨fun _ => rfl, fun _ => none, ?_⟩
 show owed c105 (fun _ => none) Tryd.f105 [dgs l, i64 i] (i64 (dig l i))
 rw [vc105]
 simp (decide := true) only [eq_self, true_and, and_true, ne_eq, not_false_eq_true]
 unfold dig
 split
 ·rename_i h
  have h := of_decide_eq_true h
  rw [if_neg (by omega)]
 ·rename_i h
  have h := of_decide_eq_false h
  split
  ·rename_i h1
   have h1 := of_decide_eq_true h1
   rw [if_neg (by omega)]
  ·rename_i h1
   have h1 := of_decide_eq_false h1
   rw [if_pos (by omega)]
   and_intros <;> first | omega | trivial | rfl
set_option maxRecDepth 100000 in
theorem m106 : Meets Tryd.prog 106 sp106 := by
 refine meets_of_owed (C := c105) ⟨tab_ok, fun f s h => by cases h⟩ (by kernel_rfl) (by kernel_rfl : Tryd.prog.funcs[106]? = some Tryd.f106) (by kernel_rfl) (by kernel_rfl) (by kernel_rfl) _ ?_
 rintro _ ⟨l, rfl, hl⟩
 refine ⟨fun h => (by cases h), inv106, ?_⟩
 show owed c105 inv106 Tryd.f106 [dgs l] (dgs (trimL l))
 rw [vc106]
 simp (decide := true) only [eq_self, true_and, and_true, ne_eq, not_false_eq_true, List.drop_zero]
 refine ⟨hl, fun x hx => ?_⟩
 have hx2 := hx.2
 unfold lenOk at hx2
 split
 ·rename_i h
  have h := of_decide_eq_true h
  have hne : x ≠ [] := fun e => by subst e; simp at h
  obtain ⟨m, z, rfl⟩ : ∃ m z, x = m ++ [z] := ⟨x.dropLast, x.getLast hne, (List.dropLast_concat_getLast hne).symm⟩
  rw [List.length_append, List.length_singleton] at h hx2 ⊢
  have e1 : ((m.length + 1 : Nat) : Int) - 1 = m.length := by omega
  rw [e1, wi (by omega) (by omega)]
  have e2 : (m ++ [z]).getD (m.length : Int).toNat 0 = z := by
   rw [Int.toNat_natCast]
   simp [List.getD_eq_getElem?_getD]
  have e3 : (m ++ [z]).take (m.length : Int).toNat = m := by
   rw [Int.toNat_natCast]
   simp
  rw [e2, e3]
  have hm : lenOk m := by unfold lenOk; omega
  refine ⟨by omega, ?_⟩
  split
  ·rename_i hz
   have hz : z = 0 := by simpa using hz
   subst hz
   have ht := hx.1
   rw [trim_last] at ht
   and_intros <;> first | omega | exact ht | exact hm | trivial
  ·rename_i hz
   have hz : z ≠ 0 := by simpa using hz
   rw [← hx.1, trim_keep m hz]
 ·rename_i h
  have h := of_decide_eq_false h
  have : x = [] := List.length_eq_zero_iff.1 (by omega)
  subst this
  rw [← hx.1]
  rfl
theorem take_push {l : List Int} {n : Nat} (h : n < l.length) : l.take (n + 1) = l.take n ++ [l.getD n 0] := by
 rw [List.take_add_one]
 simp [List.getD_eq_getElem?_getD, h]
theorem getD_mem {l : List Int} {n : Nat} (h : n < l.length) : l.getD n 0 ∈ l := by
 simp [List.getD_eq_getElem?_getD, h]
theorem outW_push {l : List Int} {n : Nat} (h : n < l.length) : outW (l.take (n + 1)) = outW (l.take n) ++ nB 65536 4 (l.getD n 0).toNat := by
 rw [take_push h]
 simp [outW]
set_option maxRecDepth 100000 in
theorem m102 : Meets Tryd.prog 102 sp102 := by
 refine meets_of_owed (C := c102) ⟨tab_ok, lkS_ok ⟨m106, trivial⟩⟩ (by kernel_rfl) (by kernel_rfl : Tryd.prog.funcs[102]? = some Tryd.f102) (by kernel_rfl) (by kernel_rfl) (by kernel_rfl) _ ?_
 rintro _ ⟨l, rfl, hw, hl⟩
 refine ⟨fun h => (by cases h), inv102 l, ?_⟩
 show owed c102 (inv102 l) Tryd.f102 [.ints .u64 l] (dgs (dg (vB 18446744073709551616 l)))
 rw [vc102]
 simp (decide := true) only [eq_self, true_and, and_true, ne_eq, not_false_eq_true]
 and_intros <;> try (first | omega | rfl | trivial)
 intro x hx
 obtain ⟨n, rfl⟩ := Int.eq_ofNat_of_zero_le hx.1
 rw [Int.toNat_natCast]
 split
 ·rename_i h
  have h := of_decide_eq_true h
  have hn : n < l.length := by omega
  have hz := hw _ (getD_mem hn)
  generalize hzz : l.getD n 0 = z at hz
  rw [show ((n : Int) + 1) = ((n + 1 : Nat) : Int) by omega, wi (n := ((n + 1 : Nat) : Int)) (by omega) (by omega), Int.toNat_natCast, outW_push hn, hzz]
  have ho := outW_len (l.take n)
  have ho2 : (l.take n).length ≤ 100 := by rw [List.length_take]; omega
  and_intros <;> try (first | omega | rfl | trivial | (simp [nB]; done) | (simp [nB]; omega))
  rintro ⟨k, w, out⟩ ⟨hk, hw1, ho1⟩
  simp only at hk hw1 ho1 ⊢
  obtain ⟨k, rfl⟩ := Int.eq_ofNat_of_zero_le hk.1
  rw [Int.toNat_natCast] at hw1 ho1
  subst hw1 ho1
  split
  ·rename_i h2
   have h2 := of_decide_eq_true h2
   have hlt : z.toNat / 65536 ^ k ≤ z.toNat := Nat.div_le_self _ _
   rw [show ((k : Int) + 1) = ((k + 1 : Nat) : Int) by omega, wi (n := ((k + 1 : Nat) : Int)) (by omega) (by omega), Int.toNat_natCast, nB_push, ← List.append_assoc, Nat.pow_succ, ← Nat.div_div_eq_div_mul]
   generalize z.toNat / 65536 ^ k = q at hlt ⊢
   rw [show (65536 : Int) = (65536 : Nat) from rfl, tmodN, tdivN, wi (by omega) (by omega), wu (by omega) (by omega)]
   simp only [List.length_append, nB_length, List.length_singleton]
   and_intros <;> first | omega | rfl | trivial
  ·rename_i h2
   have h2 := of_decide_eq_false h2
   obtain rfl : k = 4 := by omega
   and_intros <;> first | omega | rfl | trivial
 ·rename_i h
  have h := of_decide_eq_false h
  rw [List.take_of_length_le (by omega)]
  refine ⟨⟨outW l, rfl, ?_⟩, ?_⟩
  ·unfold lenOk
   rw [outW_len]
   omega
  ·rw [trim_eq (outW_ok l), outW_val hw]
set_option maxRecDepth 100000 in
theorem m103 : Meets Tryd.prog 103 sp103 := by
 refine meets_of_owed (C := c105) ⟨tab_ok, fun f s h => by cases h⟩ (by kernel_rfl) (by kernel_rfl : Tryd.prog.funcs[103]? = some Tryd.f103) (by kernel_rfl) (by kernel_rfl) (by kernel_rfl) _ ?_
 rintro _ ⟨l, n, rfl, hd, hl, hn0, hn⟩
 refine ⟨fun h => (by cases h), inv103 l n, ?_⟩
 show owed c105 (inv103 l n) Tryd.f103 [dgs l, i64 n] (.ints .u64 (nB 18446744073709551616 n.toNat (vB 65536 l)))
 rw [vc103]
 unfold lenOk at hl
 obtain ⟨n, rfl⟩ := Int.eq_ofNat_of_zero_le hn0
 simp (decide := true) only [eq_self, true_and, and_true, ne_eq, not_false_eq_true, Int.toNat_natCast]
 rw [wi (n := (l.length : Int) - 1) (by omega) (by omega), show ((l.length : Int) - 1 + 1).toNat = l.length by omega, wl_end n l _ (Nat.le_refl _)]
 and_intros <;> try (first | omega | rfl | trivial)
 intro x hx
 have hx1 := hx.1
 rw [wi (n := 4 * (n : Int)) (by omega) (by omega), wi (n := x - 1) (by omega) (by omega), show x - 1 + 1 = x by omega]
 split
 ·rename_i h
  have h := of_decide_eq_true h
  obtain ⟨i, rfl⟩ := Int.eq_ofNat_of_zero_le h
  rw [show ((i : Int) + 1) = ((i + 1 : Nat) : Int) by omega]
  simp only [Int.toNat_natCast]
  have hi : i < l.length := by omega
  split
  ·rename_i h2
   have h2 := of_decide_eq_true h2
   rw [show (4 : Int) = (4 : Nat) from rfl, tdivN, wi (n := ((i / 4 : Nat) : Int)) (by omega) (by omega)]
   simp only [Int.toNat_natCast, Nat.zero_add]
   have hd1 := hd _ (getD_mem hi)
   have w1 := wl_lt (n := n) hd (i + 1) (i / 4) (by omega) (by omega)
   have w2 := wl_nonneg n l (i + 1) (i / 4)
   rw [wu (n := l.getD i 0) (by omega) (by omega), wu (n := _ * _) (by omega) (by omega), wu (by omega) (by omega), ← wl_step n l i hi (by omega) hd1.1]
   and_intros <;> first | omega | trivial | rfl
  ·rename_i h2
   have h2 := of_decide_eq_false h2
   rw [← wl_past n l i (by omega)]
   and_intros <;> first | omega | trivial | rfl
 ·rename_i h
  have h := of_decide_eq_false h
  rw [show (x + 1).toNat = 0 by omega, List.drop_zero, List.take_of_length_le (by rw [wl_length]; omega), wl_zero hd]
set_option maxRecDepth 100000 in
theorem m48 : Meets Tryd.prog 48 sp48 := by
 refine meets_of_owed (C := c48) ⟨tab_ok, lkS_ok ⟨m102, trivial⟩⟩ (by kernel_rfl) (by kernel_rfl : Tryd.prog.funcs[48]? = some Tryd.f48) (by kernel_rfl) (by kernel_rfl) (by kernel_rfl) _ ?_
 rintro _ ⟨l, rfl, hw, hl⟩
 refine ⟨fun h => (by cases h), fun _ => none, ?_⟩
 show owed c48 (fun _ => none) Tryd.f48 [num4 l] (dgs (dg (vB 18446744073709551616 l)))
 rw [vc48]
 match l, hl with
 | [a, b, c, d], _ =>
  simp (decide := true) only [eq_self, true_and, and_true, ne_eq, not_false_eq_true, List.getD_cons_zero, List.getD_cons_succ]
  exact ⟨_, rfl, hw, by simp⟩
set_option maxRecDepth 100000 in
theorem m50 : Meets Tryd.prog 50 sp50 := by
 refine meets_of_owed (C := c50) ⟨tab_ok, lkS_ok ⟨m103, trivial⟩⟩ (by kernel_rfl) (by kernel_rfl : Tryd.prog.funcs[50]? = some Tryd.f50) (by kernel_rfl) (by kernel_rfl) (by kernel_rfl) _ ?_
 rintro _ ⟨l, rfl, hd, hl⟩
 refine ⟨fun _ => rfl, fun _ => none, ?_⟩
 show owed c50 (fun _ => none) Tryd.f50 [dgs l] (num4 (nB 18446744073709551616 4 (vB 65536 l)))
 rw [vc50]
 simp (decide := true) only [eq_self, true_and, and_true, ne_eq, not_false_eq_true, nB_length]
 exact ⟨⟨l, 4, rfl, hd, hl, by omega, by omega⟩, rfl⟩
theorem plus_digit {l : List Int} (h : okd l) (x : Nat) : ∃ d : Nat, d < 65536 ∧ dig l (x : Int) = (d : Int) ∧ vB 65536 (l.take (x + 1)) = vB 65536 (l.take x) + 65536 ^ x * d := by
 refine ⟨vB 65536 l / 65536 ^ x % 65536, Nat.mod_lt _ (by decide), dig_nat h x, ?_⟩
 rw [vB_take h, vB_take h, Nat.pow_succ, Nat.mod_mul]
theorem plus_step {l m : List Int} (hl : okd l) (hm : okd m) (x : Nat) : ∃ d e : Nat, d < 65536 ∧ e < 65536 ∧ dig l (x : Int) = (d : Int) ∧ dig m (x : Int) = (e : Int) ∧ (vB 65536 (l.take x) + vB 65536 (m.take x)) / 65536 ^ x ≤ 1 ∧
  nB 65536 (x + 1) (vB 65536 (l.take (x + 1)) + vB 65536 (m.take (x + 1))) = nB 65536 x (vB 65536 (l.take x) + vB 65536 (m.take x)) ++ [((((vB 65536 (l.take x) + vB 65536 (m.take x)) / 65536 ^ x + (d + e)) % 65536 : Nat) : Int)] ∧
  (vB 65536 (l.take (x + 1)) + vB 65536 (m.take (x + 1))) / 65536 ^ (x + 1) = ((vB 65536 (l.take x) + vB 65536 (m.take x)) / 65536 ^ x + (d + e)) / 65536 := by
 obtain ⟨d, hd, h1, h2⟩ := plus_digit hl x
 obtain ⟨e, he, h3, h4⟩ := plus_digit hm x
 have hp : 0 < 65536 ^ x := Nat.pow_pos (by decide)
 have a1 : vB 65536 (l.take x) < 65536 ^ x := by rw [vB_take hl]; exact Nat.mod_lt _ hp
 have a2 : vB 65536 (m.take x) < 65536 ^ x := by rw [vB_take hm]; exact Nat.mod_lt _ hp
 have hs : vB 65536 (l.take (x + 1)) + vB 65536 (m.take (x + 1)) = (vB 65536 (l.take x) + vB 65536 (m.take x)) + 65536 ^ x * (d + e) := by rw [h2, h4, Nat.mul_add]; omega
 have hq : ((vB 65536 (l.take x) + vB 65536 (m.take x)) + 65536 ^ x * (d + e)) / 65536 ^ x = (vB 65536 (l.take x) + vB 65536 (m.take x)) / 65536 ^ x + (d + e) := Nat.add_mul_div_left _ _ hp
 refine ⟨d, e, hd, he, h1, h3, ?_, ?_, ?_⟩
 ·have : (vB 65536 (l.take x) + vB 65536 (m.take x)) / 65536 ^ x < 2 := Nat.div_lt_of_lt_mul (by omega)
  omega
 ·rw [hs, nB_push, hq]
  congr 1
  rw [← nB_mod, Nat.add_mul_mod_self_left, nB_mod]
 ·rw [hs, Nat.pow_succ, ← Nat.div_div_eq_div_mul, hq]
set_option maxRecDepth 100000 in
theorem m53 : Meets Tryd.prog 53 sp53 := by
 refine meets_of_owed (C := c53) ⟨tab_ok, lkS_ok ⟨m105, m106, trivial⟩⟩ (by kernel_rfl) (by kernel_rfl : Tryd.prog.funcs[53]? = some Tryd.f53) (by kernel_rfl) (by kernel_rfl) (by kernel_rfl) _ ?_
 rintro _ ⟨l, m, rfl, ⟨hl, hl2⟩, hm, hm2⟩
 refine ⟨fun h => (by cases h), inv53 l m, ?_⟩
 show owed c53 (inv53 l m) Tryd.f53 [dgs l, dgs m] (dgs (dg (vB 65536 l + vB 65536 m)))
 rw [vc53]
 unfold lenS at hl2 hm2
 have hl3 : lenOk l := by unfold lenOk; omega
 have hm3 : lenOk m := by unfold lenOk; omega
 simp (decide := true) only [eq_self, true_and, and_true, ne_eq, not_false_eq_true]
 and_intros <;> try (first | omega | rfl | trivial | (simp [vB]; done))
 intro x hx
 obtain ⟨d, e, hd, he, h1, h2, h3, h4, h5⟩ := plus_step hl hm x
 rw [show ((x : Int) + 1) = ((x + 1 : Nat) : Int) by omega, wi (n := ((x + 1 : Nat) : Int)) (by omega) (by omega), Int.toNat_natCast, h1, h2, h4, h5]
 have hA : l.length ≤ x → m.length ≤ x → (vB 65536 (l.take x) + vB 65536 (m.take x)) = vB 65536 l + vB 65536 m := fun q1 q2 => by rw [List.take_of_length_le q1, List.take_of_length_le q2]
 have hB : l.length ≤ x → m.length ≤ x → 0 < (vB 65536 (l.take x) + vB 65536 (m.take x)) / 65536 ^ x → x ≤ l.length + m.length := fun q1 q2 q3 => by
  rcases Nat.lt_or_ge (l.length + m.length) x with hlt | hge
  ·exfalso
   rw [hA q1 q2] at q3
   have b1 : vB 65536 l < 65536 ^ (x - 1) := Nat.lt_of_lt_of_le (vB_lt hl) (Nat.pow_le_pow_right (by decide) (by omega))
   have b2 : vB 65536 m < 65536 ^ (x - 1) := Nat.lt_of_lt_of_le (vB_lt hm) (Nat.pow_le_pow_right (by decide) (by omega))
   have b3 : 65536 ^ x = 65536 ^ (x - 1) * 65536 := by rw [← Nat.pow_succ]; congr 1; omega
   rw [b3, Nat.div_eq_of_lt (by omega)] at q3
   omega
  ·exact hge
 have hC : (vB 65536 (l.take x) + vB 65536 (m.take x)) / 65536 ^ x = 0 → (vB 65536 (l.take x) + vB 65536 (m.take x)) % 65536 ^ x = (vB 65536 (l.take x) + vB 65536 (m.take x)) := fun q => by
  have := Nat.div_add_mod (vB 65536 (l.take x) + vB 65536 (m.take x)) (65536 ^ x)
  rw [q] at this
  omega
 have hV := vB_nB 65536 x (vB 65536 (l.take x) + vB 65536 (m.take x))
 have hO : okd (nB 65536 x (vB 65536 (l.take x) + vB 65536 (m.take x))) := nB_ok (by decide) _ _
 generalize hT : nB 65536 x (vB 65536 (l.take x) + vB 65536 (m.take x)) = T at hV hO ⊢
 have hTl : T.length = x := by rw [← hT, nB_length]
 generalize (vB 65536 (l.take x) + vB 65536 (m.take x)) / 65536 ^ x = c at h3 hB hC ⊢
 rw [wi (n := (d : Int) + (e : Int)) (by omega) (by omega), show (d : Int) + (e : Int) = ((d + e : Nat) : Int) by omega, wi (n := (c : Int) + ((d + e : Nat) : Int)) (by omega) (by omega), show (c : Int) + ((d + e : Nat) : Int) = ((c + (d + e) : Nat) : Int) by omega, show (65536 : Int) = (65536 : Nat) from rfl, tmodN, tdivN, wi (by omega) (by omega)]
 simp only [List.length_append, List.length_singleton, hTl]
 split
 ·rename_i g1
  have g1 := of_decide_eq_true g1
  and_intros <;> first | omega | rfl | trivial | exact ⟨l, x, rfl, hl3⟩ | exact ⟨m, x, rfl, hm3⟩
 ·rename_i g1
  have g1 := of_decide_eq_false g1
  split
  ·rename_i g2
   have g2 := of_decide_eq_true g2
   and_intros <;> first | omega | rfl | trivial | exact ⟨l, x, rfl, hl3⟩ | exact ⟨m, x, rfl, hm3⟩
  ·rename_i g2
   have g2 := of_decide_eq_false g2
   split
   ·rename_i g3
    have g3 := of_decide_eq_true g3
    have g4 := hB (by omega) (by omega) (by omega)
    and_intros <;> first | omega | rfl | trivial | exact ⟨l, x, rfl, hl3⟩ | exact ⟨m, x, rfl, hm3⟩
   ·rename_i g3
    have g3 := of_decide_eq_false g3
    refine ⟨⟨T, rfl, ?_⟩, ?_⟩
    ·unfold lenOk
     omega
    ·rw [trim_eq hO, hV, hC (by omega), hA (by omega) (by omega)]
theorem set_rep (A : List Int) (k : Nat) (z : Int) : (A ++ List.replicate (k + 1) 0).set A.length z = A ++ [z] ++ List.replicate k 0 := by
 rw [List.set_append_right _ _ (Nat.le_refl _), Nat.sub_self, List.replicate_succ, List.set_cons_zero]
 simp
theorem vB_rep (b : Nat) : ∀ k, vB b (List.replicate k 0) = 0
 | 0 => rfl
 | k + 1 => by simp [List.replicate_succ, vB, vB_rep b k]
theorem dg_eq {l : List Int} (h : okd l) (hz : ∀ m, l ≠ m ++ [0]) : dg (vB 65536 l) = l := by
 rw [← trim_eq h]
 rcases List.eq_nil_or_concat l with rfl | ⟨m, z, rfl⟩
 ·rfl
 ·have : z ≠ 0 := fun e => hz m (by rw [e, List.concat_eq_append])
  rw [List.concat_eq_append, trim_keep m this]
set_option maxRecDepth 100000 in
theorem m100 : Meets Tryd.prog 100 sp100 := by
 refine meets_of_owed (C := c105) ⟨tab_ok, fun f s h => by cases h⟩ (by kernel_rfl) (by kernel_rfl : Tryd.prog.funcs[100]? = some Tryd.f100) (by kernel_rfl) (by kernel_rfl) (by kernel_rfl) _ ?_
 rintro _ ⟨n, rfl, hn0, hn⟩
 refine ⟨fun h => (by cases h), fun _ => none, ?_⟩
 show owed c105 (fun _ => none) Tryd.f100 [i64 n] (dgs (opq (dg (2 ^ n.toNat))))
 rw [opq_eq, vc100]
 obtain ⟨n, rfl⟩ := Int.eq_ofNat_of_zero_le hn0
 rw [show (16 : Int) = (16 : Nat) from rfl, tdivN, tmodN, wi (n := ((n / 16 : Nat) : Int)) (by omega) (by omega), show ((n / 16 : Nat) : Int) + 1 = ((n / 16 + 1 : Nat) : Int) by omega, wi (n := ((n / 16 + 1 : Nat) : Int)) (by omega) (by omega)]
 simp (decide := true) only [eq_self, true_and, and_true, ne_eq, not_false_eq_true, Int.toNat_natCast, Nat.zero_add, List.drop_zero]
 have hr : n % 16 < 16 := Nat.mod_lt _ (by decide)
 have e1 : ishl .i64 1 ((n % 16 : Nat) : Int) = ((2 ^ (n % 16) : Nat) : Int) := by
  unfold ishl
  rw [Int.toNat_natCast, show min (n % 16) IntKind.i64.bits = n % 16 by simp only [IntKind.bits]; omega, Int.one_mul]
  have : 2 ^ (n % 16) < 2 ^ 16 := Nat.pow_lt_pow_right (by decide) hr
  have e : ((2 : Int) ^ (n % 16)) = ((2 ^ (n % 16) : Nat) : Int) := by simp
  rw [e]
  generalize 2 ^ (n % 16) = q at this ⊢
  exact wi (by omega) (by omega)
 have e2 := set_rep (List.replicate (n / 16) 0) 0 ((2 ^ (n % 16) : Nat) : Int)
 rw [List.replicate_append_replicate, List.length_replicate] at e2
 rw [e1, e2, List.replicate_zero, List.append_nil, List.take_of_length_le (by simp)]
 have hlt : 2 ^ (n % 16) < 65536 := Nat.lt_of_lt_of_le (Nat.pow_lt_pow_right (by decide) hr) (by decide : 2 ^ 16 ≤ 65536)
 have hpos : 0 < 2 ^ (n % 16) := Nat.pow_pos (by decide)
 have hok : okd (List.replicate (n / 16) (0 : Int) ++ [((2 ^ (n % 16) : Nat) : Int)]) := by
  intro y hy
  simp only [List.mem_append, List.mem_replicate, List.mem_singleton] at hy
  rcases hy with ⟨_, rfl⟩ | rfl
  ·decide
  ·exact ⟨by omega, by omega⟩
 have hval : vB 65536 (List.replicate (n / 16) (0 : Int) ++ [((2 ^ (n % 16) : Nat) : Int)]) = 2 ^ n := by
  rw [vB_append, vB_rep, List.length_replicate, Nat.zero_add]
  simp only [vB, Int.toNat_natCast, Nat.mul_zero, Nat.add_zero]
  rw [show (65536 : Nat) = 2 ^ 16 from rfl, ← Nat.pow_mul, ← Nat.pow_add, show 16 * (n / 16) + n % 16 = n by omega]
 rw [← hval, dg_eq hok]
 ·and_intros <;> first | omega | rfl | trivial
 ·intro m hm
  have := List.append_inj_right' hm rfl
  simp only [List.cons.injEq, and_true] at this
  omega
theorem vB_take1 {b : Nat} {l : List Int} (n : Nat) (h : n < l.length) : vB b (l.take (n + 1)) = vB b (l.take n) + b ^ n * (l.getD n 0).toNat := by
 rw [take_push h, vB_append, List.length_take, show min n l.length = n by omega]
 simp [vB]
theorem getD_set (l : List Int) (i j : Nat) (x : Int) : (l.set i x).getD j 0 = if i = j ∧ i < l.length then x else l.getD j 0 := by
 simp only [List.getD_eq_getElem?_getD, List.getElem?_set]
 by_cases h : i = j
 ·subst h
  by_cases h2 : i < l.length
  ·simp [h2]
  ·simp [h2]
 ·simp [h]
theorem okd_set {l : List Int} (h : okd l) {i : Nat} {x : Int} (hx : 0 ≤ x ∧ x < 65536) : okd (l.set i x) := by
 intro y hy
 rcases List.mem_or_eq_of_mem_set hy with h1 | rfl
 ·exact h y h1
 ·exact hx
theorem times_step {l m : List Int} (hl : okd l) (hm : okd m) {i k : Nat} {c : Int} {out : List Int} (h : TimesJ l m i k c out) (hi : i < l.length) (hk : k < m.length) :
  (0 ≤ out.getD (i + k) 0 ∧ out.getD (i + k) 0 < 65536) ∧ (0 ≤ l.getD i 0 * m.getD k 0 ∧ l.getD i 0 * m.getD k 0 ≤ 4294836225) ∧
  TimesJ l m i (k + 1) ((c + (out.getD (i + k) 0 + l.getD i 0 * m.getD k 0)) / 65536) (out.set (i + k) ((c + (out.getD (i + k) 0 + l.getD i 0 * m.getD k 0)) % 65536)) := by
 have ho := h.ok _ (getD_mem (l := out) (n := i + k) (by have := h.len; omega))
 have h1 := hl _ (getD_mem hi)
 have h2 := hm _ (getD_mem hk)
 have hv := vB_set (b := 65536) out (i + k) ((c + (out.getD (i + k) 0 + l.getD i 0 * m.getD k 0)) % 65536) (by have := h.len; omega)
 have ht := vB_take1 (b := 65536) k hk
 have hval := h.val
 have hc := h.car
 obtain ⟨o, ho3⟩ := Int.eq_ofNat_of_zero_le ho.1
 obtain ⟨a, ha⟩ := Int.eq_ofNat_of_zero_le h1.1
 obtain ⟨b, hb⟩ := Int.eq_ofNat_of_zero_le h2.1
 obtain ⟨d, rfl⟩ := Int.eq_ofNat_of_zero_le hc.1
 have hab : a * b ≤ 65535 * 65535 := Nat.mul_le_mul (by omega) (by omega)
 have hprod : l.getD i 0 * m.getD k 0 = ((a * b : Nat) : Int) := by rw [ha, hb]; simp
 rw [hprod] at hv ⊢
 rw [ho3] at hv ho ⊢
 generalize hq : a * b = q at hab hv hprod ⊢
 refine ⟨ho, ⟨by omega, by omega⟩, ⟨by simp [h.len], okd_set h.ok ⟨by omega, by omega⟩, fun j hj => ?_, ⟨by omega, by omega⟩, ?_⟩⟩
 ·rw [getD_set, if_neg (by omega)]
  exact h.zero j hj
 ·rw [ht, Nat.mul_add, ← Nat.mul_assoc (l.getD i 0).toNat, Nat.mul_comm (l.getD i 0).toNat (65536 ^ k), Nat.mul_assoc, Nat.mul_add, ← Nat.mul_assoc (65536 ^ i) (65536 ^ k), ← Nat.pow_add]
  rw [show (l.getD i 0).toNat * (m.getD k 0).toNat = q by rw [ha, hb, ← hq]; simp]
  rw [show i + (k + 1) = (i + k) + 1 by omega, Nat.pow_succ]
  generalize 65536 ^ (i + k) = B at hv hval ⊢
  rw [show ((d : Int) + ((o : Int) + (q : Int))) = ((d + (o + q) : Nat) : Int) by omega] at hv ⊢
  rw [show (((d + (o + q) : Nat) : Int) % 65536).toNat = (d + (o + q)) % 65536 by omega, Int.toNat_natCast] at hv
  rw [show (((d + (o + q) : Nat) : Int) / 65536).toNat = (d + (o + q)) / 65536 by omega]
  rw [Int.toNat_natCast] at hval
  have e : B * ((d + (o + q)) % 65536) + B * 65536 * ((d + (o + q)) / 65536) = B * d + (B * o + B * q) := by
   rw [Nat.mul_assoc, ← Nat.mul_add, Nat.mod_add_div, Nat.mul_add, Nat.mul_add]
  omega
theorem times_start {l m : List Int} {i : Nat} {out : List Int} (h : TimesI l m i out) : TimesJ l m i 0 0 out :=
 ⟨h.len, h.ok, h.zero, ⟨by omega, by omega⟩, by have := h.val; simp [vB]; exact this⟩
theorem times_next {l m : List Int} {i : Nat} {c : Int} {out : List Int} (h : TimesJ l m i m.length c out) (hi : i < l.length) :
  out.getD (i + m.length) 0 = 0 ∧ TimesI l m (i + 1) (out.set (i + m.length) (0 + c)) := by
 have hz := h.zero (i + m.length) (Nat.le_refl _)
 have hv := vB_set (b := 65536) out (i + m.length) (0 + c) (by have := h.len; omega)
 have ht := vB_take1 (b := 65536) i hi
 have hval := h.val
 refine ⟨hz, ⟨by simp [h.len], okd_set h.ok (by have := h.car; exact ⟨by omega, by omega⟩), fun j hj => ?_, ?_⟩⟩
 ·rw [getD_set, if_neg (by omega)]
  exact h.zero j (by omega)
 ·rw [hz, Int.zero_add] at hv
  rw [ht, Nat.add_mul, Int.zero_add, Nat.mul_assoc]
  rw [List.take_of_length_le (Nat.le_refl _)] at hval
  simpa [hval] using hv
theorem times_zero (l m : List Int) : TimesI l m 0 (List.replicate (l.length + m.length) 0) :=
 ⟨by simp, fun x hx => by rw [List.mem_replicate] at hx; rw [hx.2]; decide, fun j _ => by simp only [List.getD_eq_getElem?_getD, List.getElem?_replicate]; split <;> rfl, by rw [vB_rep]; simp [vB]⟩
set_option maxRecDepth 100000 in
theorem m54 : Meets Tryd.prog 54 sp54 := by
 refine meets_of_owed (C := c54) ⟨tab_ok, lkS_ok ⟨m106, trivial⟩⟩ (by kernel_rfl) (by kernel_rfl : Tryd.prog.funcs[54]? = some Tryd.f54) (by kernel_rfl) (by kernel_rfl) (by kernel_rfl) _ ?_
 rintro _ ⟨l, m, rfl, ⟨hl, hl2⟩, hm, hm2⟩
 refine ⟨fun h => (by cases h), inv54 l m, ?_⟩
 show owed c54 (inv54 l m) Tryd.f54 [dgs l, dgs m] (dgs (dg (vB 65536 l * vB 65536 m)))
 rw [vc54]
 unfold lenS at hl2 hm2
 rw [show ((l.length : Int) + (m.length : Int)) = ((l.length + m.length : Nat) : Int) by omega, wi (n := ((l.length + m.length : Nat) : Int)) (by omega) (by omega)]
 simp (decide := true) only [eq_self, true_and, and_true, ne_eq, not_false_eq_true, Int.toNat_natCast, Nat.zero_add, List.drop_zero]
 have hz := times_zero l m
 and_intros <;> try (first | omega | rfl | trivial | exact hz)
 rintro ⟨i, out⟩ ⟨hi, hT⟩
 simp only at hi hT ⊢
 split
 ·rename_i h
  have h := of_decide_eq_true h
  have hs := times_start hT
  and_intros <;> try (first | omega | rfl | trivial | exact hs)
  rintro ⟨k, c, out⟩ ⟨hk, hJ⟩
  simp only at hk hJ ⊢
  have hlen := hJ.len
  split
  ·rename_i h2
   have h2 := of_decide_eq_true h2
   obtain ⟨g1, g2, g3⟩ := times_step hl hm hJ (by omega) (by omega)
   have g4 := hJ.car
   rw [show ((i : Int) + (k : Int)) = ((i + k : Nat) : Int) by omega, wi (n := ((i + k : Nat) : Int)) (by omega) (by omega), show ((k : Int) + 1) = ((k + 1 : Nat) : Int) by omega, wi (n := ((k + 1 : Nat) : Int)) (by omega) (by omega)]
   simp only [Int.toNat_natCast]
   rw [wi (n := l.getD i 0 * m.getD k 0) (by omega) (by omega)]
   generalize hp : l.getD i 0 * m.getD k 0 = p at g2 g3 ⊢
   generalize hq : out.getD (i + k) 0 = q at g1 g3 ⊢
   rw [wi (n := q + p) (by omega) (by omega), wi (n := c + (q + p)) (by omega) (by omega), Int.tdiv_eq_ediv_of_nonneg (by omega), Int.tmod_eq_emod_of_nonneg (by omega), wi (by omega) (by omega)]
   and_intros <;> first | omega | rfl | trivial | exact g3
  ·rename_i h2
   have h2 := of_decide_eq_false h2
   obtain rfl : k = m.length := by omega
   obtain ⟨g1, g2⟩ := times_next hJ (by omega)
   have g4 := hJ.car
   rw [show ((i : Int) + (m.length : Int)) = ((i + m.length : Nat) : Int) by omega, wi (n := ((i + m.length : Nat) : Int)) (by omega) (by omega), show ((i : Int) + 1) = ((i + 1 : Nat) : Int) by omega, wi (n := ((i + 1 : Nat) : Int)) (by omega) (by omega)]
   simp only [Int.toNat_natCast]
   rw [g1, wi (n := 0 + c) (by omega) (by omega)]
   and_intros <;> first | omega | rfl | trivial | exact g2
 ·rename_i h
  have h := of_decide_eq_false h
  obtain rfl : i = l.length := by omega
  have hv := hT.val
  have hlen := hT.len
  rw [List.take_of_length_le (Nat.le_refl _)] at hv
  rw [List.take_of_length_le (by omega)]
  refine ⟨⟨out, rfl, ?_⟩, ?_⟩
  ·unfold lenOk; omega
  ·rw [trim_eq hT.ok, hv]
end Go.Proofs.YtkicjckhkefnpaaDoor
namespace Go.Proofs.YtkicjckhkefnpaaDoor
open Go Go.Vg
theorem sub_at (c n v x : Nat) (hn : 0 < n) : v / (c ^ n) ^ (x / n) % c ^ n / c ^ (x % n) % c = v / c ^ x % c := by
 have hr : x % n < n := Nat.mod_lt _ hn
 have e1 : c ^ n = c ^ (x % n) * c ^ (n - x % n) := by rw [← Nat.pow_add, show x % n + (n - x % n) = n by omega]
 have e2 : v / (c ^ n) ^ (x / n) / c ^ (x % n) = v / c ^ x := by
  rw [Nat.div_div_eq_div_mul, ← Nat.pow_mul, ← Nat.pow_add, Nat.div_add_mod]
 generalize v / (c ^ n) ^ (x / n) = w at e2 ⊢
 rw [show w % c ^ n = w % (c ^ (x % n) * c ^ (n - x % n)) by rw [← e1], Nat.mod_mul_right_div_self, e2, Nat.mod_mod_of_dvd]
 exact ⟨c ^ (n - x % n - 1), by rw [← Nat.pow_succ']; congr 1; omega⟩
theorem nB_grow (c k n v i s : Nat) (hc : 0 < c) (hk : 0 < k) (hv : v < c ^ i) (hs : s < c) (hi : i < k * n) :
  nB (c ^ k) n (v + c ^ i * s) = (nB (c ^ k) n v).set (i / k) ((v / (c ^ k) ^ (i / k) % c ^ k + c ^ (i % k) * s : Nat) : Int) ∧ v / (c ^ k) ^ (i / k) % c ^ k < c ^ (i % k) ∧ v / (c ^ k) ^ (i / k) % c ^ k + c ^ (i % k) * s < c ^ (i % k + 1) := by
 have hM : 0 < c ^ k := Nat.pow_pos hc
 have hr : i % k < k := Nat.mod_lt _ hk
 have e0 : c ^ i = (c ^ k) ^ (i / k) * c ^ (i % k) := by rw [← Nat.pow_mul, ← Nat.pow_add, Nat.div_add_mod]
 have hq : v / (c ^ k) ^ (i / k) < c ^ (i % k) := Nat.div_lt_of_lt_mul (by rw [← e0]; exact hv)
 have hlt : c ^ (i % k) ≤ c ^ k := Nat.pow_le_pow_right hc (by omega)
 have hqm : v / (c ^ k) ^ (i / k) % c ^ k = v / (c ^ k) ^ (i / k) := Nat.mod_eq_of_lt (by omega)
 have hsum : v / (c ^ k) ^ (i / k) + c ^ (i % k) * s < c ^ (i % k + 1) := by
  rw [Nat.pow_succ]
  calc v / (c ^ k) ^ (i / k) + c ^ (i % k) * s < c ^ (i % k) + c ^ (i % k) * s := by omega
   _ = c ^ (i % k) * (s + 1) := by rw [Nat.mul_add, Nat.mul_one, Nat.add_comm]
   _ ≤ c ^ (i % k) * c := Nat.mul_le_mul_left _ hs
 refine ⟨?_, by rw [hqm]; exact hq, by rw [hqm]; exact hsum⟩
 apply ext_getD
 ·simp [nB_length]
 intro j hj
 rw [nB_length] at hj
 have hin : i / k < n := Nat.div_lt_of_lt_mul hi
 rw [nB_get _ _ _ _ hj, getD_set, nB_length]
 by_cases hjq : i / k = j
 ·subst hjq
  rw [if_pos ⟨rfl, hj⟩, hqm, e0, Nat.mul_assoc, Nat.add_mul_div_left _ _ (Nat.pow_pos hM)]
  rw [Nat.mod_eq_of_lt]
  exact Nat.lt_of_lt_of_le hsum (Nat.pow_le_pow_right hc (by omega))
 ·rw [if_neg (by omega), nB_get _ _ _ _ hj]
  congr 1
  rcases Nat.lt_or_ge j (i / k) with h | h
  ·have e1 : (c ^ k) ^ (i / k) = (c ^ k) ^ j * (c ^ k * (c ^ k) ^ (i / k - j - 1)) := by
    rw [← Nat.pow_succ', ← Nat.pow_add]
    congr 1
    omega
   rw [e0, e1, Nat.mul_assoc, Nat.mul_assoc, Nat.add_mul_div_left _ _ (Nat.pow_pos hM), Nat.mul_assoc, Nat.add_mul_mod_self_left]
  ·have h3 : c ^ (i + 1) ≤ (c ^ k) ^ j := by
    rw [← Nat.pow_mul]
    apply Nat.pow_le_pow_right hc
    have h4 := Nat.div_add_mod i k
    have h5 : k * (i / k + 1) ≤ k * j := Nat.mul_le_mul_left _ (by omega)
    rw [Nat.mul_add, Nat.mul_one] at h5
    omega
   have h6 : v + c ^ i * s < c ^ (i + 1) := by
    rw [Nat.pow_succ]
    calc v + c ^ i * s < c ^ i + c ^ i * s := by omega
     _ = c ^ i * (s + 1) := by rw [Nat.mul_add, Nat.mul_one, Nat.add_comm]
     _ ≤ c ^ i * c := Nat.mul_le_mul_left _ hs
   have h7 : v ≤ v + c ^ i * s := Nat.le_add_right _ _
   rw [Nat.div_eq_of_lt (by omega), Nat.div_eq_of_lt (by omega)]
abbrev wv (l : List Int) : Nat := vB 18446744073709551616 l
def sp107 : Go.Vg.Spec := ⟨fun ds => ∃ l m, ds = [num4 l, num4 m] ∧ l.length = 4 ∧ m.length = 4, fun ds => num8 (arrOf (ds.headD default) ++ arrOf (ds.getD 1 default)), true, [75, 75]⟩
set_option maxRecDepth 100000 in
theorem vc107  (a b c d e f g h : Int) (F : D)  :
    (owed c105 (fun _ => none) Tryd.f107 [num4 [a, b, c, d], num4 [e, f, g, h]] F) = (
 (True ∧ false = false) ∧ (True ∧ false = false) ∧ (True ∧ 8 ≠ 0) ∧ (True ∧ 8 ≠ 0) ∧ ((0 : Int) ≤ 0 ∧ (0 : Int) ≤ 4 ∧ (4 : Int) ≤ (↑(8 : Nat) : Int) ∧ 8 = 8 ∧ 1 = 1) ∧ ((0 : Int) ≤ 0 ∧ (0 : Int) ≤ (↑(4 : Nat) : Int) ∧ (↑(4 : Nat) : Int) ≤ (↑(4 : Nat) : Int) ∧ 4 = 4 ∧ 1 = 1) ∧ (IntKind.u64 = IntKind.u64 ∧ 1 = 1) ∧ ((0 : Int) ≤ 4 ∧ (4 : Int) ≤ (↑(8 : Nat) : Int) ∧ (↑(8 : Nat) : Int) ≤ (↑(8 : Nat) : Int) ∧ 8 = 8 ∧ 1 = 1) ∧ ((0 : Int) ≤ 0 ∧ (0 : Int) ≤ (↑(4 : Nat) : Int) ∧ (↑(4 : Nat) : Int) ≤ (↑(4 : Nat) : Int) ∧ 4 = 4 ∧ 1 = 1) ∧ (IntKind.u64 = IntKind.u64 ∧ 1 = 1) ∧ (8 ≠ 0 ∧ 8 = 8 ∧ true = true) ∧ (Sk.arr 8 = Sk.arr 8 ∧ 8 ≠ 0 ∧ 8 = 8 ∧ false = false) ∧ ((8 ≠ 0 ∧ 8 = 8 ∧ true = true) ∧ True) ∧ D.arr .u64 8 (List.take 4 (List.take ((List.take ((↑(4 : Nat) : Int).toNat - 0) [a, b, c, d]).length.min 4) (List.take ((↑(4 : Nat) : Int).toNat - 0) [a, b, c, d]) ++ List.drop (0 + (List.take ((↑(4 : Nat) : Int).toNat - 0) [a, b, c, d]).length.min 4) [(0 : Int), (0 : Int), (0 : Int), (0 : Int), (0 : Int), (0 : Int), (0 : Int), (0 : Int)]) ++ List.take ((List.take ((↑(4 : Nat) : Int).toNat - 0) [e, f, g, h]).length.min ((↑(8 : Nat) : Int).toNat - 4)) (List.take ((↑(4 : Nat) : Int).toNat - 0) [e, f, g, h]) ++ List.drop (4 + (List.take ((↑(4 : Nat) : Int).toNat - 0) [e, f, g, h]).length.min ((↑(8 : Nat) : Int).toNat - 4)) (List.take ((List.take ((↑(4 : Nat) : Int).toNat - 0) [a, b, c, d]).length.min 4) (List.take ((↑(4 : Nat) : Int).toNat - 0) [a, b, c, d]) ++ List.drop (0 + (List.take ((↑(4 : Nat) : Int).toNat - 0) [a, b, c, d]).length.min 4) [(0 : Int), (0 : Int), (0 : Int), (0 : Int), (0 : Int), (0 : Int), (0 : Int), (0 : Int)])) = F) := by kernel_rfl
theorem four {l : List Int} (h : l.length = 4) : ∃ a b c d, l = [a, b, c, d] := by
 match l, h with
 | [a, b, c, d], _ => exact ⟨a, b, c, d, rfl⟩
set_option maxRecDepth 100000 in
theorem m107 : Meets Tryd.prog 107 sp107 := by
 refine meets_of_owed (C := c105) ⟨tab_ok, fun f s h => by cases h⟩ (by kernel_rfl) (by kernel_rfl : Tryd.prog.funcs[107]? = some Tryd.f107) (by kernel_rfl) (by kernel_rfl) (by kernel_rfl) _ ?_
 rintro _ ⟨l, m, rfl, hl, hm⟩
 obtain ⟨a, b, c, d, rfl⟩ := four hl
 obtain ⟨e, f, g, i, rfl⟩ := four hm
 refine ⟨fun _ => rfl, fun _ => none, ?_⟩
 show owed c105 (fun _ => none) Tryd.f107 [num4 [a, b, c, d], num4 [e, f, g, i]] (num8 [a, b, c, d, e, f, g, i])
 rw [vc107]
 and_intros <;> first | decide | rfl
theorem ior_nat {a b : Nat} (ha : a < 18446744073709551616) (hb : b < 18446744073709551616) : ior .u64 (a : Int) (b : Int) = ((a ||| b : Nat) : Int) := by
 unfold ior
 have h1 : (BitVec.ofInt IntKind.u64.bits (a : Int) ||| BitVec.ofInt IntKind.u64.bits (b : Int)).toNat = a ||| b := by
  rw [BitVec.toNat_or, BitVec.ofInt_natCast, BitVec.ofInt_natCast, BitVec.toNat_ofNat, BitVec.toNat_ofNat]
  show a % 2 ^ 64 ||| b % 2 ^ 64 = a ||| b
  rw [Nat.mod_eq_of_lt (by omega), Nat.mod_eq_of_lt (by omega)]
 rw [h1]
 have := Nat.or_lt_two_pow (n := 64) (x := a) (y := b) (by omega) (by omega)
 exact wu (by omega) (by omega)
set_option maxRecDepth 100000 in
theorem ok42  (d : D)  :
    (OkT tab 8 75 d) = (
 ∃ (l : List Int), d = D.arr .u64 4 l ∧ l.length = 4 ∧ ∀ (z : Int), z ∈ l → (0 : Int) ≤ z ∧ z ≤ IntKind.u64.max) := by kernel_rfl
theorem num_of {d : D} (h : OkT tab 8 75 d) : ∃ l, d = num4 l ∧ okw l ∧ l.length = 4 := by
 rw [ok42] at h
 obtain ⟨l, rfl, h1, h2⟩ := h
 exact ⟨l, rfl, fun x hx => ⟨(h2 x hx).1, Int.lt_of_le_of_lt (h2 x hx).2 (by decide)⟩, h1⟩
theorem wv_lt {l : List Int} (h : okw l) (hl : l.length = 4) : wv l < 2 ^ 256 := by
 have := vB_lt (b := 18446744073709551616) h
 rw [hl] at this
 exact this
theorem len_ok {n k : Nat} (h : n < 65536 ^ k) (hk : k ≤ 65536) : lenS (dg n) ∧ lenOk (dg n) := by
 have := dg_len k n h
 exact ⟨by unfold lenS; omega, by unfold lenOk; omega⟩
theorem vB_dropS (b : Nat) {l : List Int} (i : Nat) (h : i < l.length) : vB b (l.drop i) = (l.getD i 0).toNat + b * vB b (l.drop (i + 1)) := by
 rw [List.drop_eq_getElem_cons h, vB]
 simp [h]
end Go.Proofs.YtkicjckhkefnpaaDoor
namespace Go.Vg
def kb (k : IntKind) : Nat := if k.signed then 2 ^ (k.bits - 1) else 2 ^ k.bits
theorem kb_le (k : IntKind) : kb k ≤ 2 ^ k.bits := by cases k <;> decide
theorem wrapN (k : IntKind) {n : Nat} (h : n < kb k) : k.wrap (n : Int) = (n : Int) := by
 cases k <;> simp [kb, IntKind.bits, IntKind.signed, IntKind.wrap] at h ⊢ <;> omega
theorem bvN (k : IntKind) {n : Nat} (h : n < kb k) : (BitVec.ofInt k.bits (n : Int)).toNat = n := by
 rw [BitVec.ofInt_natCast, BitVec.toNat_ofNat]
 exact Nat.mod_eq_of_lt (Nat.lt_of_lt_of_le h (kb_le k))
theorem kb_pow (k : IntKind) : ∃ e, kb k = 2 ^ e := by
 unfold kb
 split
 ·exact ⟨_, rfl⟩
 ·exact ⟨_, rfl⟩
theorem iandN (k : IntKind) {a b : Nat} (ha : a < kb k) (hb : b < kb k) : iand k (a : Int) (b : Int) = ((a &&& b : Nat) : Int) := by
 unfold iand
 rw [BitVec.toNat_and, bvN k ha, bvN k hb]
 exact wrapN k (Nat.lt_of_le_of_lt Nat.and_le_left ha)
theorem iorN (k : IntKind) {a b : Nat} (ha : a < kb k) (hb : b < kb k) : ior k (a : Int) (b : Int) = ((a ||| b : Nat) : Int) := by
 unfold ior
 rw [BitVec.toNat_or, bvN k ha, bvN k hb]
 obtain ⟨e, he⟩ := kb_pow k
 rw [he] at ha hb
 exact wrapN k (by rw [he]; exact Nat.or_lt_two_pow ha hb)
theorem ixorN (k : IntKind) {a b : Nat} (ha : a < kb k) (hb : b < kb k) : ixor k (a : Int) (b : Int) = ((a ^^^ b : Nat) : Int) := by
 unfold ixor
 rw [BitVec.toNat_xor, bvN k ha, bvN k hb]
 obtain ⟨e, he⟩ := kb_pow k
 rw [he] at ha hb
 exact wrapN k (by rw [he]; exact Nat.xor_lt_two_pow ha hb)
theorem ishrN (k : IntKind) {a m : Nat} (h : m ≤ k.bits) : ishr k (a : Int) (m : Int) = ((a / 2 ^ m : Nat) : Int) := by
 rw [ishr_eq k _ m h]
 simp
theorem ishlN (k : IntKind) {a m : Nat} (h : m ≤ k.bits) : ishl k (a : Int) (m : Int) = k.wrap ((a * 2 ^ m : Nat) : Int) := by
 unfold ishl
 rw [Int.toNat_natCast, Nat.min_eq_left h]
 simp
theorem wN8 (n : Nat) : IntKind.u8.wrap (n : Int) = ((n % 256 : Nat) : Int) := by rw [w8]; omega
theorem wN32 (n : Nat) : IntKind.u32.wrap (n : Int) = ((n % 4294967296 : Nat) : Int) := by rw [w32]; omega
theorem wN64 (n : Nat) : IntKind.u64.wrap (n : Int) = ((n % 18446744073709551616 : Nat) : Int) := by rw [w64]; omega
end Go.Vg
