/- The types, as the steps ask of them; checked against the program by the kernel. Written by a program of this session. -/
import Derived.Test.YtnadggcfdakpoaaZb7
import Derived.Test.YtnadggcfdakpoaaProg
import Derived.KernelRfl
import Derived.Test.YtnadggcfdakpoaaZb9
namespace Go.Proofs.Ytnadggcfdakpoaa
open Go Go.Vg
def tab : Tab := [
 ⟨.other, 0, 0, .val (.bool false), false⟩,
 ⟨.other, 1, 8, .val .nilFunc, false⟩,
 ⟨.int .i64, 1, 8, .val (.int .i64 0), false⟩,
 ⟨.int .i64, 1, 8, .val (.int .i64 0), false⟩,
 ⟨.bool, 1, 1, .val (.bool false), false⟩,
 ⟨.int .u8, 1, 1, .val (.int .u8 0), false⟩,
 ⟨.int .u8, 1, 1, .val (.int .u8 0), false⟩,
 ⟨.st [(0, 2), (1, 3), (2, 4), (3, 6)], 4, 24, .st [.val (.int .i64 0), .val (.int .i64 0), .val (.bool false), .val (.int .u8 0)], true⟩,
 ⟨.st [(0, 2), (1, 3), (2, 4), (3, 6)], 4, 24, .st [.val (.int .i64 0), .val (.int .i64 0), .val (.bool false), .val (.int .u8 0)], true⟩,
 ⟨.str, 1, 16, .str [], false⟩,
 ⟨.str, 1, 16, .str [], false⟩,
 ⟨.str, 1, 16, .str [], false⟩,
 ⟨.int .u64, 1, 8, .val (.int .u64 0), false⟩,
 ⟨.st [(0, 9), (1, 12)], 2, 24, .st [.str [], .val (.int .u64 0)], false⟩,
 ⟨.st [(0, 9), (1, 12)], 2, 24, .st [.str [], .val (.int .u64 0)], false⟩,
 ⟨.ptr 183, 1, 8, .val (.pointer none), false⟩,
 ⟨.ptr 186, 1, 8, .val (.pointer none), false⟩,
 ⟨.ptr 194, 1, 8, .val (.pointer none), false⟩,
 ⟨.st [(0, 17)], 1, 8, .st [.val (.pointer none)], false⟩,
 ⟨.st [(0, 17)], 1, 8, .st [.val (.pointer none)], false⟩,
 ⟨.other, 1, 16, .val .nilIface, false⟩,
 ⟨.int .i32, 1, 4, .val (.int .i32 0), false⟩,
 ⟨.int .u64, 1, 8, .val (.int .u64 0), false⟩,
 ⟨.arr 4 22, 4, 32, .arr .u64 4 (List.replicate 4 0), false⟩,
 ⟨.arr 4 22, 4, 32, .arr .u64 4 (List.replicate 4 0), false⟩,
 ⟨.slice 5, 1, 24, .ints .u8 [], false⟩,
 ⟨.int .i64, 1, 8, .val (.int .i64 0), false⟩,
 ⟨.other, 0, 0, .val (.bool false), false⟩,
 ⟨.other, 1, 8, .val .nilFunc, false⟩,
 ⟨.other, 1, 8, .val .nilFunc, false⟩,
 ⟨.other, 0, 0, .val (.bool false), false⟩,
 ⟨.other, 1, 8, .val .nilFunc, false⟩,
 ⟨.other, 0, 0, .val (.bool false), false⟩,
 ⟨.other, 1, 8, .val .nilFunc, false⟩,
 ⟨.other, 1, 8, .val .nilFunc, false⟩,
 ⟨.other, 1, 8, .val .nilFunc, false⟩,
 ⟨.other, 1, 8, .val .nilFunc, false⟩,
 ⟨.other, 1, 8, .val .nilFunc, false⟩,
 ⟨.arr 16 5, 16, 16, .arr .u8 16 (List.replicate 16 0), false⟩,
 ⟨.arr 4 5, 4, 4, .arr .u8 4 (List.replicate 4 0), false⟩,
 ⟨.arr 60 39, 240, 240, .arr .u8 240 (List.replicate 240 0), false⟩,
 ⟨.st [(0, 40), (240, 3)], 241, 248, .st [.arr .u8 240 (List.replicate 240 0), .val (.int .i64 0)], false⟩,
 ⟨.st [(0, 40), (240, 3)], 241, 248, .st [.arr .u8 240 (List.replicate 240 0), .val (.int .i64 0)], false⟩,
 ⟨.other, 0, 0, .val (.bool false), false⟩,
 ⟨.other, 1, 8, .val .nilFunc, false⟩,
 ⟨.ptr 56, 1, 8, .val (.pointer none), false⟩,
 ⟨.other, 0, 0, .val (.bool false), false⟩,
 ⟨.other, 1, 8, .val .nilFunc, false⟩,
 ⟨.other, 1, 8, .val .nilFunc, false⟩,
 ⟨.other, 1, 8, .val .nilFunc, false⟩,
 ⟨.other, 1, 8, .val .nilFunc, false⟩,
 ⟨.other, 1, 8, .val .nilFunc, false⟩,
 ⟨.slice 39, 1, 24, .slc 4 [], false⟩,
 ⟨.other, 1, 8, .val .nilFunc, false⟩,
 ⟨.arr 256 5, 256, 256, .arr .u8 256 (List.replicate 256 0), false⟩,
 ⟨.st [(0, 52), (1, 54), (257, 54)], 513, 536, .st [.slc 4 [], .arr .u8 256 (List.replicate 256 0), .arr .u8 256 (List.replicate 256 0)], false⟩,
 ⟨.st [(0, 52), (1, 54), (257, 54)], 513, 536, .st [.slc 4 [], .arr .u8 256 (List.replicate 256 0), .arr .u8 256 (List.replicate 256 0)], false⟩,
 ⟨.other, 1, 8, .val .nilFunc, false⟩,
 ⟨.other, 1, 8, .val .nilFunc, false⟩,
 ⟨.other, 1, 8, .val .nilFunc, false⟩,
 ⟨.other, 1, 8, .val .nilFunc, false⟩,
 ⟨.other, 1, 8, .val .nilFunc, false⟩,
 ⟨.other, 1, 8, .val .nilFunc, false⟩,
 ⟨.other, 1, 8, .val .nilFunc, false⟩,
 ⟨.other, 1, 8, .val .nilFunc, false⟩,
 ⟨.other, 1, 8, .val .nilFunc, false⟩,
 ⟨.st [(0, 24), (4, 24)], 8, 64, .st [.arr .u64 4 (List.replicate 4 0), .arr .u64 4 (List.replicate 4 0)], true⟩,
 ⟨.st [(0, 24), (4, 24)], 8, 64, .st [.arr .u64 4 (List.replicate 4 0), .arr .u64 4 (List.replicate 4 0)], true⟩,
 ⟨.other, 1, 8, .val .nilFunc, false⟩,
 ⟨.other, 0, 0, .val (.bool false), false⟩,
 ⟨.other, 1, 8, .val .nilFunc, false⟩,
 ⟨.other, 1, 8, .val .nilFunc, false⟩,
 ⟨.other, 1, 8, .val .nilFunc, false⟩,
 ⟨.arr 16 3, 16, 128, .arr .i64 16 (List.replicate 16 0), false⟩,
 ⟨.arr 16 3, 16, 128, .arr .i64 16 (List.replicate 16 0), false⟩,
 ⟨.st [(0, 74), (16, 74), (32, 74)], 48, 384, .st [.arr .i64 16 (List.replicate 16 0), .arr .i64 16 (List.replicate 16 0), .arr .i64 16 (List.replicate 16 0)], true⟩,
 ⟨.st [(0, 74), (16, 74), (32, 74)], 48, 384, .st [.arr .i64 16 (List.replicate 16 0), .arr .i64 16 (List.replicate 16 0), .arr .i64 16 (List.replicate 16 0)], true⟩,
 ⟨.other, 1, 8, .val .nilFunc, false⟩,
 ⟨.other, 1, 8, .val .nilFunc, false⟩,
 ⟨.other, 1, 8, .val .nilFunc, false⟩,
 ⟨.other, 1, 8, .val .nilFunc, false⟩,
 ⟨.other, 1, 8, .val .nilFunc, false⟩,
 ⟨.other, 1, 8, .val .nilFunc, false⟩,
 ⟨.other, 1, 8, .val .nilFunc, false⟩,
 ⟨.other, 1, 8, .val .nilFunc, false⟩,
 ⟨.other, 1, 8, .val .nilFunc, false⟩,
 ⟨.other, 1, 8, .val .nilFunc, false⟩,
 ⟨.other, 1, 8, .val .nilFunc, false⟩,
 ⟨.arr 32 5, 32, 32, .arr .u8 32 (List.replicate 32 0), false⟩,
 ⟨.other, 0, 0, .val (.bool false), false⟩,
 ⟨.other, 1, 8, .val .nilFunc, false⟩,
 ⟨.other, 1, 8, .val .nilFunc, false⟩,
 ⟨.other, 1, 8, .val .nilFunc, false⟩,
 ⟨.other, 1, 8, .val .nilFunc, false⟩,
 ⟨.slice 3, 1, 24, .ints .i64 [], false⟩,
 ⟨.other, 1, 8, .val .nilFunc, false⟩,
 ⟨.other, 1, 8, .val .nilFunc, false⟩,
 ⟨.other, 1, 8, .val .nilFunc, false⟩,
 ⟨.other, 1, 8, .val .nilFunc, false⟩,
 ⟨.other, 1, 8, .val .nilFunc, false⟩,
 ⟨.int .u64, 1, 8, .val (.int .u64 0), false⟩,
 ⟨.other, 1, 8, .val .nilFunc, false⟩,
 ⟨.other, 1, 8, .val .nilFunc, false⟩,
 ⟨.other, 1, 8, .val .nilFunc, false⟩,
 ⟨.other, 1, 8, .val .nilFunc, false⟩,
 ⟨.other, 0, 0, .val (.bool false), false⟩,
 ⟨.other, 1, 8, .val .nilFunc, false⟩,
 ⟨.other, 1, 8, .val .nilFunc, false⟩,
 ⟨.ptr 110, 1, 8, .val (.pointer none), false⟩,
 ⟨.st [(0, 108), (1, 25)], 2, 32, .st [.val (.pointer none), .ints .u8 []], false⟩,
 ⟨.st [(0, 108), (1, 25)], 2, 32, .st [.val (.pointer none), .ints .u8 []], false⟩,
 ⟨.other, 1, 16, .val .nilIface, false⟩,
 ⟨.other, 1, 16, .val .nilIface, false⟩,
 ⟨.other, 1, 8, .val .nilFunc, false⟩,
 ⟨.other, 1, 8, .val .nilFunc, false⟩,
 ⟨.other, 1, 8, .val .nilFunc, false⟩,
 ⟨.other, 1, 8, .val .nilFunc, false⟩,
 ⟨.other, 1, 8, .val .nilFunc, false⟩,
 ⟨.other, 1, 8, .val .nilFunc, false⟩,
 ⟨.other, 1, 8, .val .nilFunc, false⟩,
 ⟨.other, 1, 8, .val .nilFunc, false⟩,
 ⟨.other, 1, 8, .val .nilFunc, false⟩,
 ⟨.other, 1, 8, .val .nilFunc, false⟩,
 ⟨.other, 1, 8, .val .nilFunc, false⟩,
 ⟨.other, 1, 8, .val .nilFunc, false⟩,
 ⟨.arr 4 39, 16, 16, .arr .u8 16 (List.replicate 16 0), false⟩,
 ⟨.other, 1, 8, .val .nilFunc, false⟩,
 ⟨.other, 1, 8, .val .nilFunc, false⟩,
 ⟨.other, 1, 8, .val .nilFunc, false⟩,
 ⟨.other, 1, 8, .val .nilFunc, false⟩,
 ⟨.other, 1, 8, .val .nilFunc, false⟩,
 ⟨.other, 1, 8, .val .nilFunc, false⟩,
 ⟨.other, 1, 8, .val .nilFunc, false⟩,
 ⟨.arr 8 5, 8, 8, .arr .u8 8 (List.replicate 8 0), false⟩,
 ⟨.slice 9, 1, 24, .slc 1 [], false⟩,
 ⟨.other, 1, 8, .val .nilFunc, false⟩,
 ⟨.other, 1, 8, .val .nilFunc, false⟩,
 ⟨.other, 1, 8, .val .nilFunc, false⟩,
 ⟨.st [(0, 24), (4, 24), (8, 24), (12, 24)], 16, 128, .st [.arr .u64 4 (List.replicate 4 0), .arr .u64 4 (List.replicate 4 0), .arr .u64 4 (List.replicate 4 0), .arr .u64 4 (List.replicate 4 0)], true⟩,
 ⟨.st [(0, 24), (4, 24), (8, 24), (12, 24)], 16, 128, .st [.arr .u64 4 (List.replicate 4 0), .arr .u64 4 (List.replicate 4 0), .arr .u64 4 (List.replicate 4 0), .arr .u64 4 (List.replicate 4 0)], true⟩,
 ⟨.other, 1, 8, .val .nilFunc, false⟩,
 ⟨.other, 1, 8, .val .nilFunc, false⟩,
 ⟨.other, 1, 8, .val .nilFunc, false⟩,
 ⟨.arr 17 3, 17, 136, .arr .i64 17 (List.replicate 17 0), false⟩,
 ⟨.other, 1, 8, .val .nilFunc, false⟩,
 ⟨.other, 1, 8, .val .nilFunc, false⟩,
 ⟨.other, 1, 8, .val .nilFunc, false⟩,
 ⟨.st [(0, 24), (4, 24)], 8, 64, .st [.arr .u64 4 (List.replicate 4 0), .arr .u64 4 (List.replicate 4 0)], true⟩,
 ⟨.st [(0, 24), (4, 24)], 8, 64, .st [.arr .u64 4 (List.replicate 4 0), .arr .u64 4 (List.replicate 4 0)], true⟩,
 ⟨.other, 1, 8, .val .nilFunc, false⟩,
 ⟨.other, 0, 0, .val (.bool false), false⟩,
 ⟨.other, 1, 8, .val .nilFunc, false⟩,
 ⟨.other, 1, 8, .val .nilFunc, false⟩,
 ⟨.other, 1, 8, .val .nilFunc, false⟩,
 ⟨.arr 2 74, 32, 256, .arr .i64 32 (List.replicate 32 0), false⟩,
 ⟨.other, 0, 0, .val (.bool false), false⟩,
 ⟨.other, 1, 8, .val .nilFunc, false⟩,
 ⟨.arr 32 3, 32, 256, .arr .i64 32 (List.replicate 32 0), false⟩,
 ⟨.other, 1, 8, .val .nilFunc, false⟩,
 ⟨.other, 1, 8, .val .nilFunc, false⟩,
 ⟨.other, 1, 8, .val .nilFunc, false⟩,
 ⟨.slice 22, 1, 24, .ints .u64 [], false⟩,
 ⟨.other, 1, 8, .val .nilFunc, false⟩,
 ⟨.other, 1, 8, .val .nilFunc, false⟩,
 ⟨.ptr 5, 1, 8, .val (.pointer none), false⟩,
 ⟨.arr 255 5, 255, 255, .arr .u8 255 (List.replicate 255 0), false⟩,
 ⟨.ptr 42, 1, 8, .val (.pointer none), false⟩,
 ⟨.other, 1, 8, .val .nilFunc, false⟩,
 ⟨.other, 1, 8, .val .nilFunc, false⟩,
 ⟨.other, 0, 0, .val (.bool false), false⟩,
 ⟨.other, 1, 8, .val .nilFunc, false⟩,
 ⟨.arr 8 22, 8, 64, .arr .u64 8 (List.replicate 8 0), false⟩,
 ⟨.arr 8 22, 8, 64, .arr .u64 8 (List.replicate 8 0), false⟩,
 ⟨.other, 1, 8, .val .nilFunc, false⟩,
 ⟨.other, 0, 0, .val (.bool false), false⟩,
 ⟨.other, 1, 8, .val .nilFunc, false⟩,
 ⟨.other, 1, 8, .val .nilFunc, false⟩,
 ⟨.other, 1, 8, .val .nilFunc, false⟩,
 ⟨.other, 1, 8, .val .nilFunc, false⟩,
 ⟨.other, 0, 0, .val (.bool false), false⟩,
 ⟨.other, 1, 8, .val .nilFunc, false⟩,
 ⟨.other, 1, 8, .val .nilFunc, false⟩,
 ⟨.st [(0, 17), (1, 17), (2, 17), (3, 9)], 4, 40, .st [.val (.pointer none), .val (.pointer none), .val (.pointer none), .str []], false⟩,
 ⟨.st [(0, 17), (1, 17), (2, 17), (3, 9)], 4, 40, .st [.val (.pointer none), .val (.pointer none), .val (.pointer none), .str []], false⟩,
 ⟨.other, 0, 0, .val (.bool false), false⟩,
 ⟨.other, 0, 0, .val (.bool false), false⟩,
 ⟨.other, 0, 0, .val (.bool false), false⟩,
 ⟨.int .u32, 1, 4, .val (.int .u32 0), false⟩,
 ⟨.int .u8, 1, 1, .val (.int .u8 0), false⟩,
 ⟨.int .u8, 1, 1, .val (.int .u8 0), false⟩,
 ⟨.other, 1, 8, .val .nilFunc, false⟩,
 ⟨.int .i32, 1, 4, .val (.int .i32 0), false⟩,
 ⟨.int .i32, 1, 4, .val (.int .i32 0), false⟩,
 ⟨.st [(0, 12), (1, 12), (2, 187), (3, 188), (4, 5), (5, 5), (6, 189), (7, 190), (8, 164), (9, 191), (10, 192)], 11, 48, .st [.val (.int .u64 0), .val (.int .u64 0), .val (.int .u32 0), .val (.int .u8 0), .val (.int .u8 0), .val (.int .u8 0), .val (.int .u8 0), .val .nilFunc, .val (.pointer none), .val (.int .i32 0), .val (.int .i32 0)], false⟩,
 ⟨.st [(0, 12), (1, 12), (2, 187), (3, 188), (4, 5), (5, 5), (6, 189), (7, 190), (8, 164), (9, 191), (10, 192)], 11, 48, .st [.val (.int .u64 0), .val (.int .u64 0), .val (.int .u32 0), .val (.int .u8 0), .val (.int .u8 0), .val (.int .u8 0), .val (.int .u8 0), .val .nilFunc, .val (.pointer none), .val (.int .i32 0), .val (.int .i32 0)], false⟩,
 ⟨.other, 1, 8, .val .nilFunc, false⟩]
theorem tab_ok : TabOk Try.prog tab := tabB_ok (by kernel_rfl)
end Go.Proofs.Ytnadggcfdakpoaa
namespace Go.Proofs.Ytnadggcfdakpoaa
open Go Go.Vg
abbrev u8 (n : Nat) : D := .val (.int .u8 (n : Int))
abbrev u64n (n : Nat) : D := .val (.int .u64 (n : Int))
abbrev i64n (n : Nat) : D := .val (.int .i64 (n : Int))
abbrev b4 (l : List Int) : D := .arr .u8 4 l
abbrev b256 (l : List Int) : D := .arr .u8 256 l
def okb (l : List Int) : Prop := ∀ x ∈ l, 0 ≤ x ∧ x < 256
def nn (d : D) : Nat := (numOf d).toNat
def sp130 : Go.Vg.Spec := ⟨fun ds => ∃ a b, ds = [u8 a, u8 b] ∧ a < 256 ∧ b < 256, fun ds => u8 (gm (nn (ds.headD default)) (nn (ds.getD 1 default))), true, [5, 5]⟩
def sp78 : Go.Vg.Spec := ⟨fun ds => ∃ a n, ds = [u8 a, u64n n] ∧ a < 256 ∧ n < 18446744073709551616, fun ds => u8 (gpw (nn (ds.headD default)) (nn (ds.getD 1 default))), true, [5, 100]⟩
def sp131 : Go.Vg.Spec := ⟨fun ds => ∃ a, ds = [u8 a] ∧ a < 256, fun ds => u8 (giv (nn (ds.headD default))), true, [5]⟩
def sp132 : Go.Vg.Spec := ⟨fun ds => ∃ a n, ds = [u8 a, i64n n] ∧ a < 256 ∧ n < 8, fun ds => u8 (rl8 (nn (ds.headD default)) (nn (ds.getD 1 default))), true, [5, 3]⟩
def sp86 : Go.Vg.Spec := ⟨fun ds => ∃ a, ds = [u8 a] ∧ a < 256, fun ds => u8 (gbx (nn (ds.headD default))), true, [5]⟩
def sp95 : Go.Vg.Spec := ⟨fun ds => ∃ a, ds = [u8 a] ∧ a < 256, fun ds => u8 (gux (nn (ds.headD default))), true, [5]⟩
def sp133 : Go.Vg.Spec := ⟨fun ds => ∃ l m, ds = [b4 l, b4 m] ∧ (okb l ∧ l.length = 4) ∧ okb m ∧ m.length = 4, fun ds => b4 (gcl (arrOf (ds.headD default)) (arrOf (ds.getD 1 default)) 4), true, [39, 39]⟩
def sp88 : Go.Vg.Spec := ⟨fun ds => ∃ l, ds = [b4 l] ∧ (okb l ∧ l.length = 4), fun ds => b4 (gcl (arrOf (ds.headD default)) [2, 3, 1, 1] 4), true, [39]⟩
def sp94 : Go.Vg.Spec := ⟨fun ds => ∃ l, ds = [b4 l] ∧ (okb l ∧ l.length = 4), fun ds => b4 (gcl (arrOf (ds.headD default)) [14, 11, 13, 9] 4), true, [39]⟩
def sp80 : Go.Vg.Spec := ⟨fun ds => ∃ l, ds = [b256 l] ∧ (okb l ∧ l.length = 256), fun ds => b256 (gub (arrOf (ds.headD default)) 256), true, [54]⟩
noncomputable def boxP : List Int := opq boxL
noncomputable def sp79 : Go.Vg.Spec := ⟨fun ds => ds.length = 0, fun _ => b256 boxP, true, []⟩
def c0 : Ctx := ⟨tab, fun _ => none, [], []⟩
def inv130 (a b : Nat) : Nat → Option Inv
 | 2 => some ⟨Nat × Nat × Nat, fun x => [(0, .d (u8 x.1)), (1, .d (u8 x.2.1)), (5, .d (u8 x.2.2))], fun _ => [], fun s => ((slotN s 0).toNat, (slotN s 1).toNat, (slotN s 5).toNat),
   fun _ x => x.1 < 256 ∧ x.2.1 < 256 ∧ x.2.2 < 256 ∧ x.2.2 ^^^ gm x.1 x.2.1 = gm a b, fun x => x.2.1⟩
 | _ => none
def inv81 (a b : Nat) : Nat → Option Inv
 | 3 => some ⟨Nat, fun i => [(8, .d (i64n i)), (5, .d (i64n (clm a b i)))], fun _ => [], fun s => (slotN s 8).toNat, fun _ i => i ≤ 8, fun i => 8 - i⟩
 | 9 => some ⟨Nat × Nat, fun x => [(7, .d (.val (.int .i64 ((x.1 : Int) + 7)))), (5, .d (i64n x.2))], fun _ => [], fun s => ((slotN s 7 - 7).toNat, (slotN s 5).toNat),
   fun _ x => x.1 ≤ 7 ∧ x.2 < 32768 ∧ red x.1 x.2 = red 7 (clm a b 8), fun x => x.1⟩
 | _ => none
def c78 : Ctx := ⟨tab, lkS [(130, sp130)], [], []⟩
def inv78 (a n : Nat) : Nat → Option Inv
 | 2 => some ⟨Nat × Nat × Nat, fun x => [(0, .d (u8 x.1)), (1, .d (u64n x.2.1)), (5, .d (u8 x.2.2))], fun _ => [], fun s => ((slotN s 0).toNat, (slotN s 1).toNat, (slotN s 5).toNat),
   fun _ x => x.1 < 256 ∧ x.2.1 < 18446744073709551616 ∧ x.2.2 < 256 ∧ gm x.2.2 (gpw x.1 x.2.1) = gpw a n, fun x => x.2.1⟩
 | _ => none
def c131 : Ctx := ⟨tab, lkS [(78, sp78)], [], []⟩
def c86 : Ctx := ⟨tab, lkS [(131, sp131), (132, sp132)], [], []⟩
def inv86 (a : Nat) : Nat → Option Inv
 | 4 => some ⟨Nat, fun i => [(5, .d (.val (.int .i64 ((i : Int) + 1)))), (4, .d (u8 (gsb (giv a) i)))], fun _ => [], fun s => (slotN s 5 - 1).toNat, fun _ i => i ≤ 4, fun i => 4 - i⟩
 | _ => none
def inv133 (l m : List Int) : Nat → Option Inv
 | 3 => some ⟨Nat, fun i => [(9, .d (i64n i))], fun i => [(5, .fix (b4 (gcl l m i ++ List.replicate (4 - i) 0)))], fun s => (slotN s 9).toNat, fun _ i => i ≤ 4, fun i => 4 - i⟩
 | 6 => some ⟨Nat × Nat, fun x => [(13, .d (i64n x.2))], fun x => [(5, .fix (b4 (gcl l m x.1 ++ ((gce l m x.1 x.2 : Nat) : Int) :: List.replicate (3 - x.1) 0)))], fun s => ((slotN s 6).toNat, (slotN s 13).toNat),
   fun s x => (x.1 : Int) = slotN s 6 ∧ x.2 ≤ 4, fun x => 4 - x.2⟩
 | _ => none
def c134 : Ctx := ⟨tab, lkS [(81, sp130)], [], []⟩
def inv134 (l m : List Int) : Nat → Option Inv
 | 3 => some ⟨Nat, fun i => [(8, .d (i64n i))], fun i => [(5, .fix (b4 (gcl l m i ++ List.replicate (4 - i) 0)))], fun s => (slotN s 8).toNat, fun _ i => i ≤ 4, fun i => 4 - i⟩
 | 6 => some ⟨Nat × Nat, fun x => [(11, .d (i64n x.2))], fun x => [(5, .fix (b4 (gcl l m x.1 ++ ((gce l m x.1 x.2 : Nat) : Int) :: List.replicate (3 - x.1) 0)))], fun s => ((slotN s 6).toNat, (slotN s 11).toNat),
   fun s x => (x.1 : Int) = slotN s 6 ∧ x.2 ≤ 4, fun x => 4 - x.2⟩
 | _ => none
def c88 : Ctx := ⟨tab, lkS [(133, sp133)], [], []⟩
def inv80 (l : List Int) : Nat → Option Inv
 | 3 => some ⟨Nat, fun i => [(7, .d (i64n i))], fun i => [(3, .fix (b256 (gub l i)))], fun s => (slotN s 7).toNat, fun _ i => i ≤ 256, fun i => 256 - i⟩
 | _ => none
def pwL (i : Nat) : List Int := (List.range i).map fun j => ((gpw 3 j : Nat) : Int)
def inv79 : Nat → Option Inv
 | 5 => some ⟨Nat, fun i => [(15, .d (i64n i)), (3, .d (u8 (gpw 3 i)))], fun i => [(4, .fix (.arr .u8 255 (pwL i ++ List.replicate (255 - i) 0)))], fun s => (slotN s 15).toNat, fun _ i => i ≤ 255, fun i => 255 - i⟩
 | 11 => some ⟨Nat, fun i => [(25, .d (i64n i))], fun i => [(2, .fix (b256 (gia i)))], fun s => (slotN s 25).toNat, fun _ i => i ≤ 255, fun i => 255 - i⟩
 | 16 => some ⟨Nat, fun i => [(37, .d (i64n i))], fun i => [(1, .fix (b256 (boxL.take i ++ List.replicate (256 - i) 0)))], fun s => (slotN s 37).toNat, fun _ i => i ≤ 256, fun i => 256 - i⟩
 | 21 => some ⟨Nat × Nat, fun x => [(44, .d (i64n x.2)), (10, .d (i64n (gax x.1 x.2)))], fun _ => [], fun s => ((slotN s 9).toNat, (slotN s 44).toNat), fun s x => (x.1 : Int) = slotN s 9 ∧ x.2 ≤ 8, fun x => 8 - x.2⟩
 | 25 => some ⟨Nat × Nat × Nat, fun x => [(52, .d (i64n x.2.2)), (12, .d (i64n (gan x.1 x.2.1 x.2.2)))], fun _ => [], fun s => ((slotN s 9).toNat, (slotN s 11).toNat, (slotN s 52).toNat), fun s x => (x.1 : Int) = slotN s 9 ∧ (x.2.1 : Int) = slotN s 11 ∧ x.2.2 ≤ 5, fun x => 5 - x.2.2⟩
 | _ => none
--KEEP List.replicate HXor.hXor Go.Vg.eqB Go.Vg.opq boxP Go.Vg.gm Go.Vg.gpw Go.Vg.giv Go.Vg.rl8 Go.Vg.gbx Go.Vg.gux Go.Vg.gcl Go.Vg.gce Go.Vg.gub Go.Vg.gia Go.Vg.boxL Go.Vg.gax Go.Vg.gan Go.Vg.gsb Go.Vg.clm Go.Vg.red pwL okb
set_option maxRecDepth 100000 in
theorem vc130  (a b : Nat) (F : D)  :
    (owed c0 (inv130 a b) Try.f130 [u8 a, u8 b] F) = (
 True ∧
 True ∧
 (((AV.d (D.val (Value.int IntKind.u8 (↑a : Int))) = AV.d (D.val (Value.int IntKind.u8 (↑(↑a : Int).toNat : Int))) ∧ AV.d (D.val (Value.int IntKind.u8 (↑b : Int))) = AV.d (D.val (Value.int IntKind.u8 (↑(↑b : Int).toNat : Int))) ∧ AV.d (D.val (Value.int IntKind.u8 (0 : Int))) = AV.d (D.val (Value.int IntKind.u8 (↑(0 : Nat) : Int))) ∧ True) ∧ True ∧ true = true) ∧
 (↑a : Int).toNat < (256 : Nat) ∧ (↑b : Int).toNat < (256 : Nat) ∧ (0 : Nat) < (256 : Nat) ∧ (0 : Nat) ^^^ gm (↑a : Int).toNat (↑b : Int).toNat = gm a b) ∧
 ∀ (x : Nat × Nat × Nat),
 x.fst < (256 : Nat) ∧ x.snd.fst < (256 : Nat) ∧ x.snd.snd < (256 : Nat) ∧ x.snd.snd ^^^ gm x.fst x.snd.fst = gm a b →
 true = true ∧
 True ∧
 True ∧
 match decide ((↑x.snd.fst : Int) > (0 : Int)) with
 | true =>
  True ∧
  True ∧
  True ∧
  match iand IntKind.u8 (↑x.snd.fst : Int) (1 : Int) == (1 : Int) with
  | true =>
   True ∧
   True ∧
   True ∧
   True ∧
   True ∧
   (0 : Int) ≤ (7 : Int) ∧
   True ∧
   True ∧
   (0 : Int) ≤ (1 : Int) ∧
   True ∧
   True ∧
   True ∧
   True ∧
   True ∧
   (0 : Int) ≤ (1 : Int) ∧
   True ∧
   ((AV.d (D.val (Value.int IntKind.u8 (ixor IntKind.u8 (ishl IntKind.u8 (↑x.fst : Int) (1 : Int)) (IntKind.u8.wrap (ishr IntKind.u8 (↑x.fst : Int) (7 : Int) * (27 : Int)))))) =
   AV.d (D.val (Value.int IntKind.u8 (↑(ixor IntKind.u8 (ishl IntKind.u8 (↑x.fst : Int) (1 : Int)) (IntKind.u8.wrap (ishr IntKind.u8 (↑x.fst : Int) (7 : Int) * (27 : Int)))).toNat : Int))) ∧
   AV.d (D.val (Value.int IntKind.u8 (ishr IntKind.u8 (↑x.snd.fst : Int) (1 : Int)))) = AV.d (D.val (Value.int IntKind.u8 (↑(ishr IntKind.u8 (↑x.snd.fst : Int) (1 : Int)).toNat : Int))) ∧
   AV.d (D.val (Value.int IntKind.u8 (ixor IntKind.u8 (↑x.snd.snd : Int) (↑x.fst : Int)))) = AV.d (D.val (Value.int IntKind.u8 (↑(ixor IntKind.u8 (↑x.snd.snd : Int) (↑x.fst : Int)).toNat : Int))) ∧ True) ∧
   True ∧ true = true) ∧
   ((ixor IntKind.u8 (ishl IntKind.u8 (↑x.fst : Int) (1 : Int)) (IntKind.u8.wrap (ishr IntKind.u8 (↑x.fst : Int) (7 : Int) * (27 : Int)))).toNat < (256 : Nat) ∧
   (ishr IntKind.u8 (↑x.snd.fst : Int) (1 : Int)).toNat < (256 : Nat) ∧
   (ixor IntKind.u8 (↑x.snd.snd : Int) (↑x.fst : Int)).toNat < (256 : Nat) ∧
   (ixor IntKind.u8 (↑x.snd.snd : Int) (↑x.fst : Int)).toNat ^^^ gm (ixor IntKind.u8 (ishl IntKind.u8 (↑x.fst : Int) (1 : Int)) (IntKind.u8.wrap (ishr IntKind.u8 (↑x.fst : Int) (7 : Int) * (27 : Int)))).toNat (ishr IntKind.u8 (↑x.snd.fst : Int) (1 : Int)).toNat = gm a b) ∧
   (ishr IntKind.u8 (↑x.snd.fst : Int) (1 : Int)).toNat < x.snd.fst
  | false =>
   True ∧
   (0 : Int) ≤ (7 : Int) ∧
   True ∧
   True ∧
   (0 : Int) ≤ (1 : Int) ∧
   True ∧
   True ∧
   True ∧
   True ∧
   True ∧
   (0 : Int) ≤ (1 : Int) ∧
   True ∧
   ((AV.d (D.val (Value.int IntKind.u8 (ixor IntKind.u8 (ishl IntKind.u8 (↑x.fst : Int) (1 : Int)) (IntKind.u8.wrap (ishr IntKind.u8 (↑x.fst : Int) (7 : Int) * (27 : Int)))))) =
   AV.d (D.val (Value.int IntKind.u8 (↑(ixor IntKind.u8 (ishl IntKind.u8 (↑x.fst : Int) (1 : Int)) (IntKind.u8.wrap (ishr IntKind.u8 (↑x.fst : Int) (7 : Int) * (27 : Int)))).toNat : Int))) ∧
   AV.d (D.val (Value.int IntKind.u8 (ishr IntKind.u8 (↑x.snd.fst : Int) (1 : Int)))) = AV.d (D.val (Value.int IntKind.u8 (↑(ishr IntKind.u8 (↑x.snd.fst : Int) (1 : Int)).toNat : Int))) ∧ AV.d (D.val (Value.int IntKind.u8 (↑x.snd.snd : Int))) = AV.d (D.val (Value.int IntKind.u8 (↑(↑x.snd.snd : Int).toNat : Int))) ∧ True) ∧
   True ∧ true = true) ∧
   ((ixor IntKind.u8 (ishl IntKind.u8 (↑x.fst : Int) (1 : Int)) (IntKind.u8.wrap (ishr IntKind.u8 (↑x.fst : Int) (7 : Int) * (27 : Int)))).toNat < (256 : Nat) ∧
   (ishr IntKind.u8 (↑x.snd.fst : Int) (1 : Int)).toNat < (256 : Nat) ∧
   (↑x.snd.snd : Int).toNat < (256 : Nat) ∧ (↑x.snd.snd : Int).toNat ^^^ gm (ixor IntKind.u8 (ishl IntKind.u8 (↑x.fst : Int) (1 : Int)) (IntKind.u8.wrap (ishr IntKind.u8 (↑x.fst : Int) (7 : Int) * (27 : Int)))).toNat (ishr IntKind.u8 (↑x.snd.fst : Int) (1 : Int)).toNat = gm a b) ∧
   (ishr IntKind.u8 (↑x.snd.fst : Int) (1 : Int)).toNat < x.snd.fst
 | false => True ∧ True ∧ (false = false ∧ True) ∧ D.val (Value.int IntKind.u8 (↑x.snd.snd : Int)) = F) := by kernel_rfl
set_option maxRecDepth 100000 in
theorem vc81  (a b : Nat) (F : D)  :
    (owed c0 (inv81 a b) Try.f81 [u8 a, u8 b] F) = (
 True ∧
 True ∧
 True ∧
 (((AV.d (D.val (Value.int IntKind.i64 (0 : Int))) = AV.d (D.val (Value.int IntKind.i64 (↑(Int.toNat (0 : Int)) : Int))) ∧ AV.d (D.val (Value.int IntKind.i64 (0 : Int))) = AV.d (D.val (Value.int IntKind.i64 (↑(clm a b (Int.toNat (0 : Int))) : Int))) ∧ True) ∧ True ∧ true = true) ∧ Int.toNat (0 : Int) ≤ (8 : Nat)) ∧
 ∀ (x : Nat),
 x ≤ (8 : Nat) →
 true = true ∧
 True ∧
 match decide ((↑x : Int) < (8 : Int)) with
 | true =>
  True ∧
  True ∧
  True ∧
  True ∧
  (0 : Int) ≤ (↑x : Int) ∧
  True ∧
  True ∧
  match iand IntKind.u8 (ishr IntKind.u8 (↑b : Int) (↑x : Int)) (1 : Int) == (1 : Int) with
  | true =>
   True ∧
   True ∧
   True ∧
   True ∧
   (0 : Int) ≤ (↑x : Int) ∧
   True ∧
   True ∧
   True ∧
   True ∧
   ((AV.d (D.val (Value.int IntKind.i64 (IntKind.i64.wrap ((↑x : Int) + (1 : Int))))) = AV.d (D.val (Value.int IntKind.i64 (↑(IntKind.i64.wrap ((↑x : Int) + (1 : Int))).toNat : Int))) ∧
   AV.d (D.val (Value.int IntKind.i64 (ixor IntKind.i64 (↑(clm a b x) : Int) (ishl IntKind.i64 (IntKind.i64.wrap (↑a : Int)) (↑x : Int))))) = AV.d (D.val (Value.int IntKind.i64 (↑(clm a b (IntKind.i64.wrap ((↑x : Int) + (1 : Int))).toNat) : Int))) ∧ True) ∧
   True ∧ true = true) ∧
   (IntKind.i64.wrap ((↑x : Int) + (1 : Int))).toNat ≤ (8 : Nat) ∧ (8 : Nat) - (IntKind.i64.wrap ((↑x : Int) + (1 : Int))).toNat < (8 : Nat) - x
  | false =>
   True ∧
   True ∧
   ((AV.d (D.val (Value.int IntKind.i64 (IntKind.i64.wrap ((↑x : Int) + (1 : Int))))) = AV.d (D.val (Value.int IntKind.i64 (↑(IntKind.i64.wrap ((↑x : Int) + (1 : Int))).toNat : Int))) ∧ AV.d (D.val (Value.int IntKind.i64 (↑(clm a b x) : Int))) = AV.d (D.val (Value.int IntKind.i64 (↑(clm a b (IntKind.i64.wrap ((↑x : Int) + (1 : Int))).toNat) : Int))) ∧ True) ∧
   True ∧ true = true) ∧
   (IntKind.i64.wrap ((↑x : Int) + (1 : Int))).toNat ≤ (8 : Nat) ∧ (8 : Nat) - (IntKind.i64.wrap ((↑x : Int) + (1 : Int))).toNat < (8 : Nat) - x
 | false =>
  True ∧
  (((AV.d (D.val (Value.int IntKind.i64 (14 : Int))) = AV.d (D.val (Value.int IntKind.i64 ((↑((14 : Int) - (7 : Int)).toNat : Int) + (7 : Int)))) ∧ AV.d (D.val (Value.int IntKind.i64 (↑(clm a b x) : Int))) = AV.d (D.val (Value.int IntKind.i64 (↑(↑(clm a b x) : Int).toNat : Int))) ∧ True) ∧ True ∧ true = true) ∧
  ((14 : Int) - (7 : Int)).toNat ≤ (7 : Nat) ∧ (↑(clm a b x) : Int).toNat < (32768 : Nat) ∧ red ((14 : Int) - (7 : Int)).toNat (↑(clm a b x) : Int).toNat = red (7 : Nat) (clm a b (8 : Nat))) ∧
  ∀ (x : Nat × Nat),
  x.fst ≤ (7 : Nat) ∧ x.snd < (32768 : Nat) ∧ red x.fst x.snd = red (7 : Nat) (clm a b (8 : Nat)) →
  true = true ∧
  True ∧
  True ∧
  match decide ((↑x.fst : Int) + (7 : Int) ≥ (8 : Int)) with
  | true =>
   True ∧
   True ∧
   (0 : Int) ≤ (↑x.fst : Int) + (7 : Int) ∧
   True ∧
   True ∧
   match iand IntKind.i64 (ishr IntKind.i64 (↑x.snd : Int) ((↑x.fst : Int) + (7 : Int))) (1 : Int) == (1 : Int) with
   | true =>
    True ∧
    True ∧
    True ∧
    (0 : Int) ≤ IntKind.i64.wrap ((↑x.fst : Int) + (7 : Int) - (8 : Int)) ∧
    True ∧
    True ∧
    True ∧
    True ∧
    True ∧
    ((AV.d (D.val (Value.int IntKind.i64 (IntKind.i64.wrap ((↑x.fst : Int) + (7 : Int) - (1 : Int))))) = AV.d (D.val (Value.int IntKind.i64 ((↑(IntKind.i64.wrap ((↑x.fst : Int) + (7 : Int) - (1 : Int)) - (7 : Int)).toNat : Int) + (7 : Int)))) ∧
    AV.d (D.val (Value.int IntKind.i64 (ixor IntKind.i64 (↑x.snd : Int) (ishl IntKind.i64 (283 : Int) (IntKind.i64.wrap ((↑x.fst : Int) + (7 : Int) - (8 : Int))))))) =
    AV.d (D.val (Value.int IntKind.i64 (↑(ixor IntKind.i64 (↑x.snd : Int) (ishl IntKind.i64 (283 : Int) (IntKind.i64.wrap ((↑x.fst : Int) + (7 : Int) - (8 : Int))))).toNat : Int))) ∧
    True) ∧
    True ∧ true = true) ∧
    ((IntKind.i64.wrap ((↑x.fst : Int) + (7 : Int) - (1 : Int)) - (7 : Int)).toNat ≤ (7 : Nat) ∧
    (ixor IntKind.i64 (↑x.snd : Int) (ishl IntKind.i64 (283 : Int) (IntKind.i64.wrap ((↑x.fst : Int) + (7 : Int) - (8 : Int))))).toNat < (32768 : Nat) ∧
    red (IntKind.i64.wrap ((↑x.fst : Int) + (7 : Int) - (1 : Int)) - (7 : Int)).toNat (ixor IntKind.i64 (↑x.snd : Int) (ishl IntKind.i64 (283 : Int) (IntKind.i64.wrap ((↑x.fst : Int) + (7 : Int) - (8 : Int))))).toNat = red (7 : Nat) (clm a b (8 : Nat))) ∧
    (IntKind.i64.wrap ((↑x.fst : Int) + (7 : Int) - (1 : Int)) - (7 : Int)).toNat < x.fst
   | false =>
    True ∧
    True ∧
    True ∧
    ((AV.d (D.val (Value.int IntKind.i64 (IntKind.i64.wrap ((↑x.fst : Int) + (7 : Int) - (1 : Int))))) = AV.d (D.val (Value.int IntKind.i64 ((↑(IntKind.i64.wrap ((↑x.fst : Int) + (7 : Int) - (1 : Int)) - (7 : Int)).toNat : Int) + (7 : Int)))) ∧
    AV.d (D.val (Value.int IntKind.i64 (↑x.snd : Int))) = AV.d (D.val (Value.int IntKind.i64 (↑(↑x.snd : Int).toNat : Int))) ∧ True) ∧
    True ∧ true = true) ∧
    ((IntKind.i64.wrap ((↑x.fst : Int) + (7 : Int) - (1 : Int)) - (7 : Int)).toNat ≤ (7 : Nat) ∧ (↑x.snd : Int).toNat < (32768 : Nat) ∧ red (IntKind.i64.wrap ((↑x.fst : Int) + (7 : Int) - (1 : Int)) - (7 : Int)).toNat (↑x.snd : Int).toNat = red (7 : Nat) (clm a b (8 : Nat))) ∧
    (IntKind.i64.wrap ((↑x.fst : Int) + (7 : Int) - (1 : Int)) - (7 : Int)).toNat < x.fst
  | false => True ∧ True ∧ True ∧ (false = false ∧ True) ∧ D.val (Value.int IntKind.u8 (IntKind.u8.wrap (↑x.snd : Int))) = F) := by kernel_rfl
set_option maxRecDepth 100000 in
theorem vc78  (a n : Nat) (F : D)  :
    (owed c78 (inv78 a n) Try.f78 [u8 a, u64n n] F) = (
 True ∧
 True ∧
 (((AV.d (D.val (Value.int IntKind.u8 (↑a : Int))) = AV.d (D.val (Value.int IntKind.u8 (↑(↑a : Int).toNat : Int))) ∧ AV.d (D.val (Value.int IntKind.u64 (↑n : Int))) = AV.d (D.val (Value.int IntKind.u64 (↑(↑n : Int).toNat : Int))) ∧ AV.d (D.val (Value.int IntKind.u8 (1 : Int))) = AV.d (D.val (Value.int IntKind.u8 (↑(1 : Nat) : Int))) ∧ True) ∧ True ∧ true = true) ∧
 (↑a : Int).toNat < (256 : Nat) ∧ (↑n : Int).toNat < (18446744073709551616 : Nat) ∧ (1 : Nat) < (256 : Nat) ∧ gm (1 : Nat) (gpw (↑a : Int).toNat (↑n : Int).toNat) = gpw a n) ∧
 ∀ (x : Nat × Nat × Nat),
 x.fst < (256 : Nat) ∧ x.snd.fst < (18446744073709551616 : Nat) ∧ x.snd.snd < (256 : Nat) ∧ gm x.snd.snd (gpw x.fst x.snd.fst) = gpw a n →
 true = true ∧
 True ∧
 True ∧
 match decide ((↑x.snd.fst : Int) > (0 : Int)) with
 | true =>
  True ∧
  True ∧
  True ∧
  match iand IntKind.u64 (↑x.snd.fst : Int) (1 : Int) == (1 : Int) with
  | true =>
   True ∧
   True ∧
   (∃ (a : Nat), ∃ (b : Nat), [D.val (Value.int IntKind.u8 (↑x.snd.snd : Int)), D.val (Value.int IntKind.u8 (↑x.fst : Int))] = [D.val (Value.int IntKind.u8 (↑a : Int)), D.val (Value.int IntKind.u8 (↑b : Int))] ∧ a < (256 : Nat) ∧ b < (256 : Nat)) ∧
   True ∧
   True ∧
   True ∧
   (∃ (a : Nat), ∃ (b : Nat), [D.val (Value.int IntKind.u8 (↑x.fst : Int)), D.val (Value.int IntKind.u8 (↑x.fst : Int))] = [D.val (Value.int IntKind.u8 (↑a : Int)), D.val (Value.int IntKind.u8 (↑b : Int))] ∧ a < (256 : Nat) ∧ b < (256 : Nat)) ∧
   True ∧
   True ∧
   (0 : Int) ≤ (1 : Int) ∧
   True ∧
   ((AV.d (D.val (Value.int IntKind.u8 (↑(gm (↑x.fst : Int).toNat (↑x.fst : Int).toNat) : Int))) = AV.d (D.val (Value.int IntKind.u8 (↑(↑(gm (↑x.fst : Int).toNat (↑x.fst : Int).toNat) : Int).toNat : Int))) ∧
   AV.d (D.val (Value.int IntKind.u64 (ishr IntKind.u64 (↑x.snd.fst : Int) (1 : Int)))) = AV.d (D.val (Value.int IntKind.u64 (↑(ishr IntKind.u64 (↑x.snd.fst : Int) (1 : Int)).toNat : Int))) ∧
   AV.d (D.val (Value.int IntKind.u8 (↑(gm (↑x.snd.snd : Int).toNat (↑x.fst : Int).toNat) : Int))) = AV.d (D.val (Value.int IntKind.u8 (↑(↑(gm (↑x.snd.snd : Int).toNat (↑x.fst : Int).toNat) : Int).toNat : Int))) ∧ True) ∧
   True ∧ true = true) ∧
   ((↑(gm (↑x.fst : Int).toNat (↑x.fst : Int).toNat) : Int).toNat < (256 : Nat) ∧
   (ishr IntKind.u64 (↑x.snd.fst : Int) (1 : Int)).toNat < (18446744073709551616 : Nat) ∧
   (↑(gm (↑x.snd.snd : Int).toNat (↑x.fst : Int).toNat) : Int).toNat < (256 : Nat) ∧ gm (↑(gm (↑x.snd.snd : Int).toNat (↑x.fst : Int).toNat) : Int).toNat (gpw (↑(gm (↑x.fst : Int).toNat (↑x.fst : Int).toNat) : Int).toNat (ishr IntKind.u64 (↑x.snd.fst : Int) (1 : Int)).toNat) = gpw a n) ∧
   (ishr IntKind.u64 (↑x.snd.fst : Int) (1 : Int)).toNat < x.snd.fst
  | false =>
   True ∧
   True ∧
   (∃ (a : Nat), ∃ (b : Nat), [D.val (Value.int IntKind.u8 (↑x.fst : Int)), D.val (Value.int IntKind.u8 (↑x.fst : Int))] = [D.val (Value.int IntKind.u8 (↑a : Int)), D.val (Value.int IntKind.u8 (↑b : Int))] ∧ a < (256 : Nat) ∧ b < (256 : Nat)) ∧
   True ∧
   True ∧
   (0 : Int) ≤ (1 : Int) ∧
   True ∧
   ((AV.d (D.val (Value.int IntKind.u8 (↑(gm (↑x.fst : Int).toNat (↑x.fst : Int).toNat) : Int))) = AV.d (D.val (Value.int IntKind.u8 (↑(↑(gm (↑x.fst : Int).toNat (↑x.fst : Int).toNat) : Int).toNat : Int))) ∧
   AV.d (D.val (Value.int IntKind.u64 (ishr IntKind.u64 (↑x.snd.fst : Int) (1 : Int)))) = AV.d (D.val (Value.int IntKind.u64 (↑(ishr IntKind.u64 (↑x.snd.fst : Int) (1 : Int)).toNat : Int))) ∧ AV.d (D.val (Value.int IntKind.u8 (↑x.snd.snd : Int))) = AV.d (D.val (Value.int IntKind.u8 (↑(↑x.snd.snd : Int).toNat : Int))) ∧ True) ∧
   True ∧ true = true) ∧
   ((↑(gm (↑x.fst : Int).toNat (↑x.fst : Int).toNat) : Int).toNat < (256 : Nat) ∧
   (ishr IntKind.u64 (↑x.snd.fst : Int) (1 : Int)).toNat < (18446744073709551616 : Nat) ∧ (↑x.snd.snd : Int).toNat < (256 : Nat) ∧ gm (↑x.snd.snd : Int).toNat (gpw (↑(gm (↑x.fst : Int).toNat (↑x.fst : Int).toNat) : Int).toNat (ishr IntKind.u64 (↑x.snd.fst : Int) (1 : Int)).toNat) = gpw a n) ∧
   (ishr IntKind.u64 (↑x.snd.fst : Int) (1 : Int)).toNat < x.snd.fst
 | false => True ∧ True ∧ (false = false ∧ True) ∧ D.val (Value.int IntKind.u8 (↑x.snd.snd : Int)) = F) := by kernel_rfl
set_option maxRecDepth 100000 in
theorem vc131  (a : Nat) (F : D)  :
    (owed c131 (fun _ => none) Try.f131 [u8 a] F) = (
 True ∧ True ∧ (∃ (a_1 : Nat), ∃ (n : Nat), [D.val (Value.int IntKind.u8 (↑a : Int)), D.val (Value.int IntKind.u64 (254 : Int))] = [D.val (Value.int IntKind.u8 (↑a_1 : Int)), D.val (Value.int IntKind.u64 (↑n : Int))] ∧ a_1 < (256 : Nat) ∧ n < (18446744073709551616 : Nat)) ∧ True ∧ (false = false ∧ True) ∧ D.val (Value.int IntKind.u8 (↑(gpw (↑a : Int).toNat (254 : Nat)) : Int)) = F) := by kernel_rfl
set_option maxRecDepth 100000 in
theorem vc132  (a n : Nat) (F : D)  :
    (owed c0 (fun _ => none) Try.f132 [u8 a, i64n n] F) = (
 True ∧
 True ∧
 True ∧
 True ∧
 True ∧
 True ∧
 True ∧
 (0 : Int) ≤ iand IntKind.u64 (IntKind.u64.wrap (↑n : Int)) (7 : Int) ∧
 True ∧
 True ∧
 True ∧
 (0 : Int) ≤ IntKind.u64.wrap ((8 : Int) - iand IntKind.u64 (IntKind.u64.wrap (↑n : Int)) (7 : Int)) ∧
 True ∧ True ∧ (false = false ∧ True) ∧ D.val (Value.int IntKind.u8 (ior IntKind.u8 (ishl IntKind.u8 (↑a : Int) (iand IntKind.u64 (IntKind.u64.wrap (↑n : Int)) (7 : Int))) (ishr IntKind.u8 (↑a : Int) (IntKind.u64.wrap ((8 : Int) - iand IntKind.u64 (IntKind.u64.wrap (↑n : Int)) (7 : Int)))))) = F) := by kernel_rfl
set_option maxRecDepth 100000 in
theorem vc86  (a : Nat) (F : D)  :
    (owed c86 (inv86 a) Try.f86 [u8 a] F) = (
 True ∧
 True ∧
 (∃ (a_1 : Nat), [D.val (Value.int IntKind.u8 (↑a : Int))] = [D.val (Value.int IntKind.u8 (↑a_1 : Int))] ∧ a_1 < (256 : Nat)) ∧
 True ∧
 True ∧
 True ∧
 True ∧
 True ∧
 (((AV.d (D.val (Value.int IntKind.i64 (1 : Int))) = AV.d (D.val (Value.int IntKind.i64 ((↑((1 : Int) - (1 : Int)).toNat : Int) + (1 : Int)))) ∧ AV.d (D.val (Value.int IntKind.u8 (ixor IntKind.u8 (99 : Int) (↑(giv (↑a : Int).toNat) : Int)))) = AV.d (D.val (Value.int IntKind.u8 (↑(gsb (giv a) ((1 : Int) - (1 : Int)).toNat) : Int))) ∧ True) ∧ True ∧ true = true) ∧
 ((1 : Int) - (1 : Int)).toNat ≤ (4 : Nat)) ∧
 ∀ (x : Nat),
 x ≤ (4 : Nat) →
 true = true ∧
 True ∧
 True ∧
 match decide ((↑x : Int) + (1 : Int) ≤ (4 : Int)) with
 | true =>
  True ∧
  True ∧
  True ∧
  (∃ (a_2 : Nat), ∃ (n : Nat), [D.val (Value.int IntKind.u8 (↑(giv (↑a : Int).toNat) : Int)), D.val (Value.int IntKind.i64 ((↑x : Int) + (1 : Int)))] = [D.val (Value.int IntKind.u8 (↑a_2 : Int)), D.val (Value.int IntKind.i64 (↑n : Int))] ∧ a_2 < (256 : Nat) ∧ n < (8 : Nat)) ∧
  True ∧
  True ∧
  True ∧
  True ∧
  True ∧
  ((AV.d (D.val (Value.int IntKind.i64 (IntKind.i64.wrap ((↑x : Int) + (1 : Int) + (1 : Int))))) = AV.d (D.val (Value.int IntKind.i64 ((↑(IntKind.i64.wrap ((↑x : Int) + (1 : Int) + (1 : Int)) - (1 : Int)).toNat : Int) + (1 : Int)))) ∧
  AV.d (D.val (Value.int IntKind.u8 (ixor IntKind.u8 (↑(gsb (giv a) x) : Int) (↑(rl8 (↑(giv (↑a : Int).toNat) : Int).toNat ((↑x : Int) + (1 : Int)).toNat) : Int)))) = AV.d (D.val (Value.int IntKind.u8 (↑(gsb (giv a) (IntKind.i64.wrap ((↑x : Int) + (1 : Int) + (1 : Int)) - (1 : Int)).toNat) : Int))) ∧ True) ∧
  True ∧ true = true) ∧
  (IntKind.i64.wrap ((↑x : Int) + (1 : Int) + (1 : Int)) - (1 : Int)).toNat ≤ (4 : Nat) ∧ (4 : Nat) - (IntKind.i64.wrap ((↑x : Int) + (1 : Int) + (1 : Int)) - (1 : Int)).toNat < (4 : Nat) - x
 | false => True ∧ True ∧ (false = false ∧ True) ∧ D.val (Value.int IntKind.u8 (↑(gsb (giv a) x) : Int)) = F) := by kernel_rfl
set_option maxRecDepth 100000 in
theorem vc95  (a : Nat) (F : D)  :
    (owed c86 (fun _ => none) Try.f95 [u8 a] F) = (
 True ∧
 True ∧
 True ∧
 True ∧
 True ∧
 (∃ (a_1 : Nat), ∃ (n : Nat), [D.val (Value.int IntKind.u8 (ixor IntKind.u8 (↑a : Int) (99 : Int))), D.val (Value.int IntKind.i64 (1 : Int))] = [D.val (Value.int IntKind.u8 (↑a_1 : Int)), D.val (Value.int IntKind.i64 (↑n : Int))] ∧ a_1 < (256 : Nat) ∧ n < (8 : Nat)) ∧
 True ∧
 (∃ (a_1 : Nat), ∃ (n : Nat), [D.val (Value.int IntKind.u8 (ixor IntKind.u8 (↑a : Int) (99 : Int))), D.val (Value.int IntKind.i64 (3 : Int))] = [D.val (Value.int IntKind.u8 (↑a_1 : Int)), D.val (Value.int IntKind.i64 (↑n : Int))] ∧ a_1 < (256 : Nat) ∧ n < (8 : Nat)) ∧
 True ∧
 True ∧
 (∃ (a_1 : Nat), ∃ (n : Nat), [D.val (Value.int IntKind.u8 (ixor IntKind.u8 (↑a : Int) (99 : Int))), D.val (Value.int IntKind.i64 (6 : Int))] = [D.val (Value.int IntKind.u8 (↑a_1 : Int)), D.val (Value.int IntKind.i64 (↑n : Int))] ∧ a_1 < (256 : Nat) ∧ n < (8 : Nat)) ∧
 True ∧
 (∃ (a_1 : Nat), [D.val (Value.int IntKind.u8 (ixor IntKind.u8 (ixor IntKind.u8 (↑(rl8 (ixor IntKind.u8 (↑a : Int) (99 : Int)).toNat (1 : Nat)) : Int) (↑(rl8 (ixor IntKind.u8 (↑a : Int) (99 : Int)).toNat (3 : Nat)) : Int)) (↑(rl8 (ixor IntKind.u8 (↑a : Int) (99 : Int)).toNat (6 : Nat)) : Int)))] = [D.val (Value.int IntKind.u8 (↑a_1 : Int))] ∧ a_1 < (256 : Nat)) ∧
 True ∧ (false = false ∧ True) ∧ D.val (Value.int IntKind.u8 (↑(giv (ixor IntKind.u8 (ixor IntKind.u8 (↑(rl8 (ixor IntKind.u8 (↑a : Int) (99 : Int)).toNat (1 : Nat)) : Int) (↑(rl8 (ixor IntKind.u8 (↑a : Int) (99 : Int)).toNat (3 : Nat)) : Int)) (↑(rl8 (ixor IntKind.u8 (↑a : Int) (99 : Int)).toNat (6 : Nat)) : Int)).toNat) : Int)) = F) := by kernel_rfl
set_option maxRecDepth 100000 in
theorem vc133  (l m : List Int) (F : D)  :
    (owed c78 (inv133 l m) Try.f133 [b4 l, b4 m] F) = (
 (True ∧ false = false) ∧
 (True ∧ false = false) ∧
 (True ∧ (4 : Nat) ≠ (0 : Nat)) ∧
 (True ∧ (4 : Nat) ≠ (0 : Nat)) ∧
 True ∧
 (((AV.d (D.val (Value.int IntKind.i64 (0 : Int))) = AV.d (D.val (Value.int IntKind.i64 (↑(Int.toNat (0 : Int)) : Int))) ∧ True) ∧
 (sm (some (Blk.fix (D.arr IntKind.u8 (4 : Nat) l))) ∧
 sm (some (Blk.fix (D.arr IntKind.u8 (4 : Nat) m))) ∧ sm (some (Blk.fix (D.arr IntKind.u8 (4 : Nat) [(0 : Int), (0 : Int), (0 : Int), (0 : Int)]))) ∧ some (Blk.fix (D.arr IntKind.u8 (4 : Nat) [(0 : Int), (0 : Int), (0 : Int), (0 : Int)])) = some (Blk.fix (D.arr IntKind.u8 (4 : Nat) (gcl l m (Int.toNat (0 : Int)) ++ [(0 : Int), (0 : Int), (0 : Int), (0 : Int)]))) ∧ True) ∧
 true = true) ∧
 Int.toNat (0 : Int) ≤ (4 : Nat)) ∧
 ∀ (x : Nat),
 x ≤ (4 : Nat) →
 true = true ∧
 True ∧
 match decide ((↑x : Int) < (4 : Int)) with
 | true =>
  True ∧
  True ∧
  ((4 : Nat) ≠ (0 : Nat) ∧ (4 : Nat) = (4 : Nat) ∧ true = true) ∧
  True ∧
  (((AV.d (D.val (Value.int IntKind.i64 (0 : Int))) = AV.d (D.val (Value.int IntKind.i64 (↑(0 : Nat) : Int))) ∧ True) ∧
  (sm (some (Blk.fix (D.arr IntKind.u8 (4 : Nat) l))) ∧
  sm (some (Blk.fix (D.arr IntKind.u8 (4 : Nat) m))) ∧
  sm (some (Blk.fix (D.arr IntKind.u8 (4 : Nat) [(0 : Int), (0 : Int), (0 : Int), (0 : Int)]))) ∧
  some (Blk.fix (D.arr IntKind.u8 (4 : Nat) (gcl l m x ++ List.replicate ((4 : Nat) - x) (0 : Int)))) = some (Blk.fix (D.arr IntKind.u8 (4 : Nat) (gcl l m (↑x : Int).toNat ++ (↑(gce l m (↑x : Int).toNat (0 : Nat)) : Int) :: List.replicate ((3 : Nat) - (↑x : Int).toNat) (0 : Int)))) ∧ True) ∧
  true = true) ∧
  (↑(↑x : Int).toNat : Int) = (↑x : Int) ∧ (0 : Nat) ≤ (4 : Nat)) ∧
  ∀ (x_1 : Nat × Nat),
  (↑x_1.fst : Int) = (↑x : Int) ∧ x_1.snd ≤ (4 : Nat) →
  true = true ∧
  True ∧
  match decide ((↑x_1.snd : Int) < (4 : Int)) with
  | true =>
   True ∧
   ((0 : Int) ≤ (↑x_1.snd : Int) ∧ (↑x_1.snd : Int) < (↑(4 : Nat) : Int) ∧ (4 : Nat) = (4 : Nat) ∧ Ty.int IntKind.u8 = Ty.int IntKind.u8 ∧ (1 : Nat) = (1 : Nat)) ∧
   True ∧
   True ∧
   True ∧
   ((0 : Int) ≤ (↑x : Int) ∧ (↑x : Int) < (↑(4 : Nat) : Int) ∧ (4 : Nat) = (4 : Nat) ∧ (1 : Nat) = (1 : Nat)) ∧
   ((1 : Nat) ≠ (0 : Nat) ∧ (1 : Nat) = (1 : Nat) ∧ false = false) ∧
   True ∧
   True ∧
   True ∧
   True ∧
   (4 : Int) ≠ (0 : Int) ∧
   ((0 : Int) ≤ (IntKind.i64.wrap ((↑x : Int) + (↑x_1.snd : Int))).tmod (4 : Int) ∧ (IntKind.i64.wrap ((↑x : Int) + (↑x_1.snd : Int))).tmod (4 : Int) < (↑(4 : Nat) : Int) ∧ (4 : Nat) = (4 : Nat) ∧ (1 : Nat) = (1 : Nat)) ∧
   ((1 : Nat) ≠ (0 : Nat) ∧ (1 : Nat) = (1 : Nat) ∧ false = false) ∧
   (∃ (a : Nat),
   ∃ (b : Nat),
   [D.val (Value.int IntKind.u8 (m.getD (↑x_1.snd : Int).toNat (0 : Int))), D.val (Value.int IntKind.u8 (l.getD ((IntKind.i64.wrap ((↑x : Int) + (↑x_1.snd : Int))).tmod (4 : Int)).toNat (0 : Int)))] = [D.val (Value.int IntKind.u8 (↑a : Int)), D.val (Value.int IntKind.u8 (↑b : Int))] ∧ a < (256 : Nat) ∧ b < (256 : Nat)) ∧
   True ∧
   ((0 : Int) ≤ (↑x : Int) ∧ (↑x : Int) < (↑(4 : Nat) : Int) ∧ (4 : Nat) = (4 : Nat) ∧ (1 : Nat) = (1 : Nat)) ∧
   (((↑x : Int).toNat < (4 : Nat) ∧ ([] : List Nat) = [] ∧ true = true) ∧ (1 : Nat) ≠ (0 : Nat) ∧ (1 : Nat) = (1 : Nat) ∧ false = false) ∧
   True ∧
   True ∧
   ((AV.d (D.val (Value.int IntKind.i64 (IntKind.i64.wrap ((↑x_1.snd : Int) + (1 : Int))))) = AV.d (D.val (Value.int IntKind.i64 (↑(IntKind.i64.wrap ((↑x_1.snd : Int) + (1 : Int))).toNat : Int))) ∧ True) ∧
   (sm (some (Blk.fix (D.arr IntKind.u8 (4 : Nat) l))) ∧
   sm (some (Blk.fix (D.arr IntKind.u8 (4 : Nat) m))) ∧
   sm (some (Blk.fix (D.arr IntKind.u8 (4 : Nat) [(0 : Int), (0 : Int), (0 : Int), (0 : Int)]))) ∧
   some
   (Blk.fix
   (D.arr IntKind.u8 (4 : Nat)
   ((gcl l m x_1.fst ++ (↑(gce l m x_1.fst x_1.snd) : Int) :: List.replicate ((3 : Nat) - x_1.fst) (0 : Int)).set (↑x : Int).toNat
   (ixor IntKind.u8 ((gcl l m x_1.fst ++ (↑(gce l m x_1.fst x_1.snd) : Int) :: List.replicate ((3 : Nat) - x_1.fst) (0 : Int)).getD (↑x : Int).toNat (0 : Int))
   (↑(gm (m.getD (↑x_1.snd : Int).toNat (0 : Int)).toNat (l.getD ((IntKind.i64.wrap ((↑x : Int) + (↑x_1.snd : Int))).tmod (4 : Int)).toNat (0 : Int)).toNat) : Int))))) =
   some (Blk.fix (D.arr IntKind.u8 (4 : Nat) (gcl l m (↑x : Int).toNat ++ (↑(gce l m (↑x : Int).toNat (IntKind.i64.wrap ((↑x_1.snd : Int) + (1 : Int))).toNat) : Int) :: List.replicate ((3 : Nat) - (↑x : Int).toNat) (0 : Int)))) ∧
   True) ∧
   true = true) ∧
   ((↑(↑x : Int).toNat : Int) = (↑x : Int) ∧ (IntKind.i64.wrap ((↑x_1.snd : Int) + (1 : Int))).toNat ≤ (4 : Nat)) ∧ (4 : Nat) - (IntKind.i64.wrap ((↑x_1.snd : Int) + (1 : Int))).toNat < (4 : Nat) - x_1.snd
  | false =>
   True ∧
   True ∧
   ((AV.d (D.val (Value.int IntKind.i64 (IntKind.i64.wrap ((↑x : Int) + (1 : Int))))) = AV.d (D.val (Value.int IntKind.i64 (↑(IntKind.i64.wrap ((↑x : Int) + (1 : Int))).toNat : Int))) ∧ True) ∧
   (sm (some (Blk.fix (D.arr IntKind.u8 (4 : Nat) l))) ∧
   sm (some (Blk.fix (D.arr IntKind.u8 (4 : Nat) m))) ∧
   sm (some (Blk.fix (D.arr IntKind.u8 (4 : Nat) [(0 : Int), (0 : Int), (0 : Int), (0 : Int)]))) ∧
   some (Blk.fix (D.arr IntKind.u8 (4 : Nat) (gcl l m x_1.fst ++ (↑(gce l m x_1.fst x_1.snd) : Int) :: List.replicate ((3 : Nat) - x_1.fst) (0 : Int)))) =
   some (Blk.fix (D.arr IntKind.u8 (4 : Nat) (gcl l m (IntKind.i64.wrap ((↑x : Int) + (1 : Int))).toNat ++ List.replicate ((4 : Nat) - (IntKind.i64.wrap ((↑x : Int) + (1 : Int))).toNat) (0 : Int)))) ∧
   True) ∧
   true = true) ∧
   (IntKind.i64.wrap ((↑x : Int) + (1 : Int))).toNat ≤ (4 : Nat) ∧ (4 : Nat) - (IntKind.i64.wrap ((↑x : Int) + (1 : Int))).toNat < (4 : Nat) - x
 | false => ((4 : Nat) ≠ (0 : Nat) ∧ (4 : Nat) = (4 : Nat) ∧ true = true) ∧ (Sk.arr (4 : Nat) = Sk.arr (4 : Nat) ∧ (4 : Nat) ≠ (0 : Nat) ∧ (4 : Nat) = (4 : Nat) ∧ false = false) ∧ (((4 : Nat) ≠ (0 : Nat) ∧ (4 : Nat) = (4 : Nat) ∧ true = true) ∧ True) ∧ D.arr IntKind.u8 (4 : Nat) (gcl l m x ++ List.replicate ((4 : Nat) - x) (0 : Int)) = F) := by kernel_rfl
set_option maxRecDepth 100000 in
theorem vc134  (l m : List Int) (F : D)  :
    (owed c134 (inv134 l m) Try.f134 [b4 l, b4 m] F) = (
 (True ∧ false = false) ∧
 (True ∧ false = false) ∧
 (True ∧ (4 : Nat) ≠ (0 : Nat)) ∧
 (True ∧ (4 : Nat) ≠ (0 : Nat)) ∧
 True ∧
 (((AV.d (D.val (Value.int IntKind.i64 (0 : Int))) = AV.d (D.val (Value.int IntKind.i64 (↑(Int.toNat (0 : Int)) : Int))) ∧ True) ∧
 (sm (some (Blk.fix (D.arr IntKind.u8 (4 : Nat) l))) ∧
 sm (some (Blk.fix (D.arr IntKind.u8 (4 : Nat) m))) ∧ sm (some (Blk.fix (D.arr IntKind.u8 (4 : Nat) [(0 : Int), (0 : Int), (0 : Int), (0 : Int)]))) ∧ some (Blk.fix (D.arr IntKind.u8 (4 : Nat) [(0 : Int), (0 : Int), (0 : Int), (0 : Int)])) = some (Blk.fix (D.arr IntKind.u8 (4 : Nat) (gcl l m (Int.toNat (0 : Int)) ++ [(0 : Int), (0 : Int), (0 : Int), (0 : Int)]))) ∧ True) ∧
 true = true) ∧
 Int.toNat (0 : Int) ≤ (4 : Nat)) ∧
 ∀ (x : Nat),
 x ≤ (4 : Nat) →
 true = true ∧
 True ∧
 match decide ((↑x : Int) < (4 : Int)) with
 | true =>
  True ∧
  True ∧
  True ∧
  (((AV.d (D.val (Value.int IntKind.i64 (0 : Int))) = AV.d (D.val (Value.int IntKind.i64 (↑(0 : Nat) : Int))) ∧ True) ∧
  (sm (some (Blk.fix (D.arr IntKind.u8 (4 : Nat) l))) ∧
  sm (some (Blk.fix (D.arr IntKind.u8 (4 : Nat) m))) ∧
  sm (some (Blk.fix (D.arr IntKind.u8 (4 : Nat) [(0 : Int), (0 : Int), (0 : Int), (0 : Int)]))) ∧
  some (Blk.fix (D.arr IntKind.u8 (4 : Nat) (gcl l m x ++ List.replicate ((4 : Nat) - x) (0 : Int)))) = some (Blk.fix (D.arr IntKind.u8 (4 : Nat) (gcl l m (↑x : Int).toNat ++ (↑(gce l m (↑x : Int).toNat (0 : Nat)) : Int) :: List.replicate ((3 : Nat) - (↑x : Int).toNat) (0 : Int)))) ∧ True) ∧
  true = true) ∧
  (↑(↑x : Int).toNat : Int) = (↑x : Int) ∧ (0 : Nat) ≤ (4 : Nat)) ∧
  ∀ (x_1 : Nat × Nat),
  (↑x_1.fst : Int) = (↑x : Int) ∧ x_1.snd ≤ (4 : Nat) →
  true = true ∧
  True ∧
  match decide ((↑x_1.snd : Int) < (4 : Int)) with
  | true =>
   True ∧
   True ∧
   True ∧
   ((0 : Int) ≤ (↑x : Int) ∧ (↑x : Int) < (↑(4 : Nat) : Int) ∧ (4 : Nat) = (4 : Nat) ∧ (1 : Nat) = (1 : Nat)) ∧
   ((1 : Nat) ≠ (0 : Nat) ∧ (1 : Nat) = (1 : Nat) ∧ false = false) ∧
   True ∧
   ((0 : Int) ≤ (↑x_1.snd : Int) ∧ (↑x_1.snd : Int) < (↑(4 : Nat) : Int) ∧ (4 : Nat) = (4 : Nat) ∧ (1 : Nat) = (1 : Nat)) ∧
   ((1 : Nat) ≠ (0 : Nat) ∧ (1 : Nat) = (1 : Nat) ∧ false = false) ∧
   True ∧
   True ∧
   True ∧
   (4 : Int) ≠ (0 : Int) ∧
   ((0 : Int) ≤ (IntKind.i64.wrap ((↑x : Int) + (↑x_1.snd : Int))).tmod (4 : Int) ∧ (IntKind.i64.wrap ((↑x : Int) + (↑x_1.snd : Int))).tmod (4 : Int) < (↑(4 : Nat) : Int) ∧ (4 : Nat) = (4 : Nat) ∧ (1 : Nat) = (1 : Nat)) ∧
   ((1 : Nat) ≠ (0 : Nat) ∧ (1 : Nat) = (1 : Nat) ∧ false = false) ∧
   (∃ (a : Nat),
   ∃ (b : Nat),
   [D.val (Value.int IntKind.u8 (m.getD (↑x_1.snd : Int).toNat (0 : Int))), D.val (Value.int IntKind.u8 (l.getD ((IntKind.i64.wrap ((↑x : Int) + (↑x_1.snd : Int))).tmod (4 : Int)).toNat (0 : Int)))] = [D.val (Value.int IntKind.u8 (↑a : Int)), D.val (Value.int IntKind.u8 (↑b : Int))] ∧ a < (256 : Nat) ∧ b < (256 : Nat)) ∧
   True ∧
   ((0 : Int) ≤ (↑x : Int) ∧ (↑x : Int) < (↑(4 : Nat) : Int) ∧ (4 : Nat) = (4 : Nat) ∧ (1 : Nat) = (1 : Nat)) ∧
   (((↑x : Int).toNat < (4 : Nat) ∧ ([] : List Nat) = [] ∧ true = true) ∧ (1 : Nat) ≠ (0 : Nat) ∧ (1 : Nat) = (1 : Nat) ∧ false = false) ∧
   True ∧
   True ∧
   ((AV.d (D.val (Value.int IntKind.i64 (IntKind.i64.wrap ((↑x_1.snd : Int) + (1 : Int))))) = AV.d (D.val (Value.int IntKind.i64 (↑(IntKind.i64.wrap ((↑x_1.snd : Int) + (1 : Int))).toNat : Int))) ∧ True) ∧
   (sm (some (Blk.fix (D.arr IntKind.u8 (4 : Nat) l))) ∧
   sm (some (Blk.fix (D.arr IntKind.u8 (4 : Nat) m))) ∧
   sm (some (Blk.fix (D.arr IntKind.u8 (4 : Nat) [(0 : Int), (0 : Int), (0 : Int), (0 : Int)]))) ∧
   some
   (Blk.fix
   (D.arr IntKind.u8 (4 : Nat)
   ((gcl l m x_1.fst ++ (↑(gce l m x_1.fst x_1.snd) : Int) :: List.replicate ((3 : Nat) - x_1.fst) (0 : Int)).set (↑x : Int).toNat
   (ixor IntKind.u8 ((gcl l m x_1.fst ++ (↑(gce l m x_1.fst x_1.snd) : Int) :: List.replicate ((3 : Nat) - x_1.fst) (0 : Int)).getD (↑x : Int).toNat (0 : Int))
   (↑(gm (m.getD (↑x_1.snd : Int).toNat (0 : Int)).toNat (l.getD ((IntKind.i64.wrap ((↑x : Int) + (↑x_1.snd : Int))).tmod (4 : Int)).toNat (0 : Int)).toNat) : Int))))) =
   some (Blk.fix (D.arr IntKind.u8 (4 : Nat) (gcl l m (↑x : Int).toNat ++ (↑(gce l m (↑x : Int).toNat (IntKind.i64.wrap ((↑x_1.snd : Int) + (1 : Int))).toNat) : Int) :: List.replicate ((3 : Nat) - (↑x : Int).toNat) (0 : Int)))) ∧
   True) ∧
   true = true) ∧
   ((↑(↑x : Int).toNat : Int) = (↑x : Int) ∧ (IntKind.i64.wrap ((↑x_1.snd : Int) + (1 : Int))).toNat ≤ (4 : Nat)) ∧ (4 : Nat) - (IntKind.i64.wrap ((↑x_1.snd : Int) + (1 : Int))).toNat < (4 : Nat) - x_1.snd
  | false =>
   True ∧
   True ∧
   ((AV.d (D.val (Value.int IntKind.i64 (IntKind.i64.wrap ((↑x : Int) + (1 : Int))))) = AV.d (D.val (Value.int IntKind.i64 (↑(IntKind.i64.wrap ((↑x : Int) + (1 : Int))).toNat : Int))) ∧ True) ∧
   (sm (some (Blk.fix (D.arr IntKind.u8 (4 : Nat) l))) ∧
   sm (some (Blk.fix (D.arr IntKind.u8 (4 : Nat) m))) ∧
   sm (some (Blk.fix (D.arr IntKind.u8 (4 : Nat) [(0 : Int), (0 : Int), (0 : Int), (0 : Int)]))) ∧
   some (Blk.fix (D.arr IntKind.u8 (4 : Nat) (gcl l m x_1.fst ++ (↑(gce l m x_1.fst x_1.snd) : Int) :: List.replicate ((3 : Nat) - x_1.fst) (0 : Int)))) =
   some (Blk.fix (D.arr IntKind.u8 (4 : Nat) (gcl l m (IntKind.i64.wrap ((↑x : Int) + (1 : Int))).toNat ++ List.replicate ((4 : Nat) - (IntKind.i64.wrap ((↑x : Int) + (1 : Int))).toNat) (0 : Int)))) ∧
   True) ∧
   true = true) ∧
   (IntKind.i64.wrap ((↑x : Int) + (1 : Int))).toNat ≤ (4 : Nat) ∧ (4 : Nat) - (IntKind.i64.wrap ((↑x : Int) + (1 : Int))).toNat < (4 : Nat) - x
 | false => ((4 : Nat) ≠ (0 : Nat) ∧ (4 : Nat) = (4 : Nat) ∧ true = true) ∧ (Sk.arr (4 : Nat) = Sk.arr (4 : Nat) ∧ (4 : Nat) ≠ (0 : Nat) ∧ (4 : Nat) = (4 : Nat) ∧ false = false) ∧ (((4 : Nat) ≠ (0 : Nat) ∧ (4 : Nat) = (4 : Nat) ∧ true = true) ∧ True) ∧ D.arr IntKind.u8 (4 : Nat) (gcl l m x ++ List.replicate ((4 : Nat) - x) (0 : Int)) = F) := by kernel_rfl
set_option maxRecDepth 100000 in
theorem vc88  (l : List Int) (F : D)  :
    (owed c88 (fun _ => none) Try.f88 [b4 l] F) = (
 (True ∧ false = false) ∧
 (True ∧ (4 : Nat) ≠ (0 : Nat)) ∧
 ((4 : Nat) ≠ (0 : Nat) ∧ (4 : Nat) = (4 : Nat) ∧ true = true) ∧
 ((1 : Nat) = (1 : Nat) ∧ false = false ∧ ((0 : Nat) < (4 : Nat) ∧ ([] : List Nat) = [] ∧ true = true) ∧ false = false ∧ ((1 : Nat) < (4 : Nat) ∧ ([] : List Nat) = [] ∧ true = true) ∧ false = false ∧ ((2 : Nat) < (4 : Nat) ∧ ([] : List Nat) = [] ∧ true = true) ∧ false = false ∧ ((3 : Nat) < (4 : Nat) ∧ ([] : List Nat) = [] ∧ true = true) ∧ True) ∧
 (∃ (l_1 : List Int), ∃ (m : List Int), [D.arr IntKind.u8 (4 : Nat) l, D.arr IntKind.u8 (4 : Nat) [(2 : Int), (3 : Int), (1 : Int), (1 : Int)]] = [D.arr IntKind.u8 (4 : Nat) l_1, D.arr IntKind.u8 (4 : Nat) m] ∧ (okb l_1 ∧ l_1.length = (4 : Nat)) ∧ okb m ∧ m.length = (4 : Nat)) ∧
 (Sk.arr (4 : Nat) = Sk.arr (4 : Nat) ∧ (4 : Nat) ≠ (0 : Nat) ∧ (4 : Nat) = (4 : Nat) ∧ false = false) ∧ (((4 : Nat) ≠ (0 : Nat) ∧ (4 : Nat) = (4 : Nat) ∧ true = true) ∧ True) ∧ D.arr IntKind.u8 (4 : Nat) (gcl l [(2 : Int), (3 : Int), (1 : Int), (1 : Int)] (4 : Nat)) = F) := by kernel_rfl
set_option maxRecDepth 100000 in
theorem vc94  (l : List Int) (F : D)  :
    (owed c88 (fun _ => none) Try.f94 [b4 l] F) = (
 (True ∧ false = false) ∧
 (True ∧ (4 : Nat) ≠ (0 : Nat)) ∧
 ((4 : Nat) ≠ (0 : Nat) ∧ (4 : Nat) = (4 : Nat) ∧ true = true) ∧
 ((1 : Nat) = (1 : Nat) ∧ false = false ∧ ((0 : Nat) < (4 : Nat) ∧ ([] : List Nat) = [] ∧ true = true) ∧ false = false ∧ ((1 : Nat) < (4 : Nat) ∧ ([] : List Nat) = [] ∧ true = true) ∧ false = false ∧ ((2 : Nat) < (4 : Nat) ∧ ([] : List Nat) = [] ∧ true = true) ∧ false = false ∧ ((3 : Nat) < (4 : Nat) ∧ ([] : List Nat) = [] ∧ true = true) ∧ True) ∧
 (∃ (l_1 : List Int), ∃ (m : List Int), [D.arr IntKind.u8 (4 : Nat) l, D.arr IntKind.u8 (4 : Nat) [(14 : Int), (11 : Int), (13 : Int), (9 : Int)]] = [D.arr IntKind.u8 (4 : Nat) l_1, D.arr IntKind.u8 (4 : Nat) m] ∧ (okb l_1 ∧ l_1.length = (4 : Nat)) ∧ okb m ∧ m.length = (4 : Nat)) ∧
 (Sk.arr (4 : Nat) = Sk.arr (4 : Nat) ∧ (4 : Nat) ≠ (0 : Nat) ∧ (4 : Nat) = (4 : Nat) ∧ false = false) ∧ (((4 : Nat) ≠ (0 : Nat) ∧ (4 : Nat) = (4 : Nat) ∧ true = true) ∧ True) ∧ D.arr IntKind.u8 (4 : Nat) (gcl l [(14 : Int), (11 : Int), (13 : Int), (9 : Int)] (4 : Nat)) = F) := by kernel_rfl
set_option maxRecDepth 100000 in
theorem vc80  (l : List Int) (F : D)  :
    (owed c0 (inv80 l) Try.f80 [b256 l] F) = (
 (True ∧ false = false) ∧
 (True ∧ (256 : Nat) ≠ (0 : Nat)) ∧
 (True ∧ (256 : Nat) ≠ (0 : Nat)) ∧
 ((256 : Nat) ≠ (0 : Nat) ∧ (256 : Nat) = (256 : Nat) ∧ true = true) ∧
 True ∧
 (((AV.d (D.val (Value.int IntKind.i64 (0 : Int))) = AV.d (D.val (Value.int IntKind.i64 (↑(Int.toNat (0 : Int)) : Int))) ∧ True) ∧
 (sm (some (Blk.fix (D.arr IntKind.u8 (256 : Nat) l))) ∧
 sm
 (some
 (Blk.fix
 (D.arr IntKind.u8 (256 : Nat)
 (List.replicate (256 : Nat) (0 : Int))))) ∧
 some
 (Blk.fix
 (D.arr IntKind.u8 (256 : Nat)
 (List.replicate (256 : Nat) (0 : Int)))) =
 some (Blk.fix (D.arr IntKind.u8 (256 : Nat) (gub l (Int.toNat (0 : Int))))) ∧
 True) ∧
 true = true) ∧
 Int.toNat (0 : Int) ≤ (256 : Nat)) ∧
 ∀ (x : Nat),
 x ≤ (256 : Nat) →
 true = true ∧
 True ∧
 match decide ((↑x : Int) < (256 : Int)) with
 | true =>
  True ∧
  ((0 : Int) ≤ (↑x : Int) ∧ (↑x : Int) < (↑(256 : Nat) : Int) ∧ (256 : Nat) = (256 : Nat) ∧ Ty.int IntKind.u8 = Ty.int IntKind.u8 ∧ (1 : Nat) = (1 : Nat)) ∧
  True ∧
  True ∧
  True ∧
  True ∧
  True ∧
  ((0 : Int) ≤ l.getD (↑x : Int).toNat (0 : Int) ∧ l.getD (↑x : Int).toNat (0 : Int) < (↑(256 : Nat) : Int) ∧ (256 : Nat) = (256 : Nat) ∧ (1 : Nat) = (1 : Nat)) ∧
  (((l.getD (↑x : Int).toNat (0 : Int)).toNat < (256 : Nat) ∧ ([] : List Nat) = [] ∧ true = true) ∧ (1 : Nat) ≠ (0 : Nat) ∧ (1 : Nat) = (1 : Nat) ∧ false = false) ∧
  True ∧
  True ∧
  ((AV.d (D.val (Value.int IntKind.i64 (IntKind.i64.wrap ((↑x : Int) + (1 : Int))))) = AV.d (D.val (Value.int IntKind.i64 (↑(IntKind.i64.wrap ((↑x : Int) + (1 : Int))).toNat : Int))) ∧ True) ∧
  (sm (some (Blk.fix (D.arr IntKind.u8 (256 : Nat) l))) ∧
  sm
  (some
  (Blk.fix
  (D.arr IntKind.u8 (256 : Nat)
  (List.replicate (256 : Nat) (0 : Int))))) ∧
  some (Blk.fix (D.arr IntKind.u8 (256 : Nat) ((gub l x).set (l.getD (↑x : Int).toNat (0 : Int)).toNat (IntKind.u8.wrap (↑x : Int))))) = some (Blk.fix (D.arr IntKind.u8 (256 : Nat) (gub l (IntKind.i64.wrap ((↑x : Int) + (1 : Int))).toNat))) ∧ True) ∧
  true = true) ∧
  (IntKind.i64.wrap ((↑x : Int) + (1 : Int))).toNat ≤ (256 : Nat) ∧ (256 : Nat) - (IntKind.i64.wrap ((↑x : Int) + (1 : Int))).toNat < (256 : Nat) - x
 | false => ((256 : Nat) ≠ (0 : Nat) ∧ (256 : Nat) = (256 : Nat) ∧ true = true) ∧ (Sk.arr (256 : Nat) = Sk.arr (256 : Nat) ∧ (256 : Nat) ≠ (0 : Nat) ∧ (256 : Nat) = (256 : Nat) ∧ false = false) ∧ (((256 : Nat) ≠ (0 : Nat) ∧ (256 : Nat) = (256 : Nat) ∧ true = true) ∧ True) ∧ D.arr IntKind.u8 (256 : Nat) (gub l x) = F) := by kernel_rfl
set_option maxRecDepth 100000 in
theorem vc79  (F : D)  :
    (owed c134 inv79 Try.f79 [] F) = (
 (True ∧ (256 : Nat) ≠ (0 : Nat)) ∧
 (True ∧ (256 : Nat) ≠ (0 : Nat)) ∧
 (True ∧ (256 : Nat) ≠ (0 : Nat)) ∧
 True ∧
 (True ∧ (255 : Nat) ≠ (0 : Nat)) ∧
 True ∧
 (((AV.d (D.val (Value.int IntKind.i64 (0 : Int))) = AV.d (D.val (Value.int IntKind.i64 (↑(Int.toNat (0 : Int)) : Int))) ∧ AV.d (D.val (Value.int IntKind.u8 (1 : Int))) = AV.d (D.val (Value.int IntKind.u8 (↑(gpw (3 : Nat) (Int.toNat (0 : Int))) : Int))) ∧ True) ∧
 (sm
 (some
 (Blk.fix
 (D.arr IntKind.u8 (256 : Nat)
 (List.replicate (256 : Nat) (0 : Int))))) ∧
 sm
 (some
 (Blk.fix
 (D.arr IntKind.u8 (256 : Nat)
 (List.replicate (256 : Nat) (0 : Int))))) ∧
 sm
 (some
 (Blk.fix
 (D.arr IntKind.u8 (256 : Nat)
 (List.replicate (256 : Nat) (0 : Int))))) ∧
 some
 (Blk.fix
 (D.arr IntKind.u8 (255 : Nat)
 (List.replicate (255 : Nat) (0 : Int)))) =
 some
 (Blk.fix
 (D.arr IntKind.u8 (255 : Nat)
 (pwL (Int.toNat (0 : Int)) ++
 (List.replicate (255 : Nat) (0 : Int))))) ∧
 True) ∧
 true = true) ∧
 Int.toNat (0 : Int) ≤ (255 : Nat)) ∧
 ∀ (x : Nat),
 x ≤ (255 : Nat) →
 true = true ∧
 True ∧
 match decide ((↑x : Int) < (255 : Int)) with
 | true =>
  True ∧
  True ∧
  True ∧
  True ∧
  ((0 : Int) ≤ (↑x : Int) ∧ (↑x : Int) < (↑(255 : Nat) : Int) ∧ (255 : Nat) = (255 : Nat) ∧ (1 : Nat) = (1 : Nat)) ∧
  (((↑x : Int).toNat < (255 : Nat) ∧ ([] : List Nat) = [] ∧ true = true) ∧ (1 : Nat) ≠ (0 : Nat) ∧ (1 : Nat) = (1 : Nat) ∧ false = false) ∧
  True ∧
  (∃ (a : Nat), ∃ (b : Nat), [D.val (Value.int IntKind.u8 (↑(gpw (3 : Nat) x) : Int)), D.val (Value.int IntKind.u8 (3 : Int))] = [D.val (Value.int IntKind.u8 (↑a : Int)), D.val (Value.int IntKind.u8 (↑b : Int))] ∧ a < (256 : Nat) ∧ b < (256 : Nat)) ∧
  True ∧
  True ∧
  True ∧
  ((AV.d (D.val (Value.int IntKind.i64 (IntKind.i64.wrap ((↑x : Int) + (1 : Int))))) = AV.d (D.val (Value.int IntKind.i64 (↑(IntKind.i64.wrap ((↑x : Int) + (1 : Int))).toNat : Int))) ∧
  AV.d (D.val (Value.int IntKind.u8 (↑(gm (↑(gpw (3 : Nat) x) : Int).toNat (3 : Nat)) : Int))) = AV.d (D.val (Value.int IntKind.u8 (↑(gpw (3 : Nat) (IntKind.i64.wrap ((↑x : Int) + (1 : Int))).toNat) : Int))) ∧ True) ∧
  (sm
  (some
  (Blk.fix
  (D.arr IntKind.u8 (256 : Nat)
  (List.replicate (256 : Nat) (0 : Int))))) ∧
  sm
  (some
  (Blk.fix
  (D.arr IntKind.u8 (256 : Nat)
  (List.replicate (256 : Nat) (0 : Int))))) ∧
  sm
  (some
  (Blk.fix
  (D.arr IntKind.u8 (256 : Nat)
  (List.replicate (256 : Nat) (0 : Int))))) ∧
  some (Blk.fix (D.arr IntKind.u8 (255 : Nat) ((pwL x ++ List.replicate ((255 : Nat) - x) (0 : Int)).set (↑x : Int).toNat (↑(gpw (3 : Nat) x) : Int)))) =
  some (Blk.fix (D.arr IntKind.u8 (255 : Nat) (pwL (IntKind.i64.wrap ((↑x : Int) + (1 : Int))).toNat ++ List.replicate ((255 : Nat) - (IntKind.i64.wrap ((↑x : Int) + (1 : Int))).toNat) (0 : Int)))) ∧
  True) ∧
  true = true) ∧
  (IntKind.i64.wrap ((↑x : Int) + (1 : Int))).toNat ≤ (255 : Nat) ∧ (255 : Nat) - (IntKind.i64.wrap ((↑x : Int) + (1 : Int))).toNat < (255 : Nat) - x
 | false =>
  ((255 : Nat) ≠ (0 : Nat) ∧ (255 : Nat) = (255 : Nat) ∧ true = true) ∧
  True ∧
  (((AV.d (D.val (Value.int IntKind.i64 (0 : Int))) = AV.d (D.val (Value.int IntKind.i64 (↑(Int.toNat (0 : Int)) : Int))) ∧ True) ∧
  (sm
  (some
  (Blk.fix
  (D.arr IntKind.u8 (256 : Nat)
  (List.replicate (256 : Nat) (0 : Int))))) ∧
  sm
  (some
  (Blk.fix
  (D.arr IntKind.u8 (256 : Nat)
  (List.replicate (256 : Nat) (0 : Int))))) ∧
  some
  (Blk.fix
  (D.arr IntKind.u8 (256 : Nat)
  (List.replicate (256 : Nat) (0 : Int)))) =
  some (Blk.fix (D.arr IntKind.u8 (256 : Nat) (gia (Int.toNat (0 : Int))))) ∧
  sm (some (Blk.fix (D.arr IntKind.u8 (255 : Nat) (pwL x ++ List.replicate ((255 : Nat) - x) (0 : Int))))) ∧ True) ∧
  true = true) ∧
  Int.toNat (0 : Int) ≤ (255 : Nat)) ∧
  ∀ (x_1 : Nat),
  x_1 ≤ (255 : Nat) →
  true = true ∧
  True ∧
  match decide ((↑x_1 : Int) < (255 : Int)) with
  | true =>
   True ∧
   ((0 : Int) ≤ (↑x_1 : Int) ∧ (↑x_1 : Int) < (↑(255 : Nat) : Int) ∧ (255 : Nat) = (255 : Nat) ∧ Ty.int IntKind.u8 = Ty.int IntKind.u8 ∧ (1 : Nat) = (1 : Nat)) ∧
   True ∧
   True ∧
   True ∧
   True ∧
   True ∧
   (255 : Int) ≠ (0 : Int) ∧
   ((0 : Int) ≤ (IntKind.i64.wrap ((255 : Int) - (↑x_1 : Int))).tmod (255 : Int) ∧ (IntKind.i64.wrap ((255 : Int) - (↑x_1 : Int))).tmod (255 : Int) < (↑(255 : Nat) : Int) ∧ (255 : Nat) = (255 : Nat) ∧ (1 : Nat) = (1 : Nat)) ∧
   ((1 : Nat) ≠ (0 : Nat) ∧ (1 : Nat) = (1 : Nat) ∧ false = false) ∧
   ((0 : Int) ≤ (pwL x ++ List.replicate ((255 : Nat) - x) (0 : Int)).getD (↑x_1 : Int).toNat (0 : Int) ∧ (pwL x ++ List.replicate ((255 : Nat) - x) (0 : Int)).getD (↑x_1 : Int).toNat (0 : Int) < (↑(256 : Nat) : Int) ∧ (256 : Nat) = (256 : Nat) ∧ (1 : Nat) = (1 : Nat)) ∧
   ((((pwL x ++ List.replicate ((255 : Nat) - x) (0 : Int)).getD (↑x_1 : Int).toNat (0 : Int)).toNat < (256 : Nat) ∧ ([] : List Nat) = [] ∧ true = true) ∧ (1 : Nat) ≠ (0 : Nat) ∧ (1 : Nat) = (1 : Nat) ∧ false = false) ∧
   True ∧
   True ∧
   ((AV.d (D.val (Value.int IntKind.i64 (IntKind.i64.wrap ((↑x_1 : Int) + (1 : Int))))) = AV.d (D.val (Value.int IntKind.i64 (↑(IntKind.i64.wrap ((↑x_1 : Int) + (1 : Int))).toNat : Int))) ∧ True) ∧
   (sm
   (some
   (Blk.fix
   (D.arr IntKind.u8 (256 : Nat)
   (List.replicate (256 : Nat) (0 : Int))))) ∧
   sm
   (some
   (Blk.fix
   (D.arr IntKind.u8 (256 : Nat)
   (List.replicate (256 : Nat) (0 : Int))))) ∧
   some (Blk.fix (D.arr IntKind.u8 (256 : Nat) ((gia x_1).set ((pwL x ++ List.replicate ((255 : Nat) - x) (0 : Int)).getD (↑x_1 : Int).toNat (0 : Int)).toNat ((pwL x ++ List.replicate ((255 : Nat) - x) (0 : Int)).getD ((IntKind.i64.wrap ((255 : Int) - (↑x_1 : Int))).tmod (255 : Int)).toNat (0 : Int))))) =
   some (Blk.fix (D.arr IntKind.u8 (256 : Nat) (gia (IntKind.i64.wrap ((↑x_1 : Int) + (1 : Int))).toNat))) ∧
   sm (some (Blk.fix (D.arr IntKind.u8 (255 : Nat) (pwL x ++ List.replicate ((255 : Nat) - x) (0 : Int))))) ∧ True) ∧
   true = true) ∧
   (IntKind.i64.wrap ((↑x_1 : Int) + (1 : Int))).toNat ≤ (255 : Nat) ∧ (255 : Nat) - (IntKind.i64.wrap ((↑x_1 : Int) + (1 : Int))).toNat < (255 : Nat) - x_1
  | false =>
   True ∧
   (((AV.d (D.val (Value.int IntKind.i64 (0 : Int))) = AV.d (D.val (Value.int IntKind.i64 (↑(Int.toNat (0 : Int)) : Int))) ∧ True) ∧
   (sm
   (some
   (Blk.fix
   (D.arr IntKind.u8 (256 : Nat)
   (List.replicate (256 : Nat) (0 : Int))))) ∧
   some
   (Blk.fix
   (D.arr IntKind.u8 (256 : Nat)
   (List.replicate (256 : Nat) (0 : Int)))) =
   some
   (Blk.fix
   (D.arr IntKind.u8 (256 : Nat)
   (List.take (Int.toNat (0 : Int)) boxL ++
   (List.replicate (256 : Nat) (0 : Int))))) ∧
   sm (some (Blk.fix (D.arr IntKind.u8 (256 : Nat) (gia x_1)))) ∧ sm (some (Blk.fix (D.arr IntKind.u8 (255 : Nat) (pwL x ++ List.replicate ((255 : Nat) - x) (0 : Int))))) ∧ True) ∧
   true = true) ∧
   Int.toNat (0 : Int) ≤ (256 : Nat)) ∧
   ∀ (x_2 : Nat),
   x_2 ≤ (256 : Nat) →
   true = true ∧
   True ∧
   match decide ((↑x_2 : Int) < (256 : Int)) with
   | true =>
    True ∧
    True ∧
    True ∧
    ((0 : Int) ≤ (↑x_2 : Int) ∧ (↑x_2 : Int) < (↑(256 : Nat) : Int) ∧ (256 : Nat) = (256 : Nat) ∧ (1 : Nat) = (1 : Nat)) ∧
    ((1 : Nat) ≠ (0 : Nat) ∧ (1 : Nat) = (1 : Nat) ∧ false = false) ∧
    True ∧
    True ∧
    True ∧
    True ∧
    (((AV.d (D.val (Value.int IntKind.i64 (0 : Int))) = AV.d (D.val (Value.int IntKind.i64 (↑(0 : Nat) : Int))) ∧ AV.d (D.val (Value.int IntKind.i64 (0 : Int))) = AV.d (D.val (Value.int IntKind.i64 (↑(gax (IntKind.i64.wrap ((gia x_1).getD (↑x_2 : Int).toNat (0 : Int))).toNat (0 : Nat)) : Int))) ∧ True) ∧
    (sm
    (some
    (Blk.fix
    (D.arr IntKind.u8 (256 : Nat)
    (List.replicate (256 : Nat) (0 : Int))))) ∧
    sm (some (Blk.fix (D.arr IntKind.u8 (256 : Nat) (List.take x_2 boxL ++ List.replicate ((256 : Nat) - x_2) (0 : Int))))) ∧ sm (some (Blk.fix (D.arr IntKind.u8 (256 : Nat) (gia x_1)))) ∧ sm (some (Blk.fix (D.arr IntKind.u8 (255 : Nat) (pwL x ++ List.replicate ((255 : Nat) - x) (0 : Int))))) ∧ True) ∧
    true = true) ∧
    (↑(IntKind.i64.wrap ((gia x_1).getD (↑x_2 : Int).toNat (0 : Int))).toNat : Int) = IntKind.i64.wrap ((gia x_1).getD (↑x_2 : Int).toNat (0 : Int)) ∧ (0 : Nat) ≤ (8 : Nat)) ∧
    ∀ (x_3 : Nat × Nat),
    (↑x_3.fst : Int) = IntKind.i64.wrap ((gia x_1).getD (↑x_2 : Int).toNat (0 : Int)) ∧ x_3.snd ≤ (8 : Nat) →
    true = true ∧
    True ∧
    match decide ((↑x_3.snd : Int) < (8 : Int)) with
    | true =>
     True ∧
     True ∧
     True ∧
     (0 : Int) ≤ (↑x_3.snd : Int) ∧
     True ∧
     True ∧
     ((1 : Nat) = (1 : Nat) ∧ (5 : Nat) ≤ (4096 : Nat)) ∧
     True ∧
     True ∧
     (((AV.d (D.val (Value.int IntKind.i64 (0 : Int))) = AV.d (D.val (Value.int IntKind.i64 (↑(0 : Nat) : Int))) ∧
     AV.d (D.val (Value.int IntKind.i64 (iand IntKind.i64 (ishr IntKind.i64 (99 : Int) (↑x_3.snd : Int)) (1 : Int)))) = AV.d (D.val (Value.int IntKind.i64 (↑(gan (IntKind.i64.wrap ((gia x_1).getD (↑x_2 : Int).toNat (0 : Int))).toNat (↑x_3.snd : Int).toNat (0 : Nat)) : Int))) ∧ True) ∧
     (sm
     (some
     (Blk.fix
     (D.arr IntKind.u8 (256 : Nat)
     (List.replicate (256 : Nat) (0 : Int))))) ∧
     sm (some (Blk.fix (D.arr IntKind.u8 (256 : Nat) (List.take x_2 boxL ++ List.replicate ((256 : Nat) - x_2) (0 : Int))))) ∧
     sm (some (Blk.fix (D.arr IntKind.u8 (256 : Nat) (gia x_1)))) ∧ sm (some (Blk.fix (D.arr IntKind.u8 (255 : Nat) (pwL x ++ List.replicate ((255 : Nat) - x) (0 : Int))))) ∧ True) ∧
     true = true) ∧
     (↑(IntKind.i64.wrap ((gia x_1).getD (↑x_2 : Int).toNat (0 : Int))).toNat : Int) = IntKind.i64.wrap ((gia x_1).getD (↑x_2 : Int).toNat (0 : Int)) ∧ (↑(↑x_3.snd : Int).toNat : Int) = (↑x_3.snd : Int) ∧ (0 : Nat) ≤ (5 : Nat)) ∧
     ∀ (x_4 : Nat × Nat × Nat),
     (↑x_4.fst : Int) = IntKind.i64.wrap ((gia x_1).getD (↑x_2 : Int).toNat (0 : Int)) ∧ (↑x_4.snd.fst : Int) = (↑x_3.snd : Int) ∧ x_4.snd.snd ≤ (5 : Nat) →
     true = true ∧
     True ∧
     match decide ((↑x_4.snd.snd : Int) < (↑(5 : Nat) : Int)) with
     | true =>
      ((0 : Int) ≤ (↑x_4.snd.snd : Int) ∧ (↑x_4.snd.snd : Int) < (↑(5 : Nat) : Int) ∧ (1 : Nat) = (1 : Nat)) ∧
      ((1 : Nat) ≠ (0 : Nat) ∧ (1 : Nat) = (1 : Nat) ∧ false = false) ∧
      True ∧
      True ∧
      True ∧
      True ∧
      True ∧
      True ∧
      (8 : Int) ≠ (0 : Int) ∧
      (0 : Int) ≤ (IntKind.i64.wrap ((↑x_3.snd : Int) + [(0 : Int), (4 : Int), (5 : Int), (6 : Int), (7 : Int)].getD (↑x_4.snd.snd : Int).toNat (0 : Int))).tmod (8 : Int) ∧
      True ∧
      True ∧
      True ∧
      True ∧
      True ∧
      ((AV.d (D.val (Value.int IntKind.i64 (IntKind.i64.wrap ((↑x_4.snd.snd : Int) + (1 : Int))))) = AV.d (D.val (Value.int IntKind.i64 (↑(IntKind.i64.wrap ((↑x_4.snd.snd : Int) + (1 : Int))).toNat : Int))) ∧
      AV.d
      (D.val
      (Value.int IntKind.i64
      (IntKind.i64.wrap
      ((↑(gan x_4.fst x_4.snd.fst x_4.snd.snd) : Int) +
      iand IntKind.i64
      (ishr IntKind.i64 (IntKind.i64.wrap ((gia x_1).getD (↑x_2 : Int).toNat (0 : Int)))
      ((IntKind.i64.wrap ((↑x_3.snd : Int) + [(0 : Int), (4 : Int), (5 : Int), (6 : Int), (7 : Int)].getD (↑x_4.snd.snd : Int).toNat (0 : Int))).tmod (8 : Int)))
      (1 : Int))))) =
      AV.d (D.val (Value.int IntKind.i64 (↑(gan (IntKind.i64.wrap ((gia x_1).getD (↑x_2 : Int).toNat (0 : Int))).toNat (↑x_3.snd : Int).toNat (IntKind.i64.wrap ((↑x_4.snd.snd : Int) + (1 : Int))).toNat) : Int))) ∧
      True) ∧
      (sm
      (some
      (Blk.fix
      (D.arr IntKind.u8 (256 : Nat)
      (List.replicate (256 : Nat) (0 : Int))))) ∧
      sm (some (Blk.fix (D.arr IntKind.u8 (256 : Nat) (List.take x_2 boxL ++ List.replicate ((256 : Nat) - x_2) (0 : Int))))) ∧
      sm (some (Blk.fix (D.arr IntKind.u8 (256 : Nat) (gia x_1)))) ∧ sm (some (Blk.fix (D.arr IntKind.u8 (255 : Nat) (pwL x ++ List.replicate ((255 : Nat) - x) (0 : Int))))) ∧ True) ∧
      true = true) ∧
      ((↑(IntKind.i64.wrap ((gia x_1).getD (↑x_2 : Int).toNat (0 : Int))).toNat : Int) = IntKind.i64.wrap ((gia x_1).getD (↑x_2 : Int).toNat (0 : Int)) ∧
      (↑(↑x_3.snd : Int).toNat : Int) = (↑x_3.snd : Int) ∧ (IntKind.i64.wrap ((↑x_4.snd.snd : Int) + (1 : Int))).toNat ≤ (5 : Nat)) ∧
      (5 : Nat) - (IntKind.i64.wrap ((↑x_4.snd.snd : Int) + (1 : Int))).toNat < (5 : Nat) - x_4.snd.snd
     | false =>
      True ∧
      True ∧
      (2 : Int) ≠ (0 : Int) ∧
      True ∧
      (0 : Int) ≤ (↑x_3.snd : Int) ∧
      True ∧
      True ∧
      True ∧
      True ∧
      ((AV.d (D.val (Value.int IntKind.i64 (IntKind.i64.wrap ((↑x_3.snd : Int) + (1 : Int))))) = AV.d (D.val (Value.int IntKind.i64 (↑(IntKind.i64.wrap ((↑x_3.snd : Int) + (1 : Int))).toNat : Int))) ∧
      AV.d (D.val (Value.int IntKind.i64 (IntKind.i64.wrap ((↑(gax x_3.fst x_3.snd) : Int) + ishl IntKind.i64 ((↑(gan x_4.fst x_4.snd.fst x_4.snd.snd) : Int).tmod (2 : Int)) (↑x_3.snd : Int))))) =
      AV.d (D.val (Value.int IntKind.i64 (↑(gax (IntKind.i64.wrap ((gia x_1).getD (↑x_2 : Int).toNat (0 : Int))).toNat (IntKind.i64.wrap ((↑x_3.snd : Int) + (1 : Int))).toNat) : Int))) ∧
      True) ∧
      (sm
      (some
      (Blk.fix
      (D.arr IntKind.u8 (256 : Nat)
      (List.replicate (256 : Nat) (0 : Int))))) ∧
      sm (some (Blk.fix (D.arr IntKind.u8 (256 : Nat) (List.take x_2 boxL ++ List.replicate ((256 : Nat) - x_2) (0 : Int))))) ∧
      sm (some (Blk.fix (D.arr IntKind.u8 (256 : Nat) (gia x_1)))) ∧ sm (some (Blk.fix (D.arr IntKind.u8 (255 : Nat) (pwL x ++ List.replicate ((255 : Nat) - x) (0 : Int))))) ∧ True) ∧
      true = true) ∧
      ((↑(IntKind.i64.wrap ((gia x_1).getD (↑x_2 : Int).toNat (0 : Int))).toNat : Int) = IntKind.i64.wrap ((gia x_1).getD (↑x_2 : Int).toNat (0 : Int)) ∧ (IntKind.i64.wrap ((↑x_3.snd : Int) + (1 : Int))).toNat ≤ (8 : Nat)) ∧
      (8 : Nat) - (IntKind.i64.wrap ((↑x_3.snd : Int) + (1 : Int))).toNat < (8 : Nat) - x_3.snd
    | false =>
     True ∧
     True ∧
     True ∧
     ((0 : Int) ≤ (↑x_2 : Int) ∧ (↑x_2 : Int) < (↑(256 : Nat) : Int) ∧ (256 : Nat) = (256 : Nat) ∧ (1 : Nat) = (1 : Nat)) ∧
     (((↑x_2 : Int).toNat < (256 : Nat) ∧ ([] : List Nat) = [] ∧ true = true) ∧ (1 : Nat) ≠ (0 : Nat) ∧ (1 : Nat) = (1 : Nat) ∧ false = false) ∧
     True ∧
     True ∧
     ((AV.d (D.val (Value.int IntKind.i64 (IntKind.i64.wrap ((↑x_2 : Int) + (1 : Int))))) = AV.d (D.val (Value.int IntKind.i64 (↑(IntKind.i64.wrap ((↑x_2 : Int) + (1 : Int))).toNat : Int))) ∧ True) ∧
     (sm
     (some
     (Blk.fix
     (D.arr IntKind.u8 (256 : Nat)
     (List.replicate (256 : Nat) (0 : Int))))) ∧
     some (Blk.fix (D.arr IntKind.u8 (256 : Nat) ((List.take x_2 boxL ++ List.replicate ((256 : Nat) - x_2) (0 : Int)).set (↑x_2 : Int).toNat (IntKind.u8.wrap (↑(gax x_3.fst x_3.snd) : Int))))) =
     some (Blk.fix (D.arr IntKind.u8 (256 : Nat) (List.take (IntKind.i64.wrap ((↑x_2 : Int) + (1 : Int))).toNat boxL ++ List.replicate ((256 : Nat) - (IntKind.i64.wrap ((↑x_2 : Int) + (1 : Int))).toNat) (0 : Int)))) ∧
     sm (some (Blk.fix (D.arr IntKind.u8 (256 : Nat) (gia x_1)))) ∧ sm (some (Blk.fix (D.arr IntKind.u8 (255 : Nat) (pwL x ++ List.replicate ((255 : Nat) - x) (0 : Int))))) ∧ True) ∧
     true = true) ∧
     (IntKind.i64.wrap ((↑x_2 : Int) + (1 : Int))).toNat ≤ (256 : Nat) ∧ (256 : Nat) - (IntKind.i64.wrap ((↑x_2 : Int) + (1 : Int))).toNat < (256 : Nat) - x_2
   | false =>
    ((256 : Nat) ≠ (0 : Nat) ∧ (256 : Nat) = (256 : Nat) ∧ true = true) ∧
    (Sk.arr (256 : Nat) = Sk.arr (256 : Nat) ∧ (256 : Nat) ≠ (0 : Nat) ∧ (256 : Nat) = (256 : Nat) ∧ false = false) ∧ (((256 : Nat) ≠ (0 : Nat) ∧ (256 : Nat) = (256 : Nat) ∧ true = true) ∧ True) ∧ D.arr IntKind.u8 (256 : Nat) (List.take x_2 boxL ++ List.replicate ((256 : Nat) - x_2) (0 : Int)) = F) := by kernel_rfl
end Go.Proofs.Ytnadggcfdakpoaa
namespace Go.Proofs.Ytnadggcfdakpoaa
open Go Go.Vg
theorem kb8 : kb .u8 = 256 := rfl
theorem kbi : kb .i64 = 9223372036854775808 := rfl
theorem kbu : kb .u64 = 18446744073709551616 := rfl
theorem cst (n : Nat) : ((OfNat.ofNat n : Nat) : Int) = (OfNat.ofNat n : Int) := rfl
theorem iand1 (k : IntKind) {a : Nat} (h : a < kb k) : iand k (a : Int) 1 = ((a % 2 : Nat) : Int) := by
 have : 1 < kb k := by cases k <;> decide
 rw [show (1 : Int) = ((1 : Nat) : Int) from rfl, iandN k h this, Nat.and_one_is_mod]
theorem beq1 (a : Nat) : (((a % 2 : Nat) : Int) == (1 : Int)) = decide (a % 2 = 1) := by
 rcases Nat.mod_two_eq_zero_or_one a with h | h <;> rw [h] <;> rfl
theorem beqN (a b : Nat) : (((a : Nat) : Int) == ((b : Nat) : Int)) = decide (a = b) := by
 rw [Bool.eq_iff_iff, beq_iff_eq, decide_eq_true_iff]
 omega
theorem xt_int {a : Nat} (h : a < 256) : ixor IntKind.u8 (ishl IntKind.u8 (a : Int) 1) (IntKind.u8.wrap (ishr IntKind.u8 (a : Int) 7 * 27)) = ((xt a : Nat) : Int) := by
 have e3 : ishl .u8 (a : Int) 1 = ((a * 2 % 256 : Nat) : Int) := by
  rw [show (1 : Int) = ((1 : Nat) : Int) from rfl, ishlN .u8 (by decide), wN8]
 have e4 : ishr .u8 (a : Int) 7 = ((a / 128 : Nat) : Int) := by
  rw [show (7 : Int) = ((7 : Nat) : Int) from rfl, ishrN .u8 (by decide)]
 rw [e3, e4, show ((a / 128 : Nat) : Int) * 27 = ((a / 128 * 27 : Nat) : Int) by simp, wrapN .u8 (by rw [kb8]; omega), ixorN .u8 (by rw [kb8]; omega) (by rw [kb8]; omega)]
 rfl
set_option maxRecDepth 100000 in
theorem m130 : Meets Try.prog 130 sp130 := by
 refine meets_of_owed (C := c0) ⟨tab_ok, fun f s h => by cases h⟩ (by kernel_rfl) (by kernel_rfl : Try.prog.funcs[130]? = some Try.f130) (by kernel_rfl) (by kernel_rfl) (by kernel_rfl) _ ?_
 rintro _ ⟨a, b, rfl, ha, hb⟩
 refine ⟨fun _ => rfl, inv130 a b, ?_⟩
 show owed c0 (inv130 a b) Try.f130 [u8 a, u8 b] (u8 (gm a b))
 rw [vc130]
 simp (decide := true) only [eq_self, true_and, and_true, ne_eq, not_false_eq_true, Int.toNat_natCast, Nat.zero_xor]
 and_intros <;> try (first | assumption | omega | rfl | trivial)
 rintro ⟨x, y, o⟩ ⟨hx, hy, ho, hi⟩
 simp only at hx hy ho hi ⊢
 rw [xt_int hx, iand1 .u8 (by rw [kb8]; exact hy), beq1, ixorN .u8 (by rw [kb8]; exact ho) (by rw [kb8]; exact hx), show (1 : Int) = ((1 : Nat) : Int) from rfl, ishrN .u8 (by decide)]
 simp only [Int.toNat_natCast]
 rw [gm_step hy] at hi
 split
 ·rename_i h
  have h := of_decide_eq_true h
  have hxt := xt_lt hx
  have hxo := xor_lt8 ho hx
  split
  ·rename_i h2
   have h2 := of_decide_eq_true h2
   rw [h2, Nat.one_mul, ← Nat.xor_assoc] at hi
   and_intros <;> first | assumption | omega | rfl | trivial
  ·rename_i h2
   have h2 := of_decide_eq_false h2
   rw [show y % 2 = 0 by omega, Nat.zero_mul, Nat.zero_xor] at hi
   and_intros <;> first | assumption | omega | rfl | trivial
 ·rename_i h
  have h := of_decide_eq_false h
  obtain rfl : y = 0 := by omega
  have e : ∀ z, gm z 0 = 0 := gm_zero_r
  simp only [Nat.zero_div, Nat.zero_mod, Nat.zero_mul, Nat.zero_xor, e, Nat.xor_zero] at hi
  rw [hi]
theorem clm_lt {a : Nat} (b : Nat) (h : a < 256) : ∀ i, i ≤ 8 → clm a b i < 32768
 | 0, _ => by show 0 < 32768; decide
 | i + 1, hi => by
  have h1 := clm_lt b h i (by omega)
  have h2 : 2 ^ i ≤ 2 ^ 7 := Nat.pow_le_pow_right (by decide) (by omega)
  have h3 : a * 2 ^ i ≤ 255 * 2 ^ 7 := Nat.mul_le_mul (by omega) h2
  refine Nat.xor_lt_two_pow (n := 15) h1 ?_
  rcases Nat.mod_two_eq_zero_or_one (b / 2 ^ i) with h4 | h4 <;> rw [h4] <;> omega
set_option maxRecDepth 100000 in
theorem m81 : Meets Try.prog 81 sp130 := by
 refine meets_of_owed (C := c0) ⟨tab_ok, fun f s h => by cases h⟩ (by kernel_rfl) (by kernel_rfl : Try.prog.funcs[81]? = some Try.f81) (by kernel_rfl) (by kernel_rfl) (by kernel_rfl) _ ?_
 rintro _ ⟨a, b, rfl, ha, hb⟩
 refine ⟨fun _ => rfl, inv81 a b, ?_⟩
 show owed c0 (inv81 a b) Try.f81 [u8 a, u8 b] (u8 (gm a b))
 rw [vc81]
 simp (decide := true) only [eq_self, true_and, and_true, ne_eq, not_false_eq_true, Int.toNat_natCast]
 and_intros <;> try (first | assumption | omega | rfl | trivial)
 intro x hx
 have hc := clm_lt b ha
 have hcx := hc x hx
 split
 ·rename_i h
  have h := of_decide_eq_true h
  have hb2 : b / 2 ^ x < kb .u8 := Nat.lt_of_le_of_lt (Nat.div_le_self _ _) hb
  have h2 : 2 ^ x ≤ 2 ^ 7 := Nat.pow_le_pow_right (by decide) (by omega)
  have h3 : a * 2 ^ x ≤ 255 * 2 ^ 7 := Nat.mul_le_mul (by omega) h2
  have hcn := hc (x + 1) (by omega)
  rw [show ((x : Int) + 1) = ((x + 1 : Nat) : Int) by omega, wNi (n := x + 1) (by omega), wNi (n := a) (by omega), ishrN .u8 (by simp only [IntKind.bits]; omega), iand1 .u8 hb2, beq1, ishlN .i64 (by simp only [IntKind.bits]; omega), wNi (n := a * 2 ^ x) (by omega), ixorN .i64 (by rw [kbi]; omega) (by rw [kbi]; omega)]
  simp only [Int.toNat_natCast]
  split
  ·rename_i h4
   have h4 := of_decide_eq_true h4
   have e : clm a b (x + 1) = clm a b x ^^^ a * 2 ^ x := by rw [clm, h4, Nat.one_mul]
   rw [e]
   and_intros <;> first | assumption | omega | rfl | trivial
  ·rename_i h4
   have h4 := of_decide_eq_false h4
   have e : clm a b (x + 1) = clm a b x := by rw [clm, show b / 2 ^ x % 2 = 0 by omega, Nat.zero_mul, Nat.xor_zero]
   rw [e]
   and_intros <;> first | assumption | omega | rfl | trivial
 rename_i h
 have h := of_decide_eq_false h
 obtain rfl : x = 8 := by omega
 refine ⟨by and_intros <;> first | exact hcx | rfl | decide, ?_⟩
 rintro ⟨n, y⟩ ⟨hn, hy, hr⟩
 simp only at hn hy hr ⊢
 split
 ·rename_i h
  have h := of_decide_eq_true h
  obtain ⟨n, rfl⟩ : ∃ m, n = m + 1 := ⟨n - 1, by omega⟩
  have h2 : 2 ^ n ≤ 2 ^ 6 := Nat.pow_le_pow_right (by decide) (by omega)
  have h5 : y / 2 ^ (n + 8) < kb .i64 := Nat.lt_of_le_of_lt (Nat.div_le_self _ _) (by rw [kbi]; omega)
  rw [show ((n + 1 : Nat) : Int) + 7 = ((n + 8 : Nat) : Int) by omega, show ((n + 8 : Nat) : Int) - 8 = ((n : Nat) : Int) by omega, show ((n + 8 : Nat) : Int) - 1 = ((n + 7 : Nat) : Int) by omega, wNi (n := n) (by omega), wNi (n := n + 7) (by omega), show ((n + 7 : Nat) : Int) - 7 = ((n : Nat) : Int) by omega,
   ishrN .i64 (by simp only [IntKind.bits]; omega), iand1 .i64 h5, beq1, show (283 : Int) = ((283 : Nat) : Int) from rfl, ishlN .i64 (by simp only [IntKind.bits]; omega), wNi (n := 283 * 2 ^ n) (by omega), ixorN .i64 (by rw [kbi]; omega) (by rw [kbi]; omega)]
  simp only [Int.toNat_natCast]
  rw [red] at hr
  split
  ·rename_i h4
   have h4 := of_decide_eq_true h4
   rw [h4, Nat.one_mul] at hr
   have h6 : y ^^^ 283 * 2 ^ n < 32768 := Nat.xor_lt_two_pow (n := 15) hy (by omega)
   and_intros <;> first | assumption | omega | rfl | trivial
  ·rename_i h4
   have h4 := of_decide_eq_false h4
   rw [show y / 2 ^ (n + 8) % 2 = 0 by omega, Nat.zero_mul, Nat.xor_zero] at hr
   and_intros <;> first | assumption | omega | rfl | trivial
 ·rename_i h
  have h := of_decide_eq_false h
  obtain rfl : n = 0 := by omega
  rw [red] at hr
  rw [wN8, hr, gf_eq ha]
set_option maxRecDepth 100000 in
theorem m78 : Meets Try.prog 78 sp78 := by
 refine meets_of_owed (C := c78) ⟨tab_ok, lkS_ok ⟨m130, trivial⟩⟩ (by kernel_rfl) (by kernel_rfl : Try.prog.funcs[78]? = some Try.f78) (by kernel_rfl) (by kernel_rfl) (by kernel_rfl) _ ?_
 rintro _ ⟨a, n, rfl, ha, hn⟩
 refine ⟨fun _ => rfl, inv78 a n, ?_⟩
 show owed c78 (inv78 a n) Try.f78 [u8 a, u64n n] (u8 (gpw a n))
 rw [vc78]
 simp (decide := true) only [eq_self, true_and, and_true, ne_eq, not_false_eq_true, Int.toNat_natCast]
 refine ⟨⟨rfl, ha, hn, (gm_one (gpw_lt ha n)).1⟩, ?_⟩
 rintro ⟨x, y, o⟩ ⟨hx, hy, ho, hi⟩
 simp only at hx hy ho hi ⊢
 rw [iand1 .u64 (by rw [kbu]; exact hy), beq1, show (1 : Int) = ((1 : Nat) : Int) from rfl, ishrN .u64 (by decide)]
 simp only [Int.toNat_natCast]
 have hox : gm o x < 256 := gm_lt ho
 have hxx : gm x x < 256 := gm_lt hx
 split
 ·rename_i h
  have h := of_decide_eq_true h
  have hf := gpw_half hx y
  rw [hf] at hi
  split
  ·rename_i h2
   have h2 := of_decide_eq_true h2
   rw [h2] at hi
   have hi : gm o (gm x (gpw (gm x x) (y / 2))) = gpw a n := hi
   rw [← gm_assoc ho hx] at hi
   exact ⟨⟨o, x, rfl, ho, hx⟩, ⟨x, x, rfl, hx, hx⟩, by decide, ⟨hxx, by omega, hox, hi⟩, by omega⟩
  ·rename_i h2
   have h2 := of_decide_eq_false h2
   rw [show y % 2 = 0 by omega] at hi
   have hi : gm o (gpw (gm x x) (y / 2)) = gpw a n := hi
   exact ⟨⟨x, x, rfl, hx, hx⟩, by decide, ⟨hxx, by omega, ho, hi⟩, by omega⟩
 ·rename_i h
  have h := of_decide_eq_false h
  obtain rfl : y = 0 := by omega
  rw [gpw, (gm_one ho).2.1] at hi
  rw [hi]
theorem pow_loop {a n : Nat} (ha : a < 256) (hn : n < 18446744073709551616) (hp : a = 0 → n = 0) (x : Nat) (hx : x ≤ n % 255) :
  match decide ((x : Int) < (n : Int).tmod 255) with
  | true =>
   (∃ a_2 b, [u8 (gpw a x), u8 a] = [u8 a_2, u8 b] ∧ a_2 < 256 ∧ b < 256) ∧
    (AV.d (D.val (Value.int IntKind.u64 (IntKind.u64.wrap ((x : Int) + 1)))) = AV.d (D.val (Value.int IntKind.u64 (((IntKind.u64.wrap ((x : Int) + 1)).toNat : Nat) : Int))) ∧
     AV.d (D.val (Value.int IntKind.u8 ((gm (gpw a x) a : Nat) : Int))) = AV.d (D.val (Value.int IntKind.u8 ((gpw a (IntKind.u64.wrap ((x : Int) + 1)).toNat : Nat) : Int)))) ∧
     (IntKind.u64.wrap ((x : Int) + 1)).toNat ≤ n % 255 ∧ n % 255 - (IntKind.u64.wrap ((x : Int) + 1)).toNat < n % 255 - x
  | false => D.val (Value.int IntKind.u8 ((gpw a x : Nat) : Int)) = u8 (gpw a n) := by
 have e : (n : Int).tmod 255 = ((n % 255 : Nat) : Int) := tmodN n 255
 rw [e, show ((x : Int) + 1) = ((x + 1 : Nat) : Int) by omega, wrapN .u64 (n := x + 1) (by rw [kbu]; omega)]
 simp only [Int.toNat_natCast]
 split
 ·rename_i h
  have h := of_decide_eq_true h
  refine ⟨⟨_, _, rfl, gpw_lt ha x, ha⟩, ?_⟩
  and_intros <;> first | omega | rfl | trivial
 ·rename_i h
  have h := of_decide_eq_false h
  obtain rfl : x = n % 255 := by omega
  by_cases h0 : a = 0
  ·rw [hp h0]
  ·rw [gpw_mod ha h0]
set_option maxRecDepth 100000 in
theorem m131 : Meets Try.prog 131 sp131 := by
 refine meets_of_owed (C := c131) ⟨tab_ok, lkS_ok ⟨m78, trivial⟩⟩ (by kernel_rfl) (by kernel_rfl : Try.prog.funcs[131]? = some Try.f131) (by kernel_rfl) (by kernel_rfl) (by kernel_rfl) _ ?_
 rintro _ ⟨a, rfl, ha⟩
 refine ⟨fun _ => rfl, fun _ => none, ?_⟩
 show owed c131 (fun _ => none) Try.f131 [u8 a] (u8 (giv a))
 rw [vc131]
 exact ⟨trivial, trivial, ⟨a, 254, rfl, ha, by decide⟩, trivial, ⟨rfl, trivial⟩, rfl⟩
set_option maxRecDepth 100000 in
theorem m132 : Meets Try.prog 132 sp132 := by
 refine meets_of_owed (C := c0) ⟨tab_ok, fun f s h => by cases h⟩ (by kernel_rfl) (by kernel_rfl : Try.prog.funcs[132]? = some Try.f132) (by kernel_rfl) (by kernel_rfl) (by kernel_rfl) _ ?_
 rintro _ ⟨a, n, rfl, ha, hn⟩
 refine ⟨fun _ => rfl, fun _ => none, ?_⟩
 show owed c0 (fun _ => none) Try.f132 [u8 a, i64n n] (u8 (rl8 a n))
 rw [vc132]
 have e1 : iand IntKind.u64 (IntKind.u64.wrap (n : Int)) 7 = (n : Int) := by
  rw [wrapN .u64 (by rw [kbu]; omega), show (7 : Int) = ((7 : Nat) : Int) from rfl, iandN .u64 (by rw [kbu]; omega) (by decide)]
  have : n &&& 7 = n % 8 := Nat.and_two_pow_sub_one_eq_mod n 3
  rw [this, Nat.mod_eq_of_lt hn]
 rw [e1, show (8 : Int) - (n : Int) = ((8 - n : Nat) : Int) by omega, wrapN .u64 (n := 8 - n) (by rw [kbu]; omega), ishlN .u8 (by simp only [IntKind.bits]; omega), ishrN .u8 (by simp only [IntKind.bits]; omega), wN8]
 have h2 : a / 2 ^ (8 - n) ≤ a := Nat.div_le_self _ _
 rw [iorN .u8 (by rw [kb8]; omega) (by rw [kb8]; omega)]
 simp only [true_and, eq_self, and_true]
 exact ⟨by omega, by omega, rfl⟩
set_option maxRecDepth 100000 in
theorem m86 : Meets Try.prog 86 sp86 := by
 refine meets_of_owed (C := c86) ⟨tab_ok, lkS_ok ⟨m131, m132, trivial⟩⟩ (by kernel_rfl) (by kernel_rfl : Try.prog.funcs[86]? = some Try.f86) (by kernel_rfl) (by kernel_rfl) (by kernel_rfl) _ ?_
 rintro _ ⟨a, rfl, ha⟩
 refine ⟨fun _ => rfl, inv86 a, ?_⟩
 show owed c86 (inv86 a) Try.f86 [u8 a] (u8 (gbx a))
 rw [vc86]
 have hg := giv_lt ha
 simp (decide := true) only [eq_self, true_and, and_true, ne_eq, not_false_eq_true, Int.toNat_natCast]
 refine ⟨⟨a, rfl, ha⟩, ?_, ?_⟩
 ·rw [show (99 : Int) = ((99 : Nat) : Int) from rfl, ixorN .u8 (by decide) (by rw [kb8]; exact hg)]
  exact ⟨rfl, rfl⟩
 intro x hx
 rw [show ((x : Int) + 1 + 1) = ((x + 2 : Nat) : Int) by omega, wNi (n := x + 2) (by omega), show ((x + 2 : Nat) : Int) - 1 = ((x + 1 : Nat) : Int) by omega, show ((x : Int) + 1) = ((x + 1 : Nat) : Int) by omega,
  ixorN .u8 (by rw [kb8]; exact gsb_lt hg x) (by rw [kb8]; exact rl8_lt hg)]
 simp only [Int.toNat_natCast]
 split
 ·rename_i h
  have h := of_decide_eq_true h
  exact ⟨⟨_, _, rfl, hg, by omega⟩, ⟨rfl, rfl⟩, by omega, by omega⟩
 ·rename_i h
  have h := of_decide_eq_false h
  obtain rfl : x = 4 := by omega
  rw [gsb_eq ha]
set_option maxRecDepth 100000 in
theorem m95 : Meets Try.prog 95 sp95 := by
 refine meets_of_owed (C := c86) ⟨tab_ok, lkS_ok ⟨m131, m132, trivial⟩⟩ (by kernel_rfl) (by kernel_rfl : Try.prog.funcs[95]? = some Try.f95) (by kernel_rfl) (by kernel_rfl) (by kernel_rfl) _ ?_
 rintro _ ⟨a, rfl, ha⟩
 refine ⟨fun _ => rfl, fun _ => none, ?_⟩
 show owed c86 (fun _ => none) Try.f95 [u8 a] (u8 (gux a))
 rw [vc95]
 have h2 : a ^^^ 99 < 256 := xor_lt8 ha (by decide)
 have h3 := rl8_lt (n := 1) h2
 have h4 := rl8_lt (n := 3) h2
 have h5 := rl8_lt (n := 6) h2
 have h6 := xor_lt8 h3 h4
 rw [show (99 : Int) = ((99 : Nat) : Int) from rfl, ixorN .u8 (by rw [kb8]; exact ha) (by decide)]
 simp only [Int.toNat_natCast]
 rw [ixorN .u8 (by rw [kb8]; exact h3) (by rw [kb8]; exact h4), ixorN .u8 (by rw [kb8]; exact h6) (by rw [kb8]; exact h5)]
 simp only [Int.toNat_natCast, eq_self, true_and, and_true]
 exact ⟨⟨_, 1, rfl, h2, by decide⟩, ⟨_, 3, rfl, h2, by decide⟩, ⟨_, 6, rfl, h2, by decide⟩, ⟨_, rfl, xor_lt8 h6 h5⟩, rfl⟩
theorem gcl_len (l m : List Int) (i : Nat) : (gcl l m i).length = i := by simp [gcl]
theorem gcl_succ (l m : List Int) (i : Nat) : gcl l m (i + 1) = gcl l m i ++ [((gce l m i 4 : Nat) : Int)] := by
 unfold gcl
 rw [List.range_succ, List.map_append]
 rfl
theorem col_start (l m : List Int) {i : Nat} (h : i < 4) : gcl l m i ++ List.replicate (4 - i) 0 = gcl l m i ++ ((gce l m i 0 : Nat) : Int) :: List.replicate (3 - i) 0 := by
 rw [show 4 - i = (3 - i) + 1 by omega, List.replicate_succ]
 rfl
theorem col_next (l m : List Int) {i : Nat} (h : i < 4) : gcl l m i ++ ((gce l m i 4 : Nat) : Int) :: List.replicate (3 - i) 0 = gcl l m (i + 1) ++ List.replicate (4 - (i + 1)) 0 := by
 rw [gcl_succ, List.append_assoc, show 4 - (i + 1) = 3 - i by omega]
 rfl
theorem col_get (l m : List Int) (i : Nat) (e : Int) (r : List Int) : (gcl l m i ++ e :: r).getD i 0 = e := by
 rw [List.getD_eq_getElem?_getD, List.getElem?_append_right (by rw [gcl_len]; exact Nat.le_refl _), gcl_len, Nat.sub_self]
 rfl
theorem col_set (l m : List Int) (i : Nat) (e v : Int) (r : List Int) : (gcl l m i ++ e :: r).set i v = gcl l m i ++ v :: r := by
 rw [List.set_append_right _ _ (by rw [gcl_len]; exact Nat.le_refl _), gcl_len, Nat.sub_self, List.set_cons_zero]
theorem getD_mem {l : List Int} {n : Nat} (h : n < l.length) : l.getD n 0 ∈ l := by
 simp [List.getD_eq_getElem?_getD, h]
theorem okb_get {l : List Int} (h : okb l) {i : Nat} (hi : i < l.length) : ∃ n : Nat, l.getD i 0 = (n : Int) ∧ n < 256 := by
 have := h _ (getD_mem hi)
 exact ⟨(l.getD i 0).toNat, by omega, by omega⟩
theorem gce_lt {l m : List Int} (hm : okb m) (hm4 : m.length = 4) (i : Nat) : ∀ k, k ≤ 4 → gce l m i k < 256
 | 0, _ => by show 0 < 256; decide
 | k + 1, h => by
  obtain ⟨x, e, hx⟩ := okb_get hm (i := k) (by omega)
  rw [gce, e, Int.toNat_natCast]
  exact xor_lt8 (gce_lt hm hm4 i k (by omega)) (gm_lt hx)
set_option maxRecDepth 100000 in
theorem m133 : Meets Try.prog 133 sp133 := by
 refine meets_of_owed (C := c78) ⟨tab_ok, lkS_ok ⟨m130, trivial⟩⟩ (by kernel_rfl) (by kernel_rfl : Try.prog.funcs[133]? = some Try.f133) (by kernel_rfl) (by kernel_rfl) (by kernel_rfl) _ ?_
 rintro _ ⟨l, m, rfl, ⟨hl, hl4⟩, hm, hm4⟩
 refine ⟨fun _ => rfl, inv133 l m, ?_⟩
 show owed c78 (inv133 l m) Try.f133 [b4 l, b4 m] (b4 (gcl l m 4))
 rw [vc133]
 simp (decide := true) only [eq_self, true_and, and_true, ne_eq, not_false_eq_true, Int.toNat_natCast]
 refine ⟨⟨rfl, rfl⟩, ?_⟩
 intro x hx
 split
 ·rename_i h
  have h := of_decide_eq_true h
  refine ⟨⟨rfl, by rw [col_start l m (by omega)]⟩, ?_⟩
  rintro ⟨i, k⟩ ⟨hi, hk⟩
  simp only at hi hk ⊢
  obtain rfl : i = x := by omega
  rw [show ((k : Int) + 1) = ((k + 1 : Nat) : Int) by omega, wNi (n := k + 1) (by omega), show ((i : Int) + 1) = ((i + 1 : Nat) : Int) by omega, wNi (n := i + 1) (by omega),
   show ((i : Int) + (k : Int)) = ((i + k : Nat) : Int) by omega, wNi (n := i + k) (by omega), show ((i + k : Nat) : Int).tmod 4 = (((i + k) % 4 : Nat) : Int) from tmodN (i + k) 4]
  simp only [Int.toNat_natCast]
  split
  ·rename_i h2
   have h2 := of_decide_eq_true h2
   obtain ⟨y, ey, hy⟩ := okb_get hm (i := k) (by omega)
   obtain ⟨z, ez, hz⟩ := okb_get hl (i := (i + k) % 4) (by omega)
   have hg := gce_lt (l := l) hm hm4 i k (by omega)
   have e : gce l m i (k + 1) = gce l m i k ^^^ gm y z := by rw [gce, ey, ez, Int.toNat_natCast, Int.toNat_natCast]
   rw [ey, ez, col_get, Int.toNat_natCast, Int.toNat_natCast, ixorN .u8 (by rw [kb8]; exact hg) (by rw [kb8]; exact gm_lt hy), col_set, ← e]
   have hp : ∃ a b : Nat, [u8 y, u8 z] = [u8 a, u8 b] ∧ a < 256 ∧ b < 256 := ⟨y, z, rfl, hy, hz⟩
   and_intros <;> first | exact hp | omega | rfl | trivial
  ·rename_i h2
   have h2 := of_decide_eq_false h2
   obtain rfl : k = 4 := by omega
   rw [col_next l m (by omega)]
   and_intros <;> first | omega | rfl | trivial
 ·rename_i h
  have h := of_decide_eq_false h
  obtain rfl : x = 4 := by omega
  simp
set_option maxRecDepth 100000 in
theorem m134 : Meets Try.prog 134 sp133 := by
 refine meets_of_owed (C := c134) ⟨tab_ok, lkS_ok ⟨m81, trivial⟩⟩ (by kernel_rfl) (by kernel_rfl : Try.prog.funcs[134]? = some Try.f134) (by kernel_rfl) (by kernel_rfl) (by kernel_rfl) _ ?_
 rintro _ ⟨l, m, rfl, ⟨hl, hl4⟩, hm, hm4⟩
 refine ⟨fun _ => rfl, inv134 l m, ?_⟩
 show owed c134 (inv134 l m) Try.f134 [b4 l, b4 m] (b4 (gcl l m 4))
 rw [vc134]
 simp (decide := true) only [eq_self, true_and, and_true, ne_eq, not_false_eq_true, Int.toNat_natCast]
 refine ⟨⟨rfl, rfl⟩, ?_⟩
 intro x hx
 split
 ·rename_i h
  have h := of_decide_eq_true h
  refine ⟨⟨rfl, by rw [col_start l m (by omega)]⟩, ?_⟩
  rintro ⟨i, k⟩ ⟨hi, hk⟩
  simp only at hi hk ⊢
  obtain rfl : i = x := by omega
  rw [show ((k : Int) + 1) = ((k + 1 : Nat) : Int) by omega, wNi (n := k + 1) (by omega), show ((i : Int) + 1) = ((i + 1 : Nat) : Int) by omega, wNi (n := i + 1) (by omega),
   show ((i : Int) + (k : Int)) = ((i + k : Nat) : Int) by omega, wNi (n := i + k) (by omega), show ((i + k : Nat) : Int).tmod 4 = (((i + k) % 4 : Nat) : Int) from tmodN (i + k) 4]
  simp only [Int.toNat_natCast]
  split
  ·rename_i h2
   have h2 := of_decide_eq_true h2
   obtain ⟨y, ey, hy⟩ := okb_get hm (i := k) (by omega)
   obtain ⟨z, ez, hz⟩ := okb_get hl (i := (i + k) % 4) (by omega)
   have hg := gce_lt (l := l) hm hm4 i k (by omega)
   have e : gce l m i (k + 1) = gce l m i k ^^^ gm y z := by rw [gce, ey, ez, Int.toNat_natCast, Int.toNat_natCast]
   rw [ey, ez, col_get, Int.toNat_natCast, Int.toNat_natCast, ixorN .u8 (by rw [kb8]; exact hg) (by rw [kb8]; exact gm_lt hy), col_set, ← e]
   have hp : ∃ a b : Nat, [u8 y, u8 z] = [u8 a, u8 b] ∧ a < 256 ∧ b < 256 := ⟨y, z, rfl, hy, hz⟩
   and_intros <;> first | exact hp | omega | rfl | trivial
  ·rename_i h2
   have h2 := of_decide_eq_false h2
   obtain rfl : k = 4 := by omega
   rw [col_next l m (by omega)]
   and_intros <;> first | omega | rfl | trivial
 ·rename_i h
  have h := of_decide_eq_false h
  obtain rfl : x = 4 := by omega
  simp
set_option maxRecDepth 100000 in
theorem m88 : Meets Try.prog 88 sp88 := by
 refine meets_of_owed (C := c88) ⟨tab_ok, lkS_ok ⟨m133, trivial⟩⟩ (by kernel_rfl) (by kernel_rfl : Try.prog.funcs[88]? = some Try.f88) (by kernel_rfl) (by kernel_rfl) (by kernel_rfl) _ ?_
 rintro _ ⟨l, rfl, hl, hl4⟩
 refine ⟨fun _ => rfl, fun _ => none, ?_⟩
 show owed c88 (fun _ => none) Try.f88 [b4 l] (b4 (gcl l [2, 3, 1, 1] 4))
 rw [vc88]
 have hb : okb [2, 3, 1, 1] := by
  intro x hx
  simp at hx
  omega
 simp (decide := true) only [eq_self, true_and, and_true, ne_eq, not_false_eq_true, Int.toNat_natCast]
 exact ⟨l, _, rfl, ⟨hl, hl4⟩, hb, rfl⟩
set_option maxRecDepth 100000 in
theorem m94 : Meets Try.prog 94 sp94 := by
 refine meets_of_owed (C := c88) ⟨tab_ok, lkS_ok ⟨m133, trivial⟩⟩ (by kernel_rfl) (by kernel_rfl : Try.prog.funcs[94]? = some Try.f94) (by kernel_rfl) (by kernel_rfl) (by kernel_rfl) _ ?_
 rintro _ ⟨l, rfl, hl, hl4⟩
 refine ⟨fun _ => rfl, fun _ => none, ?_⟩
 show owed c88 (fun _ => none) Try.f94 [b4 l] (b4 (gcl l [14, 11, 13, 9] 4))
 rw [vc94]
 have hb : okb [14, 11, 13, 9] := by
  intro x hx
  simp at hx
  omega
 simp (decide := true) only [eq_self, true_and, and_true, ne_eq, not_false_eq_true, Int.toNat_natCast]
 exact ⟨l, _, rfl, ⟨hl, hl4⟩, hb, rfl⟩
set_option maxRecDepth 100000 in
theorem m80 : Meets Try.prog 80 sp80 := by
 refine meets_of_owed (C := c0) ⟨tab_ok, fun f s h => by cases h⟩ (by kernel_rfl) (by kernel_rfl : Try.prog.funcs[80]? = some Try.f80) (by kernel_rfl) (by kernel_rfl) (by kernel_rfl) _ ?_
 rintro _ ⟨l, rfl, hl, hl4⟩
 refine ⟨fun _ => rfl, inv80 l, ?_⟩
 show owed c0 (inv80 l) Try.f80 [b256 l] (b256 (gub l 256))
 rw [vc80]
 simp (decide := true) only [eq_self, true_and, and_true, ne_eq, not_false_eq_true, Int.toNat_natCast]
 refine ⟨⟨rfl, rfl⟩, ?_⟩
 intro x hx
 split
 ·rename_i h
  have h := of_decide_eq_true h
  obtain ⟨y, ey, hy⟩ := okb_get hl (i := x) (by omega)
  have e : gub l (x + 1) = (gub l x).set y ((x % 256 : Nat) : Int) := by rw [gub, ey, Int.toNat_natCast]
  rw [ey, wN8, show ((x : Int) + 1) = ((x + 1 : Nat) : Int) by omega, wNi (n := x + 1) (by omega)]
  simp only [Int.toNat_natCast]
  rw [e]
  and_intros <;> first | omega | rfl | trivial
 ·rename_i h
  have h := of_decide_eq_false h
  obtain rfl : x = 256 := by omega
  rfl
end Go.Proofs.Ytnadggcfdakpoaa
namespace Go.Proofs.Ytnadggcfdakpoaa
open Go Go.Vg
abbrev b16 (l : List Int) : D := .arr .u8 16 l
abbrev b240 (l : List Int) : D := .arr .u8 240 l
abbrev i64 (z : Int) : D := .val (.int .i64 z)
abbrev keyD (w : List Int) (r : Int) : D := .st [b240 w, i64 r]
abbrev cipD (W : List D) (bx ux : List Int) : D := .st [.slc 4 W, b256 bx, b256 ux]
def isB (n : Nat) (l : List Int) : Prop := okb l ∧ l.length = n
def sbI (x : Int) : Int := ((gbx x.toNat : Nat) : Int)
def suI (x : Int) : Int := ((gux x.toNat : Nat) : Int)
def selL (n : Nat) (p : Nat → Bool) (a b : List Int) : List Int := (List.range n).map fun i => if p i then a.getD i 0 else b.getD i 0
def s4L (l : List Int) : List Int := (List.range 4).map fun i => sbI (l.getD i 0)
def adK (w : List Int) (r : Nat) (b : List Int) : List Int := (List.range 16).map fun i => ixor .u8 (b.getD i 0) (w.getD (16 * r + i) 0)
def colL (b : List Int) (c : Nat) : List Int := [b.getD (4 * c) 0, b.getD (4 * c + 1) 0, b.getD (4 * c + 2) 0, b.getD (4 * c + 3) 0]
def eaL (y : List Int) (b : List Int) : List Int := (List.range 16).map fun i => (gcl (colL b (i / 4)) y 4).getD (i % 4) 0
def shL (b : List Int) : List Int := (List.range 16).map fun i => sbI (b.getD ((i + i % 4 * 4) % 16) 0)
def usL (b : List Int) : List Int := (List.range 16).map fun i => suI (b.getD ((i + 16 - 4 * (i % 4)) % 16) 0)
def trL (b : List Int) : List Int := (List.range 16).map fun i => b.getD (4 * (i % 4) + i / 4) 0
def rowL (g : List Int) (k : Nat) : List Int := [g.getD k 0, g.getD (4 + k) 0, g.getD (8 + k) 0, g.getD (12 + k) 0]
def adR (w : List Int) (r : Nat) (g : List Int) : List Int := (List.range 16).map fun i => ixor .u8 (g.getD i 0) (w.getD (16 * r + 4 * (i % 4) + i / 4) 0)
def mxR (y : List Int) (g : List Int) : List Int := (List.range 16).map fun i => (gcl (rowL g (i % 4)) y 4).getD (i / 4) 0
def flW : List D → List Int
 | [] => []
 | d :: ds => arrOf d ++ flW ds
def unR : D → D
 | .ref x => x
 | d => d
def kwL (d : D) : List Int := arrOf (fldOf (unR d) 0)
def krI (d : D) : Int := numOf (fldOf (unR d) 1)
def xsOf : D → List D
 | .slc _ xs => xs
 | _ => []
def cwL (d : D) : List Int := flW (xsOf (fldOf (unR d) 0))
def cnN (d : D) : Nat := (xsOf (fldOf (unR d) 0)).length
def fnL : D → List Int
 | .val (.func (.func 88) _ _) => [2, 3, 1, 1]
 | .clo 88 _ => [2, 3, 1, 1]
 | _ => [14, 11, 13, 9]
def okW (W : List D) : Prop := ∀ d ∈ W, ∃ l, d = b4 l ∧ isB 4 l
def zF (f : FuncId) : D := .val (.func (.func f) #[] #[])
def sp77 : Go.Vg.Spec := ⟨fun ds => ∃ l, ds = [b4 l] ∧ isB 4 l, fun ds => b4 (s4L (arrOf (ds.headD default))), true, [39]⟩
def sp85 : Go.Vg.Spec := ⟨fun ds => ∃ w r b n, ds = [.ref (keyD w r), b16 b, i64 ((n : Nat) : Int)] ∧ isB 240 w ∧ isB 16 b ∧ n < 15, fun ds => b16 (adK (kwL (ds.headD default)) (numOf (ds.getD 2 default)).toNat (arrOf (ds.getD 1 default))), true, [166, 38, 3]⟩
def sp87 : Go.Vg.Spec := ⟨fun ds => ∃ b f, ds = [b16 b, zF f] ∧ isB 16 b ∧ (f = 88 ∨ f = 94), fun ds => b16 (eaL (fnL (ds.getD 1 default)) (arrOf (ds.headD default))), true, [38, 115]⟩
def sp90 : Go.Vg.Spec := ⟨fun ds => ∃ b, ds = [b16 b] ∧ isB 16 b, fun ds => b16 (trL (arrOf (ds.headD default))), true, [38]⟩
def sp93 : Go.Vg.Spec := ⟨fun ds => ∃ b, ds = [b16 b] ∧ isB 16 b, fun ds => b16 (trL (arrOf (ds.headD default))), true, [125]⟩
def sp91 : Go.Vg.Spec := ⟨fun ds => ∃ W bx ux, ds = [.ref (cipD W bx ux)] ∧ 4 ≤ W.length ∧ W.length ≤ 60, fun ds => i64 ((cnN (ds.headD default) / 4 - 1 : Nat) : Int), true, [45]⟩
def sp89 : Go.Vg.Spec := ⟨fun ds => ∃ W bx ux g n, ds = [.ref (cipD W bx ux), b16 g, i64 ((n : Nat) : Int)] ∧ okW W ∧ isB 16 g ∧ 4 * n + 4 ≤ W.length ∧ n < 15, fun ds => b16 (adR (cwL (ds.headD default)) (numOf (ds.getD 2 default)).toNat (arrOf (ds.getD 1 default))), true, [45, 125, 3]⟩
def sp92 : Go.Vg.Spec := ⟨fun ds => ∃ g y, ds = [b16 g, b4 y] ∧ isB 16 g ∧ isB 4 y, fun ds => b16 (mxR (arrOf (ds.getD 1 default)) (arrOf (ds.headD default))), true, [125, 39]⟩
def z16 : List Int := List.replicate 16 0
def c77 : Ctx := ⟨tab, lkS [(86, sp86)], [], []⟩
def c87 : Ctx := ⟨tab, lkS [(88, sp88), (94, sp94)], [], []⟩
def c92 : Ctx := ⟨tab, lkS [(134, sp133)], [], []⟩
def inv77 (l : List Int) : Nat → Option Inv
 | 2 => some ⟨Nat, fun i => [(4, .d (i64n i))], fun i => [(1, .fix (b4 (selL 4 (fun j => decide (j < i)) (s4L l) l)))], fun s => (slotN s 4).toNat, fun _ i => i ≤ 4, fun i => 4 - i⟩
 | _ => none
def inv85 (w : List Int) (n : Nat) (b : List Int) : Nat → Option Inv
 | 2 => some ⟨Nat, fun i => [(8, .d (i64n i))], fun i => [(4, .fix (b16 (selL 16 (fun j => decide (j < i)) (adK w n b) b)))], fun s => (slotN s 8).toNat, fun _ i => i ≤ 16, fun i => 16 - i⟩
 | _ => none
def inv87 (y b : List Int) : Nat → Option Inv
 | 2 => some ⟨Nat, fun i => [(5, .d (i64n (4 * i)))], fun i => [(2, .fix (b16 (selL 16 (fun j => decide (j < 4 * i)) (eaL y b) b)))], fun s => (slotN s 5).toNat / 4, fun _ i => i ≤ 4, fun i => 4 - i⟩
 | _ => none
def inv90 (b : List Int) : Nat → Option Inv
 | 3 => some ⟨Nat, fun i => [(7, .d (i64n i))], fun i => [(3, .fix (b16 (selL 16 (fun j => decide (4 * (j % 4) + j / 4 < i)) (trL b) z16)))], fun s => (slotN s 7).toNat, fun _ i => i ≤ 16, fun i => 16 - i⟩
 | _ => none
def inv93 (b : List Int) : Nat → Option Inv
 | 3 => some ⟨Nat, fun i => [(5, .d (i64n i))], fun i => [(3, .fix (b16 (selL 16 (fun j => decide (j < i)) (trL b) z16)))], fun s => (slotN s 5).toNat, fun _ i => i ≤ 16, fun i => 16 - i⟩
 | _ => none
def inv89 (w : List Int) (n : Nat) (g : List Int) : Nat → Option Inv
 | 2 => some ⟨Nat, fun r => [(9, .d (i64n r))], fun r => [(4, .fix (b16 (selL 16 (fun j => decide (j < 4 * r)) (adR w n g) g)))], fun s => (slotN s 9).toNat, fun _ r => r ≤ 4, fun r => 4 - r⟩
 | 5 => some ⟨Nat × Nat, fun x => [(12, .d (i64n x.2))], fun x => [(4, .fix (b16 (selL 16 (fun j => decide (j < 4 * x.1 + x.2)) (adR w n g) g)))], fun s => ((slotN s 7).toNat, (slotN s 12).toNat), fun s x => (x.1 : Int) = slotN s 7 ∧ x.2 ≤ 4, fun x => 4 - x.2⟩
 | _ => none
def inv92 (y g : List Int) : Nat → Option Inv
 | 2 => some ⟨Nat, fun k => [(8, .d (i64n k))], fun k => [(2, .fix (b16 (selL 16 (fun j => decide (j % 4 < k)) (mxR y g) g)))], fun s => (slotN s 8).toNat, fun _ k => k ≤ 4, fun k => 4 - k⟩
 | 6 => some ⟨Nat × Nat, fun x => [(30, .d (i64n x.2))], fun x => [(2, .fix (b16 (selL 16 (fun j => decide (j % 4 < x.1) || (decide (j % 4 = x.1) && decide (j / 4 < x.2))) (mxR y g) g)))], fun s => ((slotN s 5).toNat, (slotN s 30).toNat), fun s x => (x.1 : Int) = slotN s 5 ∧ x.2 ≤ 4, fun x => 4 - x.2⟩
 | _ => none
--KEEP List.replicate HXor.hXor Go.Vg.eqB Go.Vg.opq boxP Go.Vg.gm Go.Vg.gpw Go.Vg.giv Go.Vg.rl8 Go.Vg.gbx Go.Vg.gux Go.Vg.gcl Go.Vg.gce Go.Vg.gub Go.Vg.gia Go.Vg.boxL Go.Vg.gax Go.Vg.gan Go.Vg.gsb Go.Vg.clm Go.Vg.red pwL okb sbI suI selL s4L adK colL eaL shL usL trL rowL adR mxR flW okW isB z16
set_option maxRecDepth 100000 in
theorem vc77  (l : List Int) (F : D)  :
    (owed c77 (inv77 l) Try.f77 [b4 l] F) = (
 (True ∧ false = false) ∧
 (True ∧ (4 : Nat) ≠ (0 : Nat)) ∧
 True ∧
 (((AV.d (D.val (Value.int IntKind.i64 (0 : Int))) = AV.d (D.val (Value.int IntKind.i64 (↑(Int.toNat (0 : Int)) : Int))) ∧ True) ∧
 (some (Blk.fix (D.arr IntKind.u8 (4 : Nat) l)) = some (Blk.fix (D.arr IntKind.u8 (4 : Nat) (selL (4 : Nat) (fun (j : Nat) => decide (j < Int.toNat (0 : Int))) (s4L l) l))) ∧ sm (some (Blk.fix (D.arr IntKind.u8 (4 : Nat) [(0 : Int), (0 : Int), (0 : Int), (0 : Int)]))) ∧ True) ∧ true = true) ∧
 Int.toNat (0 : Int) ≤ (4 : Nat)) ∧
 ∀ (x : Nat),
 x ≤ (4 : Nat) →
 true = true ∧
 True ∧
 match decide ((↑x : Int) < (4 : Int)) with
 | true =>
  True ∧
  True ∧
  True ∧
  True ∧
  ((0 : Int) ≤ (↑x : Int) ∧ (↑x : Int) < (↑(4 : Nat) : Int) ∧ (4 : Nat) = (4 : Nat) ∧ (1 : Nat) = (1 : Nat)) ∧
  ((1 : Nat) ≠ (0 : Nat) ∧ (1 : Nat) = (1 : Nat) ∧ false = false) ∧
  (∃ (a : Nat), [D.val (Value.int IntKind.u8 ((selL (4 : Nat) (fun (j : Nat) => decide (j < x)) (s4L l) l).getD (↑x : Int).toNat (0 : Int)))] = [D.val (Value.int IntKind.u8 (↑a : Int))] ∧ a < (256 : Nat)) ∧
  ((0 : Int) ≤ (↑x : Int) ∧ (↑x : Int) < (↑(4 : Nat) : Int) ∧ (4 : Nat) = (4 : Nat) ∧ (1 : Nat) = (1 : Nat)) ∧
  (((↑x : Int).toNat < (4 : Nat) ∧ ([] : List Nat) = [] ∧ true = true) ∧ (1 : Nat) ≠ (0 : Nat) ∧ (1 : Nat) = (1 : Nat) ∧ false = false) ∧
  True ∧
  True ∧
  ((AV.d (D.val (Value.int IntKind.i64 (IntKind.i64.wrap ((↑x : Int) + (1 : Int))))) = AV.d (D.val (Value.int IntKind.i64 (↑(IntKind.i64.wrap ((↑x : Int) + (1 : Int))).toNat : Int))) ∧ True) ∧
  (some (Blk.fix (D.arr IntKind.u8 (4 : Nat) ((selL (4 : Nat) (fun (j : Nat) => decide (j < x)) (s4L l) l).set (↑x : Int).toNat (↑(gbx ((selL (4 : Nat) (fun (j : Nat) => decide (j < x)) (s4L l) l).getD (↑x : Int).toNat (0 : Int)).toNat) : Int)))) =
  some (Blk.fix (D.arr IntKind.u8 (4 : Nat) (selL (4 : Nat) (fun (j : Nat) => decide (j < (IntKind.i64.wrap ((↑x : Int) + (1 : Int))).toNat)) (s4L l) l))) ∧
  sm (some (Blk.fix (D.arr IntKind.u8 (4 : Nat) [(0 : Int), (0 : Int), (0 : Int), (0 : Int)]))) ∧ True) ∧
  true = true) ∧
  (IntKind.i64.wrap ((↑x : Int) + (1 : Int))).toNat ≤ (4 : Nat) ∧ (4 : Nat) - (IntKind.i64.wrap ((↑x : Int) + (1 : Int))).toNat < (4 : Nat) - x
 | false => ((4 : Nat) ≠ (0 : Nat) ∧ (4 : Nat) = (4 : Nat) ∧ true = true) ∧ (Sk.arr (4 : Nat) = Sk.arr (4 : Nat) ∧ (4 : Nat) ≠ (0 : Nat) ∧ (4 : Nat) = (4 : Nat) ∧ false = false) ∧ (((4 : Nat) ≠ (0 : Nat) ∧ (4 : Nat) = (4 : Nat) ∧ true = true) ∧ True) ∧ D.arr IntKind.u8 (4 : Nat) (selL (4 : Nat) (fun (j : Nat) => decide (j < x)) (s4L l) l) = F) := by kernel_rfl
set_option maxRecDepth 100000 in
theorem vc85  (w : List Int) (r : Int) (b : List Int) (n : Nat) (F : D)  :
    (owed c0 (inv85 w n b) Try.f85 [.ref (keyD w r), b16 b, i64 ((n : Nat) : Int)] F) = (
 (True ∧ false = false) ∧
 (True ∧ (16 : Nat) ≠ (0 : Nat)) ∧
 True ∧
 (((AV.d (D.val (Value.int IntKind.i64 (0 : Int))) = AV.d (D.val (Value.int IntKind.i64 (↑(Int.toNat (0 : Int)) : Int))) ∧ True) ∧
 (some (Blk.fix (D.arr IntKind.u8 (16 : Nat) b)) = some (Blk.fix (D.arr IntKind.u8 (16 : Nat) (selL (16 : Nat) (fun (j : Nat) => decide (j < Int.toNat (0 : Int))) (adK w n b) b))) ∧
 sm (some (Blk.fix (D.arr IntKind.u8 (16 : Nat) [(0 : Int), (0 : Int), (0 : Int), (0 : Int), (0 : Int), (0 : Int), (0 : Int), (0 : Int), (0 : Int), (0 : Int), (0 : Int), (0 : Int), (0 : Int), (0 : Int), (0 : Int), (0 : Int)]))) ∧ True) ∧
 true = true) ∧
 Int.toNat (0 : Int) ≤ (16 : Nat)) ∧
 ∀ (x : Nat),
 x ≤ (16 : Nat) →
 true = true ∧
 True ∧
 match decide ((↑x : Int) < (16 : Int)) with
 | true =>
  True ∧
  True ∧
  True ∧
  ((0 : Int) ≤ (↑x : Int) ∧ (↑x : Int) < (↑(16 : Nat) : Int) ∧ (16 : Nat) = (16 : Nat) ∧ (1 : Nat) = (1 : Nat)) ∧
  ((1 : Nat) ≠ (0 : Nat) ∧ (1 : Nat) = (1 : Nat) ∧ false = false) ∧
  True ∧
  True ∧
  True ∧
  True ∧
  (4 : Int) ≠ (0 : Int) ∧
  True ∧
  True ∧
  (4 : Int) ≠ (0 : Int) ∧
  True ∧
  (Sk.st [Sk.arr (240 : Nat), Sk.one] = Sk.st [Sk.arr (240 : Nat), Sk.one] ∧ (0 : Nat) < (2 : Nat)) ∧
  ((0 : Int) ≤ IntKind.i64.wrap (IntKind.i64.wrap ((4 : Int) * (↑n : Int)) + IntKind.i64.wrap ((↑x : Int).tdiv (4 : Int))) ∧ IntKind.i64.wrap (IntKind.i64.wrap ((4 : Int) * (↑n : Int)) + IntKind.i64.wrap ((↑x : Int).tdiv (4 : Int))) < (↑(60 : Nat) : Int) ∧ (240 : Nat) = (240 : Nat) ∧ (4 : Nat) = (4 : Nat) ∧ (4 : Nat) ≠ (0 : Nat)) ∧
  ((0 : Int) ≤ (↑x : Int).tmod (4 : Int) ∧ (↑x : Int).tmod (4 : Int) < (↑(4 : Nat) : Int) ∧ (4 : Nat) = (4 : Nat) ∧ (1 : Nat) = (1 : Nat)) ∧
  ((1 : Nat) ≠ (0 : Nat) ∧ (1 : Nat) = (1 : Nat) ∧ false = false) ∧
  True ∧
  ((0 : Int) ≤ (↑x : Int) ∧ (↑x : Int) < (↑(16 : Nat) : Int) ∧ (16 : Nat) = (16 : Nat) ∧ (1 : Nat) = (1 : Nat)) ∧
  (((↑x : Int).toNat < (16 : Nat) ∧ ([] : List Nat) = [] ∧ true = true) ∧ (1 : Nat) ≠ (0 : Nat) ∧ (1 : Nat) = (1 : Nat) ∧ false = false) ∧
  True ∧
  True ∧
  ((AV.d (D.val (Value.int IntKind.i64 (IntKind.i64.wrap ((↑x : Int) + (1 : Int))))) = AV.d (D.val (Value.int IntKind.i64 (↑(IntKind.i64.wrap ((↑x : Int) + (1 : Int))).toNat : Int))) ∧ True) ∧
  (some
  (Blk.fix
  (D.arr IntKind.u8 (16 : Nat)
  ((selL (16 : Nat) (fun (j : Nat) => decide (j < x)) (adK w n b) b).set (↑x : Int).toNat
  (ixor IntKind.u8 ((selL (16 : Nat) (fun (j : Nat) => decide (j < x)) (adK w n b) b).getD (↑x : Int).toNat (0 : Int))
  ((List.take (4 : Nat) (List.drop ((IntKind.i64.wrap (IntKind.i64.wrap ((4 : Int) * (↑n : Int)) + IntKind.i64.wrap ((↑x : Int).tdiv (4 : Int)))).toNat * (4 : Nat)) w)).getD ((↑x : Int).tmod (4 : Int)).toNat (0 : Int)))))) =
  some (Blk.fix (D.arr IntKind.u8 (16 : Nat) (selL (16 : Nat) (fun (j : Nat) => decide (j < (IntKind.i64.wrap ((↑x : Int) + (1 : Int))).toNat)) (adK w n b) b))) ∧
  sm (some (Blk.fix (D.arr IntKind.u8 (16 : Nat) [(0 : Int), (0 : Int), (0 : Int), (0 : Int), (0 : Int), (0 : Int), (0 : Int), (0 : Int), (0 : Int), (0 : Int), (0 : Int), (0 : Int), (0 : Int), (0 : Int), (0 : Int), (0 : Int)]))) ∧ True) ∧
  true = true) ∧
  (IntKind.i64.wrap ((↑x : Int) + (1 : Int))).toNat ≤ (16 : Nat) ∧ (16 : Nat) - (IntKind.i64.wrap ((↑x : Int) + (1 : Int))).toNat < (16 : Nat) - x
 | false => ((16 : Nat) ≠ (0 : Nat) ∧ (16 : Nat) = (16 : Nat) ∧ true = true) ∧ (Sk.arr (16 : Nat) = Sk.arr (16 : Nat) ∧ (16 : Nat) ≠ (0 : Nat) ∧ (16 : Nat) = (16 : Nat) ∧ false = false) ∧ (((16 : Nat) ≠ (0 : Nat) ∧ (16 : Nat) = (16 : Nat) ∧ true = true) ∧ True) ∧ D.arr IntKind.u8 (16 : Nat) (selL (16 : Nat) (fun (j : Nat) => decide (j < x)) (adK w n b) b) = F) := by kernel_rfl
set_option maxRecDepth 100000 in
theorem vc87a  (b : List Int) (F : D)  :
    (owed c87 (inv87 [2, 3, 1, 1] b) Try.f87 [b16 b, zF 88] F) = (
 (True ∧ false = false) ∧
 (True ∧ (16 : Nat) ≠ (0 : Nat)) ∧
 True ∧
 (((AV.d (D.val (Value.int IntKind.i64 (0 : Int))) = AV.d (D.val (Value.int IntKind.i64 (↑(0 : Nat) : Int))) ∧ True) ∧
 (some (Blk.fix (D.arr IntKind.u8 (16 : Nat) b)) = some (Blk.fix (D.arr IntKind.u8 (16 : Nat) (selL (16 : Nat) (fun (j : Nat) => decide (j < (0 : Nat))) (eaL [(2 : Int), (3 : Int), (1 : Int), (1 : Int)] b) b))) ∧
 sm (some (Blk.fix (D.arr IntKind.u8 (16 : Nat) [(0 : Int), (0 : Int), (0 : Int), (0 : Int), (0 : Int), (0 : Int), (0 : Int), (0 : Int), (0 : Int), (0 : Int), (0 : Int), (0 : Int), (0 : Int), (0 : Int), (0 : Int), (0 : Int)]))) ∧ True) ∧
 true = true) ∧
 (0 / 4 : Nat) ≤ (4 : Nat)) ∧
 ∀ (x : Nat),
 x ≤ (4 : Nat) →
 true = true ∧
 True ∧
 True ∧
 match decide ((↑((4 : Nat) * x) : Int) < (16 : Int)) with
 | true =>
  True ∧
  True ∧
  ((0 : Int) ≤ (↑((4 : Nat) * x) : Int) ∧ (↑((4 : Nat) * x) : Int) < (↑(16 : Nat) : Int) ∧ (16 : Nat) = (16 : Nat) ∧ (1 : Nat) = (1 : Nat)) ∧
  ((1 : Nat) ≠ (0 : Nat) ∧ (1 : Nat) = (1 : Nat) ∧ false = false) ∧
  True ∧
  True ∧
  ((0 : Int) ≤ IntKind.i64.wrap ((↑((4 : Nat) * x) : Int) + (1 : Int)) ∧ IntKind.i64.wrap ((↑((4 : Nat) * x) : Int) + (1 : Int)) < (↑(16 : Nat) : Int) ∧ (16 : Nat) = (16 : Nat) ∧ (1 : Nat) = (1 : Nat)) ∧
  ((1 : Nat) ≠ (0 : Nat) ∧ (1 : Nat) = (1 : Nat) ∧ false = false) ∧
  True ∧
  True ∧
  ((0 : Int) ≤ IntKind.i64.wrap ((↑((4 : Nat) * x) : Int) + (2 : Int)) ∧ IntKind.i64.wrap ((↑((4 : Nat) * x) : Int) + (2 : Int)) < (↑(16 : Nat) : Int) ∧ (16 : Nat) = (16 : Nat) ∧ (1 : Nat) = (1 : Nat)) ∧
  ((1 : Nat) ≠ (0 : Nat) ∧ (1 : Nat) = (1 : Nat) ∧ false = false) ∧
  True ∧
  True ∧
  ((0 : Int) ≤ IntKind.i64.wrap ((↑((4 : Nat) * x) : Int) + (3 : Int)) ∧ IntKind.i64.wrap ((↑((4 : Nat) * x) : Int) + (3 : Int)) < (↑(16 : Nat) : Int) ∧ (16 : Nat) = (16 : Nat) ∧ (1 : Nat) = (1 : Nat)) ∧
  ((1 : Nat) ≠ (0 : Nat) ∧ (1 : Nat) = (1 : Nat) ∧ false = false) ∧
  ((1 : Nat) = (1 : Nat) ∧ false = false ∧ ((0 : Nat) < (4 : Nat) ∧ ([] : List Nat) = [] ∧ true = true) ∧ false = false ∧ ((1 : Nat) < (4 : Nat) ∧ ([] : List Nat) = [] ∧ true = true) ∧ false = false ∧ ((2 : Nat) < (4 : Nat) ∧ ([] : List Nat) = [] ∧ true = true) ∧ false = false ∧ ((3 : Nat) < (4 : Nat) ∧ ([] : List Nat) = [] ∧ true = true) ∧ True) ∧
  (∃ (l : List Int),
  [D.arr IntKind.u8 (4 : Nat)
  [(selL (16 : Nat) (fun (j : Nat) => decide (j < (4 : Nat) * x)) (eaL [(2 : Int), (3 : Int), (1 : Int), (1 : Int)] b) b).getD (↑((4 : Nat) * x) : Int).toNat (0 : Int),
  (selL (16 : Nat) (fun (j : Nat) => decide (j < (4 : Nat) * x)) (eaL [(2 : Int), (3 : Int), (1 : Int), (1 : Int)] b) b).getD (IntKind.i64.wrap ((↑((4 : Nat) * x) : Int) + (1 : Int))).toNat (0 : Int),
  (selL (16 : Nat) (fun (j : Nat) => decide (j < (4 : Nat) * x)) (eaL [(2 : Int), (3 : Int), (1 : Int), (1 : Int)] b) b).getD (IntKind.i64.wrap ((↑((4 : Nat) * x) : Int) + (2 : Int))).toNat (0 : Int),
  (selL (16 : Nat) (fun (j : Nat) => decide (j < (4 : Nat) * x)) (eaL [(2 : Int), (3 : Int), (1 : Int), (1 : Int)] b) b).getD (IntKind.i64.wrap ((↑((4 : Nat) * x) : Int) + (3 : Int))).toNat (0 : Int)]] =
  [D.arr IntKind.u8 (4 : Nat) l] ∧
  okb l ∧ l.length = (4 : Nat)) ∧
  (True ∧ (4 : Nat) ≠ (0 : Nat)) ∧
  (Sk.arr (4 : Nat) = Sk.arr (4 : Nat) ∧ (4 : Nat) ≠ (0 : Nat) ∧ (4 : Nat) = (4 : Nat) ∧ false = false) ∧
  True ∧
  ((0 : Int) ≤ (↑((4 : Nat) * x) : Int) ∧ (↑((4 : Nat) * x) : Int) ≤ (↑(16 : Nat) : Int) ∧ (↑(16 : Nat) : Int) ≤ (↑(16 : Nat) : Int) ∧ (16 : Nat) = (16 : Nat) ∧ (1 : Nat) = (1 : Nat)) ∧
  ((0 : Int) ≤ (0 : Int) ∧ (0 : Int) ≤ (↑(4 : Nat) : Int) ∧ (↑(4 : Nat) : Int) ≤ (↑(4 : Nat) : Int) ∧ (4 : Nat) = (4 : Nat) ∧ (1 : Nat) = (1 : Nat)) ∧
  (IntKind.u8 = IntKind.u8 ∧ (1 : Nat) = (1 : Nat)) ∧
  True ∧
  True ∧
  True ∧
  ((AV.d (D.val (Value.int IntKind.i64 (IntKind.i64.wrap ((↑((4 : Nat) * x) : Int) + (4 : Int))))) = AV.d (D.val (Value.int IntKind.i64 (↑((4 : Nat) * ((IntKind.i64.wrap ((↑((4 : Nat) * x) : Int) + (4 : Int))).toNat / (4 : Nat))) : Int))) ∧ True) ∧
  (some
  (Blk.fix
  (D.arr IntKind.u8 (16 : Nat)
  (List.take (↑((4 : Nat) * x) : Int).toNat (selL (16 : Nat) (fun (j : Nat) => decide (j < (4 : Nat) * x)) (eaL [(2 : Int), (3 : Int), (1 : Int), (1 : Int)] b) b) ++
  List.take
  ((List.take ((↑(4 : Nat) : Int).toNat - (0 : Nat))
  (List.drop (0 : Nat)
  (gcl
  [(selL (16 : Nat) (fun (j : Nat) => decide (j < (4 : Nat) * x)) (eaL [(2 : Int), (3 : Int), (1 : Int), (1 : Int)] b) b).getD (↑((4 : Nat) * x) : Int).toNat (0 : Int),
  (selL (16 : Nat) (fun (j : Nat) => decide (j < (4 : Nat) * x)) (eaL [(2 : Int), (3 : Int), (1 : Int), (1 : Int)] b) b).getD (IntKind.i64.wrap ((↑((4 : Nat) * x) : Int) + (1 : Int))).toNat (0 : Int),
  (selL (16 : Nat) (fun (j : Nat) => decide (j < (4 : Nat) * x)) (eaL [(2 : Int), (3 : Int), (1 : Int), (1 : Int)] b) b).getD (IntKind.i64.wrap ((↑((4 : Nat) * x) : Int) + (2 : Int))).toNat (0 : Int),
  (selL (16 : Nat) (fun (j : Nat) => decide (j < (4 : Nat) * x)) (eaL [(2 : Int), (3 : Int), (1 : Int), (1 : Int)] b) b).getD (IntKind.i64.wrap ((↑((4 : Nat) * x) : Int) + (3 : Int))).toNat (0 : Int)]
  [(2 : Int), (3 : Int), (1 : Int), (1 : Int)] (4 : Nat)))).length.min
  ((↑(16 : Nat) : Int).toNat - (↑((4 : Nat) * x) : Int).toNat))
  (List.take ((↑(4 : Nat) : Int).toNat - (0 : Nat))
  (List.drop (0 : Nat)
  (gcl
  [(selL (16 : Nat) (fun (j : Nat) => decide (j < (4 : Nat) * x)) (eaL [(2 : Int), (3 : Int), (1 : Int), (1 : Int)] b) b).getD (↑((4 : Nat) * x) : Int).toNat (0 : Int),
  (selL (16 : Nat) (fun (j : Nat) => decide (j < (4 : Nat) * x)) (eaL [(2 : Int), (3 : Int), (1 : Int), (1 : Int)] b) b).getD (IntKind.i64.wrap ((↑((4 : Nat) * x) : Int) + (1 : Int))).toNat (0 : Int),
  (selL (16 : Nat) (fun (j : Nat) => decide (j < (4 : Nat) * x)) (eaL [(2 : Int), (3 : Int), (1 : Int), (1 : Int)] b) b).getD (IntKind.i64.wrap ((↑((4 : Nat) * x) : Int) + (2 : Int))).toNat (0 : Int),
  (selL (16 : Nat) (fun (j : Nat) => decide (j < (4 : Nat) * x)) (eaL [(2 : Int), (3 : Int), (1 : Int), (1 : Int)] b) b).getD (IntKind.i64.wrap ((↑((4 : Nat) * x) : Int) + (3 : Int))).toNat (0 : Int)]
  [(2 : Int), (3 : Int), (1 : Int), (1 : Int)] (4 : Nat)))) ++
  List.drop
  ((↑((4 : Nat) * x) : Int).toNat +
  (List.take ((↑(4 : Nat) : Int).toNat - (0 : Nat))
  (List.drop (0 : Nat)
  (gcl
  [(selL (16 : Nat) (fun (j : Nat) => decide (j < (4 : Nat) * x)) (eaL [(2 : Int), (3 : Int), (1 : Int), (1 : Int)] b) b).getD (↑((4 : Nat) * x) : Int).toNat (0 : Int),
  (selL (16 : Nat) (fun (j : Nat) => decide (j < (4 : Nat) * x)) (eaL [(2 : Int), (3 : Int), (1 : Int), (1 : Int)] b) b).getD (IntKind.i64.wrap ((↑((4 : Nat) * x) : Int) + (1 : Int))).toNat (0 : Int),
  (selL (16 : Nat) (fun (j : Nat) => decide (j < (4 : Nat) * x)) (eaL [(2 : Int), (3 : Int), (1 : Int), (1 : Int)] b) b).getD (IntKind.i64.wrap ((↑((4 : Nat) * x) : Int) + (2 : Int))).toNat (0 : Int),
  (selL (16 : Nat) (fun (j : Nat) => decide (j < (4 : Nat) * x)) (eaL [(2 : Int), (3 : Int), (1 : Int), (1 : Int)] b) b).getD (IntKind.i64.wrap ((↑((4 : Nat) * x) : Int) + (3 : Int))).toNat (0 : Int)]
  [(2 : Int), (3 : Int), (1 : Int), (1 : Int)] (4 : Nat)))).length.min
  ((↑(16 : Nat) : Int).toNat - (↑((4 : Nat) * x) : Int).toNat))
  (selL (16 : Nat) (fun (j : Nat) => decide (j < (4 : Nat) * x)) (eaL [(2 : Int), (3 : Int), (1 : Int), (1 : Int)] b) b)))) =
  some (Blk.fix (D.arr IntKind.u8 (16 : Nat) (selL (16 : Nat) (fun (j : Nat) => decide (j < (4 : Nat) * ((IntKind.i64.wrap ((↑((4 : Nat) * x) : Int) + (4 : Int))).toNat / (4 : Nat)))) (eaL [(2 : Int), (3 : Int), (1 : Int), (1 : Int)] b) b))) ∧
  sm (some (Blk.fix (D.arr IntKind.u8 (16 : Nat) [(0 : Int), (0 : Int), (0 : Int), (0 : Int), (0 : Int), (0 : Int), (0 : Int), (0 : Int), (0 : Int), (0 : Int), (0 : Int), (0 : Int), (0 : Int), (0 : Int), (0 : Int), (0 : Int)]))) ∧ True) ∧
  true = true) ∧
  (IntKind.i64.wrap ((↑((4 : Nat) * x) : Int) + (4 : Int))).toNat / (4 : Nat) ≤ (4 : Nat) ∧ (4 : Nat) - (IntKind.i64.wrap ((↑((4 : Nat) * x) : Int) + (4 : Int))).toNat / (4 : Nat) < (4 : Nat) - x
 | false =>
  ((16 : Nat) ≠ (0 : Nat) ∧ (16 : Nat) = (16 : Nat) ∧ true = true) ∧
  (Sk.arr (16 : Nat) = Sk.arr (16 : Nat) ∧ (16 : Nat) ≠ (0 : Nat) ∧ (16 : Nat) = (16 : Nat) ∧ false = false) ∧ (((16 : Nat) ≠ (0 : Nat) ∧ (16 : Nat) = (16 : Nat) ∧ true = true) ∧ True) ∧ D.arr IntKind.u8 (16 : Nat) (selL (16 : Nat) (fun (j : Nat) => decide (j < (4 : Nat) * x)) (eaL [(2 : Int), (3 : Int), (1 : Int), (1 : Int)] b) b) = F) := by kernel_rfl
set_option maxRecDepth 100000 in
theorem vc87b  (b : List Int) (F : D)  :
    (owed c87 (inv87 [14, 11, 13, 9] b) Try.f87 [b16 b, zF 94] F) = (
 (True ∧ false = false) ∧
 (True ∧ (16 : Nat) ≠ (0 : Nat)) ∧
 True ∧
 (((AV.d (D.val (Value.int IntKind.i64 (0 : Int))) = AV.d (D.val (Value.int IntKind.i64 (↑(0 : Nat) : Int))) ∧ True) ∧
 (some (Blk.fix (D.arr IntKind.u8 (16 : Nat) b)) = some (Blk.fix (D.arr IntKind.u8 (16 : Nat) (selL (16 : Nat) (fun (j : Nat) => decide (j < (0 : Nat))) (eaL [(14 : Int), (11 : Int), (13 : Int), (9 : Int)] b) b))) ∧
 sm (some (Blk.fix (D.arr IntKind.u8 (16 : Nat) [(0 : Int), (0 : Int), (0 : Int), (0 : Int), (0 : Int), (0 : Int), (0 : Int), (0 : Int), (0 : Int), (0 : Int), (0 : Int), (0 : Int), (0 : Int), (0 : Int), (0 : Int), (0 : Int)]))) ∧ True) ∧
 true = true) ∧
 (0 / 4 : Nat) ≤ (4 : Nat)) ∧
 ∀ (x : Nat),
 x ≤ (4 : Nat) →
 true = true ∧
 True ∧
 True ∧
 match decide ((↑((4 : Nat) * x) : Int) < (16 : Int)) with
 | true =>
  True ∧
  True ∧
  ((0 : Int) ≤ (↑((4 : Nat) * x) : Int) ∧ (↑((4 : Nat) * x) : Int) < (↑(16 : Nat) : Int) ∧ (16 : Nat) = (16 : Nat) ∧ (1 : Nat) = (1 : Nat)) ∧
  ((1 : Nat) ≠ (0 : Nat) ∧ (1 : Nat) = (1 : Nat) ∧ false = false) ∧
  True ∧
  True ∧
  ((0 : Int) ≤ IntKind.i64.wrap ((↑((4 : Nat) * x) : Int) + (1 : Int)) ∧ IntKind.i64.wrap ((↑((4 : Nat) * x) : Int) + (1 : Int)) < (↑(16 : Nat) : Int) ∧ (16 : Nat) = (16 : Nat) ∧ (1 : Nat) = (1 : Nat)) ∧
  ((1 : Nat) ≠ (0 : Nat) ∧ (1 : Nat) = (1 : Nat) ∧ false = false) ∧
  True ∧
  True ∧
  ((0 : Int) ≤ IntKind.i64.wrap ((↑((4 : Nat) * x) : Int) + (2 : Int)) ∧ IntKind.i64.wrap ((↑((4 : Nat) * x) : Int) + (2 : Int)) < (↑(16 : Nat) : Int) ∧ (16 : Nat) = (16 : Nat) ∧ (1 : Nat) = (1 : Nat)) ∧
  ((1 : Nat) ≠ (0 : Nat) ∧ (1 : Nat) = (1 : Nat) ∧ false = false) ∧
  True ∧
  True ∧
  ((0 : Int) ≤ IntKind.i64.wrap ((↑((4 : Nat) * x) : Int) + (3 : Int)) ∧ IntKind.i64.wrap ((↑((4 : Nat) * x) : Int) + (3 : Int)) < (↑(16 : Nat) : Int) ∧ (16 : Nat) = (16 : Nat) ∧ (1 : Nat) = (1 : Nat)) ∧
  ((1 : Nat) ≠ (0 : Nat) ∧ (1 : Nat) = (1 : Nat) ∧ false = false) ∧
  ((1 : Nat) = (1 : Nat) ∧ false = false ∧ ((0 : Nat) < (4 : Nat) ∧ ([] : List Nat) = [] ∧ true = true) ∧ false = false ∧ ((1 : Nat) < (4 : Nat) ∧ ([] : List Nat) = [] ∧ true = true) ∧ false = false ∧ ((2 : Nat) < (4 : Nat) ∧ ([] : List Nat) = [] ∧ true = true) ∧ false = false ∧ ((3 : Nat) < (4 : Nat) ∧ ([] : List Nat) = [] ∧ true = true) ∧ True) ∧
  (∃ (l : List Int),
  [D.arr IntKind.u8 (4 : Nat)
  [(selL (16 : Nat) (fun (j : Nat) => decide (j < (4 : Nat) * x)) (eaL [(14 : Int), (11 : Int), (13 : Int), (9 : Int)] b) b).getD (↑((4 : Nat) * x) : Int).toNat (0 : Int),
  (selL (16 : Nat) (fun (j : Nat) => decide (j < (4 : Nat) * x)) (eaL [(14 : Int), (11 : Int), (13 : Int), (9 : Int)] b) b).getD (IntKind.i64.wrap ((↑((4 : Nat) * x) : Int) + (1 : Int))).toNat (0 : Int),
  (selL (16 : Nat) (fun (j : Nat) => decide (j < (4 : Nat) * x)) (eaL [(14 : Int), (11 : Int), (13 : Int), (9 : Int)] b) b).getD (IntKind.i64.wrap ((↑((4 : Nat) * x) : Int) + (2 : Int))).toNat (0 : Int),
  (selL (16 : Nat) (fun (j : Nat) => decide (j < (4 : Nat) * x)) (eaL [(14 : Int), (11 : Int), (13 : Int), (9 : Int)] b) b).getD (IntKind.i64.wrap ((↑((4 : Nat) * x) : Int) + (3 : Int))).toNat (0 : Int)]] =
  [D.arr IntKind.u8 (4 : Nat) l] ∧
  okb l ∧ l.length = (4 : Nat)) ∧
  (True ∧ (4 : Nat) ≠ (0 : Nat)) ∧
  (Sk.arr (4 : Nat) = Sk.arr (4 : Nat) ∧ (4 : Nat) ≠ (0 : Nat) ∧ (4 : Nat) = (4 : Nat) ∧ false = false) ∧
  True ∧
  ((0 : Int) ≤ (↑((4 : Nat) * x) : Int) ∧ (↑((4 : Nat) * x) : Int) ≤ (↑(16 : Nat) : Int) ∧ (↑(16 : Nat) : Int) ≤ (↑(16 : Nat) : Int) ∧ (16 : Nat) = (16 : Nat) ∧ (1 : Nat) = (1 : Nat)) ∧
  ((0 : Int) ≤ (0 : Int) ∧ (0 : Int) ≤ (↑(4 : Nat) : Int) ∧ (↑(4 : Nat) : Int) ≤ (↑(4 : Nat) : Int) ∧ (4 : Nat) = (4 : Nat) ∧ (1 : Nat) = (1 : Nat)) ∧
  (IntKind.u8 = IntKind.u8 ∧ (1 : Nat) = (1 : Nat)) ∧
  True ∧
  True ∧
  True ∧
  ((AV.d (D.val (Value.int IntKind.i64 (IntKind.i64.wrap ((↑((4 : Nat) * x) : Int) + (4 : Int))))) = AV.d (D.val (Value.int IntKind.i64 (↑((4 : Nat) * ((IntKind.i64.wrap ((↑((4 : Nat) * x) : Int) + (4 : Int))).toNat / (4 : Nat))) : Int))) ∧ True) ∧
  (some
  (Blk.fix
  (D.arr IntKind.u8 (16 : Nat)
  (List.take (↑((4 : Nat) * x) : Int).toNat (selL (16 : Nat) (fun (j : Nat) => decide (j < (4 : Nat) * x)) (eaL [(14 : Int), (11 : Int), (13 : Int), (9 : Int)] b) b) ++
  List.take
  ((List.take ((↑(4 : Nat) : Int).toNat - (0 : Nat))
  (List.drop (0 : Nat)
  (gcl
  [(selL (16 : Nat) (fun (j : Nat) => decide (j < (4 : Nat) * x)) (eaL [(14 : Int), (11 : Int), (13 : Int), (9 : Int)] b) b).getD (↑((4 : Nat) * x) : Int).toNat (0 : Int),
  (selL (16 : Nat) (fun (j : Nat) => decide (j < (4 : Nat) * x)) (eaL [(14 : Int), (11 : Int), (13 : Int), (9 : Int)] b) b).getD (IntKind.i64.wrap ((↑((4 : Nat) * x) : Int) + (1 : Int))).toNat (0 : Int),
  (selL (16 : Nat) (fun (j : Nat) => decide (j < (4 : Nat) * x)) (eaL [(14 : Int), (11 : Int), (13 : Int), (9 : Int)] b) b).getD (IntKind.i64.wrap ((↑((4 : Nat) * x) : Int) + (2 : Int))).toNat (0 : Int),
  (selL (16 : Nat) (fun (j : Nat) => decide (j < (4 : Nat) * x)) (eaL [(14 : Int), (11 : Int), (13 : Int), (9 : Int)] b) b).getD (IntKind.i64.wrap ((↑((4 : Nat) * x) : Int) + (3 : Int))).toNat (0 : Int)]
  [(14 : Int), (11 : Int), (13 : Int), (9 : Int)] (4 : Nat)))).length.min
  ((↑(16 : Nat) : Int).toNat - (↑((4 : Nat) * x) : Int).toNat))
  (List.take ((↑(4 : Nat) : Int).toNat - (0 : Nat))
  (List.drop (0 : Nat)
  (gcl
  [(selL (16 : Nat) (fun (j : Nat) => decide (j < (4 : Nat) * x)) (eaL [(14 : Int), (11 : Int), (13 : Int), (9 : Int)] b) b).getD (↑((4 : Nat) * x) : Int).toNat (0 : Int),
  (selL (16 : Nat) (fun (j : Nat) => decide (j < (4 : Nat) * x)) (eaL [(14 : Int), (11 : Int), (13 : Int), (9 : Int)] b) b).getD (IntKind.i64.wrap ((↑((4 : Nat) * x) : Int) + (1 : Int))).toNat (0 : Int),
  (selL (16 : Nat) (fun (j : Nat) => decide (j < (4 : Nat) * x)) (eaL [(14 : Int), (11 : Int), (13 : Int), (9 : Int)] b) b).getD (IntKind.i64.wrap ((↑((4 : Nat) * x) : Int) + (2 : Int))).toNat (0 : Int),
  (selL (16 : Nat) (fun (j : Nat) => decide (j < (4 : Nat) * x)) (eaL [(14 : Int), (11 : Int), (13 : Int), (9 : Int)] b) b).getD (IntKind.i64.wrap ((↑((4 : Nat) * x) : Int) + (3 : Int))).toNat (0 : Int)]
  [(14 : Int), (11 : Int), (13 : Int), (9 : Int)] (4 : Nat)))) ++
  List.drop
  ((↑((4 : Nat) * x) : Int).toNat +
  (List.take ((↑(4 : Nat) : Int).toNat - (0 : Nat))
  (List.drop (0 : Nat)
  (gcl
  [(selL (16 : Nat) (fun (j : Nat) => decide (j < (4 : Nat) * x)) (eaL [(14 : Int), (11 : Int), (13 : Int), (9 : Int)] b) b).getD (↑((4 : Nat) * x) : Int).toNat (0 : Int),
  (selL (16 : Nat) (fun (j : Nat) => decide (j < (4 : Nat) * x)) (eaL [(14 : Int), (11 : Int), (13 : Int), (9 : Int)] b) b).getD (IntKind.i64.wrap ((↑((4 : Nat) * x) : Int) + (1 : Int))).toNat (0 : Int),
  (selL (16 : Nat) (fun (j : Nat) => decide (j < (4 : Nat) * x)) (eaL [(14 : Int), (11 : Int), (13 : Int), (9 : Int)] b) b).getD (IntKind.i64.wrap ((↑((4 : Nat) * x) : Int) + (2 : Int))).toNat (0 : Int),
  (selL (16 : Nat) (fun (j : Nat) => decide (j < (4 : Nat) * x)) (eaL [(14 : Int), (11 : Int), (13 : Int), (9 : Int)] b) b).getD (IntKind.i64.wrap ((↑((4 : Nat) * x) : Int) + (3 : Int))).toNat (0 : Int)]
  [(14 : Int), (11 : Int), (13 : Int), (9 : Int)] (4 : Nat)))).length.min
  ((↑(16 : Nat) : Int).toNat - (↑((4 : Nat) * x) : Int).toNat))
  (selL (16 : Nat) (fun (j : Nat) => decide (j < (4 : Nat) * x)) (eaL [(14 : Int), (11 : Int), (13 : Int), (9 : Int)] b) b)))) =
  some (Blk.fix (D.arr IntKind.u8 (16 : Nat) (selL (16 : Nat) (fun (j : Nat) => decide (j < (4 : Nat) * ((IntKind.i64.wrap ((↑((4 : Nat) * x) : Int) + (4 : Int))).toNat / (4 : Nat)))) (eaL [(14 : Int), (11 : Int), (13 : Int), (9 : Int)] b) b))) ∧
  sm (some (Blk.fix (D.arr IntKind.u8 (16 : Nat) [(0 : Int), (0 : Int), (0 : Int), (0 : Int), (0 : Int), (0 : Int), (0 : Int), (0 : Int), (0 : Int), (0 : Int), (0 : Int), (0 : Int), (0 : Int), (0 : Int), (0 : Int), (0 : Int)]))) ∧ True) ∧
  true = true) ∧
  (IntKind.i64.wrap ((↑((4 : Nat) * x) : Int) + (4 : Int))).toNat / (4 : Nat) ≤ (4 : Nat) ∧ (4 : Nat) - (IntKind.i64.wrap ((↑((4 : Nat) * x) : Int) + (4 : Int))).toNat / (4 : Nat) < (4 : Nat) - x
 | false =>
  ((16 : Nat) ≠ (0 : Nat) ∧ (16 : Nat) = (16 : Nat) ∧ true = true) ∧
  (Sk.arr (16 : Nat) = Sk.arr (16 : Nat) ∧ (16 : Nat) ≠ (0 : Nat) ∧ (16 : Nat) = (16 : Nat) ∧ false = false) ∧ (((16 : Nat) ≠ (0 : Nat) ∧ (16 : Nat) = (16 : Nat) ∧ true = true) ∧ True) ∧ D.arr IntKind.u8 (16 : Nat) (selL (16 : Nat) (fun (j : Nat) => decide (j < (4 : Nat) * x)) (eaL [(14 : Int), (11 : Int), (13 : Int), (9 : Int)] b) b) = F) := by kernel_rfl
set_option maxRecDepth 100000 in
theorem vc90  (b : List Int) (F : D)  :
    (owed c0 (inv90 b) Try.f90 [b16 b] F) = (
 (True ∧ false = false) ∧
 (True ∧ (16 : Nat) ≠ (0 : Nat)) ∧
 (True ∧ (16 : Nat) ≠ (0 : Nat)) ∧
 ((16 : Nat) ≠ (0 : Nat) ∧ (16 : Nat) = (16 : Nat) ∧ true = true) ∧
 True ∧
 (((AV.d (D.val (Value.int IntKind.i64 (0 : Int))) = AV.d (D.val (Value.int IntKind.i64 (↑(Int.toNat (0 : Int)) : Int))) ∧ True) ∧
 (sm (some (Blk.fix (D.arr IntKind.u8 (16 : Nat) b))) ∧
 sm (some (Blk.fix (D.arr IntKind.u8 (16 : Nat) [(0 : Int), (0 : Int), (0 : Int), (0 : Int), (0 : Int), (0 : Int), (0 : Int), (0 : Int), (0 : Int), (0 : Int), (0 : Int), (0 : Int), (0 : Int), (0 : Int), (0 : Int), (0 : Int)]))) ∧
 some (Blk.fix (D.arr IntKind.u8 (16 : Nat) [(0 : Int), (0 : Int), (0 : Int), (0 : Int), (0 : Int), (0 : Int), (0 : Int), (0 : Int), (0 : Int), (0 : Int), (0 : Int), (0 : Int), (0 : Int), (0 : Int), (0 : Int), (0 : Int)])) =
 some (Blk.fix (D.arr IntKind.u8 (16 : Nat) (selL (16 : Nat) (fun (j : Nat) => decide ((4 : Nat) * (j % (4 : Nat)) + j / (4 : Nat) < Int.toNat (0 : Int))) (trL b) z16))) ∧
 True) ∧
 true = true) ∧
 Int.toNat (0 : Int) ≤ (16 : Nat)) ∧
 ∀ (x : Nat),
 x ≤ (16 : Nat) →
 true = true ∧
 True ∧
 match decide ((↑x : Int) < (16 : Int)) with
 | true =>
  True ∧
  ((0 : Int) ≤ (↑x : Int) ∧ (↑x : Int) < (↑(16 : Nat) : Int) ∧ (16 : Nat) = (16 : Nat) ∧ Ty.int IntKind.u8 = Ty.int IntKind.u8 ∧ (1 : Nat) = (1 : Nat)) ∧
  True ∧
  True ∧
  True ∧
  (4 : Int) ≠ (0 : Int) ∧
  True ∧
  (4 : Int) ≠ (0 : Int) ∧
  True ∧
  ((0 : Int) ≤ (↑x : Int).tmod (4 : Int) ∧ (↑x : Int).tmod (4 : Int) < (↑(4 : Nat) : Int) ∧ (16 : Nat) = (16 : Nat) ∧ (4 : Nat) = (4 : Nat) ∧ (4 : Nat) ≠ (0 : Nat)) ∧
  ((0 : Int) ≤ IntKind.i64.wrap ((↑x : Int).tdiv (4 : Int)) ∧ IntKind.i64.wrap ((↑x : Int).tdiv (4 : Int)) < (↑(4 : Nat) : Int) ∧ (4 : Nat) = (4 : Nat) ∧ (1 : Nat) = (1 : Nat)) ∧
  ((((↑x : Int).tmod (4 : Int)).toNat * (4 : Nat) + (IntKind.i64.wrap ((↑x : Int).tdiv (4 : Int))).toNat < (16 : Nat) ∧ ([] : List Nat) = [] ∧ true = true) ∧ (1 : Nat) ≠ (0 : Nat) ∧ (1 : Nat) = (1 : Nat) ∧ false = false) ∧
  True ∧
  True ∧
  ((AV.d (D.val (Value.int IntKind.i64 (IntKind.i64.wrap ((↑x : Int) + (1 : Int))))) = AV.d (D.val (Value.int IntKind.i64 (↑(IntKind.i64.wrap ((↑x : Int) + (1 : Int))).toNat : Int))) ∧ True) ∧
  (sm (some (Blk.fix (D.arr IntKind.u8 (16 : Nat) b))) ∧
  sm (some (Blk.fix (D.arr IntKind.u8 (16 : Nat) [(0 : Int), (0 : Int), (0 : Int), (0 : Int), (0 : Int), (0 : Int), (0 : Int), (0 : Int), (0 : Int), (0 : Int), (0 : Int), (0 : Int), (0 : Int), (0 : Int), (0 : Int), (0 : Int)]))) ∧
  some (Blk.fix (D.arr IntKind.u8 (16 : Nat) ((selL (16 : Nat) (fun (j : Nat) => decide ((4 : Nat) * (j % (4 : Nat)) + j / (4 : Nat) < x)) (trL b) z16).set (((↑x : Int).tmod (4 : Int)).toNat * (4 : Nat) + (IntKind.i64.wrap ((↑x : Int).tdiv (4 : Int))).toNat) (b.getD (↑x : Int).toNat (0 : Int))))) =
  some (Blk.fix (D.arr IntKind.u8 (16 : Nat) (selL (16 : Nat) (fun (j : Nat) => decide ((4 : Nat) * (j % (4 : Nat)) + j / (4 : Nat) < (IntKind.i64.wrap ((↑x : Int) + (1 : Int))).toNat)) (trL b) z16))) ∧
  True) ∧
  true = true) ∧
  (IntKind.i64.wrap ((↑x : Int) + (1 : Int))).toNat ≤ (16 : Nat) ∧ (16 : Nat) - (IntKind.i64.wrap ((↑x : Int) + (1 : Int))).toNat < (16 : Nat) - x
 | false =>
  ((16 : Nat) ≠ (0 : Nat) ∧ (16 : Nat) = (16 : Nat) ∧ true = true) ∧
  (Sk.arr (16 : Nat) = Sk.arr (16 : Nat) ∧ (16 : Nat) ≠ (0 : Nat) ∧ (16 : Nat) = (16 : Nat) ∧ false = false) ∧ (((16 : Nat) ≠ (0 : Nat) ∧ (16 : Nat) = (16 : Nat) ∧ true = true) ∧ True) ∧ D.arr IntKind.u8 (16 : Nat) (selL (16 : Nat) (fun (j : Nat) => decide ((4 : Nat) * (j % (4 : Nat)) + j / (4 : Nat) < x)) (trL b) z16) = F) := by kernel_rfl
set_option maxRecDepth 100000 in
theorem vc93  (b : List Int) (F : D)  :
    (owed c0 (inv93 b) Try.f93 [b16 b] F) = (
 (True ∧ false = false) ∧
 (True ∧ (16 : Nat) ≠ (0 : Nat)) ∧
 (True ∧ (16 : Nat) ≠ (0 : Nat)) ∧
 True ∧
 (((AV.d (D.val (Value.int IntKind.i64 (0 : Int))) = AV.d (D.val (Value.int IntKind.i64 (↑(Int.toNat (0 : Int)) : Int))) ∧ True) ∧
 (sm (some (Blk.fix (D.arr IntKind.u8 (16 : Nat) b))) ∧
 sm (some (Blk.fix (D.arr IntKind.u8 (16 : Nat) [(0 : Int), (0 : Int), (0 : Int), (0 : Int), (0 : Int), (0 : Int), (0 : Int), (0 : Int), (0 : Int), (0 : Int), (0 : Int), (0 : Int), (0 : Int), (0 : Int), (0 : Int), (0 : Int)]))) ∧
 some (Blk.fix (D.arr IntKind.u8 (16 : Nat) [(0 : Int), (0 : Int), (0 : Int), (0 : Int), (0 : Int), (0 : Int), (0 : Int), (0 : Int), (0 : Int), (0 : Int), (0 : Int), (0 : Int), (0 : Int), (0 : Int), (0 : Int), (0 : Int)])) = some (Blk.fix (D.arr IntKind.u8 (16 : Nat) (selL (16 : Nat) (fun (j : Nat) => decide (j < Int.toNat (0 : Int))) (trL b) z16))) ∧ True) ∧
 true = true) ∧
 Int.toNat (0 : Int) ≤ (16 : Nat)) ∧
 ∀ (x : Nat),
 x ≤ (16 : Nat) →
 true = true ∧
 True ∧
 match decide ((↑x : Int) < (16 : Int)) with
 | true =>
  True ∧
  True ∧
  True ∧
  True ∧
  (4 : Int) ≠ (0 : Int) ∧
  True ∧
  (4 : Int) ≠ (0 : Int) ∧
  ((0 : Int) ≤ (↑x : Int).tmod (4 : Int) ∧ (↑x : Int).tmod (4 : Int) < (↑(4 : Nat) : Int) ∧ (16 : Nat) = (16 : Nat) ∧ (4 : Nat) = (4 : Nat) ∧ (4 : Nat) ≠ (0 : Nat)) ∧
  ((0 : Int) ≤ IntKind.i64.wrap ((↑x : Int).tdiv (4 : Int)) ∧ IntKind.i64.wrap ((↑x : Int).tdiv (4 : Int)) < (↑(4 : Nat) : Int) ∧ (4 : Nat) = (4 : Nat) ∧ (1 : Nat) = (1 : Nat)) ∧
  ((1 : Nat) ≠ (0 : Nat) ∧ (1 : Nat) = (1 : Nat) ∧ false = false) ∧
  ((0 : Int) ≤ (↑x : Int) ∧ (↑x : Int) < (↑(16 : Nat) : Int) ∧ (16 : Nat) = (16 : Nat) ∧ (1 : Nat) = (1 : Nat)) ∧
  (((↑x : Int).toNat < (16 : Nat) ∧ ([] : List Nat) = [] ∧ true = true) ∧ (1 : Nat) ≠ (0 : Nat) ∧ (1 : Nat) = (1 : Nat) ∧ false = false) ∧
  True ∧
  True ∧
  ((AV.d (D.val (Value.int IntKind.i64 (IntKind.i64.wrap ((↑x : Int) + (1 : Int))))) = AV.d (D.val (Value.int IntKind.i64 (↑(IntKind.i64.wrap ((↑x : Int) + (1 : Int))).toNat : Int))) ∧ True) ∧
  (sm (some (Blk.fix (D.arr IntKind.u8 (16 : Nat) b))) ∧
  sm (some (Blk.fix (D.arr IntKind.u8 (16 : Nat) [(0 : Int), (0 : Int), (0 : Int), (0 : Int), (0 : Int), (0 : Int), (0 : Int), (0 : Int), (0 : Int), (0 : Int), (0 : Int), (0 : Int), (0 : Int), (0 : Int), (0 : Int), (0 : Int)]))) ∧
  some (Blk.fix (D.arr IntKind.u8 (16 : Nat) ((selL (16 : Nat) (fun (j : Nat) => decide (j < x)) (trL b) z16).set (↑x : Int).toNat (b.getD (((↑x : Int).tmod (4 : Int)).toNat * (4 : Nat) + (IntKind.i64.wrap ((↑x : Int).tdiv (4 : Int))).toNat) (0 : Int))))) =
  some (Blk.fix (D.arr IntKind.u8 (16 : Nat) (selL (16 : Nat) (fun (j : Nat) => decide (j < (IntKind.i64.wrap ((↑x : Int) + (1 : Int))).toNat)) (trL b) z16))) ∧
  True) ∧
  true = true) ∧
  (IntKind.i64.wrap ((↑x : Int) + (1 : Int))).toNat ≤ (16 : Nat) ∧ (16 : Nat) - (IntKind.i64.wrap ((↑x : Int) + (1 : Int))).toNat < (16 : Nat) - x
 | false => ((16 : Nat) ≠ (0 : Nat) ∧ (16 : Nat) = (16 : Nat) ∧ true = true) ∧ (Sk.arr (16 : Nat) = Sk.arr (16 : Nat) ∧ (16 : Nat) ≠ (0 : Nat) ∧ (16 : Nat) = (16 : Nat) ∧ false = false) ∧ (((16 : Nat) ≠ (0 : Nat) ∧ (16 : Nat) = (16 : Nat) ∧ true = true) ∧ True) ∧ D.arr IntKind.u8 (16 : Nat) (selL (16 : Nat) (fun (j : Nat) => decide (j < x)) (trL b) z16) = F) := by kernel_rfl
set_option maxRecDepth 100000 in
theorem vc91  (W : List D) (bx ux : List Int) (F : D)  :
    (owed c0 (fun _ => none) Try.f91 [.ref (cipD W bx ux)] F) = (
 True ∧
 True ∧
 True ∧
 (Sk.st [Sk.one, Sk.arr (256 : Nat), Sk.arr (256 : Nat)] = Sk.st [Sk.one, Sk.arr (256 : Nat), Sk.arr (256 : Nat)] ∧ (0 : Nat) < (3 : Nat)) ∧
 ((1 : Nat) ≠ (0 : Nat) ∧ (1 : Nat) = (1 : Nat) ∧ false = false) ∧ True ∧ (4 : Int) ≠ (0 : Int) ∧ True ∧ True ∧ (false = false ∧ True) ∧ D.val (Value.int IntKind.i64 (IntKind.i64.wrap (IntKind.i64.wrap ((↑W.length : Int).tdiv (4 : Int)) - (1 : Int)))) = F) := by kernel_rfl
set_option maxRecDepth 100000 in
theorem vc89  (W : List D) (bx ux w g : List Int) (n : Nat) (F : D)  :
    (owed c0 (inv89 w n g) Try.f89 [.ref (cipD W bx ux), b16 g, i64 ((n : Nat) : Int)] F) = (
 (True ∧ false = false) ∧
 (True ∧ (16 : Nat) ≠ (0 : Nat)) ∧
 True ∧
 (((AV.d (D.val (Value.int IntKind.i64 (0 : Int))) = AV.d (D.val (Value.int IntKind.i64 (↑(Int.toNat (0 : Int)) : Int))) ∧ True) ∧
 (some (Blk.fix (D.arr IntKind.u8 (16 : Nat) g)) = some (Blk.fix (D.arr IntKind.u8 (16 : Nat) (selL (16 : Nat) (fun (j : Nat) => decide (j < (0 : Nat))) (adR w n g) g))) ∧
 sm (some (Blk.fix (D.arr IntKind.u8 (16 : Nat) [(0 : Int), (0 : Int), (0 : Int), (0 : Int), (0 : Int), (0 : Int), (0 : Int), (0 : Int), (0 : Int), (0 : Int), (0 : Int), (0 : Int), (0 : Int), (0 : Int), (0 : Int), (0 : Int)]))) ∧ True) ∧
 true = true) ∧
 Int.toNat (0 : Int) ≤ (4 : Nat)) ∧
 ∀ (x : Nat),
 x ≤ (4 : Nat) →
 true = true ∧
 True ∧
 match decide ((↑x : Int) < (4 : Int)) with
 | true =>
  True ∧
  True ∧
  True ∧
  (((AV.d (D.val (Value.int IntKind.i64 (0 : Int))) = AV.d (D.val (Value.int IntKind.i64 (↑(0 : Nat) : Int))) ∧ True) ∧
  (some (Blk.fix (D.arr IntKind.u8 (16 : Nat) (selL (16 : Nat) (fun (j : Nat) => decide (j < (4 : Nat) * x)) (adR w n g) g))) = some (Blk.fix (D.arr IntKind.u8 (16 : Nat) (selL (16 : Nat) (fun (j : Nat) => decide (j < (4 : Nat) * (↑x : Int).toNat + (0 : Nat))) (adR w n g) g))) ∧
  sm (some (Blk.fix (D.arr IntKind.u8 (16 : Nat) [(0 : Int), (0 : Int), (0 : Int), (0 : Int), (0 : Int), (0 : Int), (0 : Int), (0 : Int), (0 : Int), (0 : Int), (0 : Int), (0 : Int), (0 : Int), (0 : Int), (0 : Int), (0 : Int)]))) ∧ True) ∧
  true = true) ∧
  (↑(↑x : Int).toNat : Int) = (↑x : Int) ∧ (0 : Nat) ≤ (4 : Nat)) ∧
  ∀ (x_1 : Nat × Nat),
  (↑x_1.fst : Int) = (↑x : Int) ∧ x_1.snd ≤ (4 : Nat) →
  true = true ∧
  True ∧
  match decide ((↑x_1.snd : Int) < (4 : Int)) with
  | true =>
   True ∧
   True ∧
   True ∧
   True ∧
   ((0 : Int) ≤ (↑x : Int) ∧ (↑x : Int) < (↑(4 : Nat) : Int) ∧ (16 : Nat) = (16 : Nat) ∧ (4 : Nat) = (4 : Nat) ∧ (4 : Nat) ≠ (0 : Nat)) ∧
   ((0 : Int) ≤ (↑x_1.snd : Int) ∧ (↑x_1.snd : Int) < (↑(4 : Nat) : Int) ∧ (4 : Nat) = (4 : Nat) ∧ (1 : Nat) = (1 : Nat)) ∧
   ((1 : Nat) ≠ (0 : Nat) ∧ (1 : Nat) = (1 : Nat) ∧ false = false) ∧
   True ∧
   True ∧
   (Sk.st [Sk.one, Sk.arr (256 : Nat), Sk.arr (256 : Nat)] = Sk.st [Sk.one, Sk.arr (256 : Nat), Sk.arr (256 : Nat)] ∧ (0 : Nat) < (3 : Nat)) ∧
   ((1 : Nat) ≠ (0 : Nat) ∧ (1 : Nat) = (1 : Nat) ∧ false = false) ∧
   True ∧
   True ∧
   True ∧
   True ∧
   True ∧
   ((0 : Int) ≤ IntKind.i64.wrap (IntKind.i64.wrap ((4 : Int) * (↑n : Int)) + (↑x_1.snd : Int)) ∧
   IntKind.i64.wrap (IntKind.i64.wrap ((4 : Int) * (↑n : Int)) + (↑x_1.snd : Int)) < (↑W.length : Int) ∧
   (4 : Nat) ≠ (0 : Nat) ∧
   (4 : Nat) = (4 : Nat) ∧ D.arr IntKind.u8 (4 : Nat) (arrOf (W.getD (IntKind.i64.wrap (IntKind.i64.wrap ((4 : Int) * (↑n : Int)) + (↑x_1.snd : Int))).toNat (D.val (Value.bool false)))) = W.getD (IntKind.i64.wrap (IntKind.i64.wrap ((4 : Int) * (↑n : Int)) + (↑x_1.snd : Int))).toNat (D.val (Value.bool false))) ∧
   ((0 : Int) ≤ (↑x : Int) ∧ (↑x : Int) < (↑(4 : Nat) : Int) ∧ (4 : Nat) = (4 : Nat) ∧ (1 : Nat) = (1 : Nat)) ∧
   ((1 : Nat) ≠ (0 : Nat) ∧ (1 : Nat) = (1 : Nat) ∧ false = false) ∧
   True ∧
   ((0 : Int) ≤ (↑x : Int) ∧ (↑x : Int) < (↑(4 : Nat) : Int) ∧ (16 : Nat) = (16 : Nat) ∧ (4 : Nat) = (4 : Nat) ∧ (4 : Nat) ≠ (0 : Nat)) ∧
   ((0 : Int) ≤ (↑x_1.snd : Int) ∧ (↑x_1.snd : Int) < (↑(4 : Nat) : Int) ∧ (4 : Nat) = (4 : Nat) ∧ (1 : Nat) = (1 : Nat)) ∧
   (((↑x : Int).toNat * (4 : Nat) + (↑x_1.snd : Int).toNat < (16 : Nat) ∧ ([] : List Nat) = [] ∧ true = true) ∧ (1 : Nat) ≠ (0 : Nat) ∧ (1 : Nat) = (1 : Nat) ∧ false = false) ∧
   True ∧
   True ∧
   ((AV.d (D.val (Value.int IntKind.i64 (IntKind.i64.wrap ((↑x_1.snd : Int) + (1 : Int))))) = AV.d (D.val (Value.int IntKind.i64 (↑(IntKind.i64.wrap ((↑x_1.snd : Int) + (1 : Int))).toNat : Int))) ∧ True) ∧
   (some
   (Blk.fix
   (D.arr IntKind.u8 (16 : Nat)
   ((selL (16 : Nat) (fun (j : Nat) => decide (j < (4 : Nat) * x_1.fst + x_1.snd)) (adR w n g) g).set ((↑x : Int).toNat * (4 : Nat) + (↑x_1.snd : Int).toNat)
   (ixor IntKind.u8 ((selL (16 : Nat) (fun (j : Nat) => decide (j < (4 : Nat) * x_1.fst + x_1.snd)) (adR w n g) g).getD ((↑x : Int).toNat * (4 : Nat) + (↑x_1.snd : Int).toNat) (0 : Int))
   ((arrOf (W.getD (IntKind.i64.wrap (IntKind.i64.wrap ((4 : Int) * (↑n : Int)) + (↑x_1.snd : Int))).toNat (D.val (Value.bool false)))).getD (↑x : Int).toNat (0 : Int)))))) =
   some (Blk.fix (D.arr IntKind.u8 (16 : Nat) (selL (16 : Nat) (fun (j : Nat) => decide (j < (4 : Nat) * (↑x : Int).toNat + (IntKind.i64.wrap ((↑x_1.snd : Int) + (1 : Int))).toNat)) (adR w n g) g))) ∧
   sm (some (Blk.fix (D.arr IntKind.u8 (16 : Nat) [(0 : Int), (0 : Int), (0 : Int), (0 : Int), (0 : Int), (0 : Int), (0 : Int), (0 : Int), (0 : Int), (0 : Int), (0 : Int), (0 : Int), (0 : Int), (0 : Int), (0 : Int), (0 : Int)]))) ∧ True) ∧
   true = true) ∧
   ((↑(↑x : Int).toNat : Int) = (↑x : Int) ∧ (IntKind.i64.wrap ((↑x_1.snd : Int) + (1 : Int))).toNat ≤ (4 : Nat)) ∧ (4 : Nat) - (IntKind.i64.wrap ((↑x_1.snd : Int) + (1 : Int))).toNat < (4 : Nat) - x_1.snd
  | false =>
   True ∧
   True ∧
   ((AV.d (D.val (Value.int IntKind.i64 (IntKind.i64.wrap ((↑x : Int) + (1 : Int))))) = AV.d (D.val (Value.int IntKind.i64 (↑(IntKind.i64.wrap ((↑x : Int) + (1 : Int))).toNat : Int))) ∧ True) ∧
   (some (Blk.fix (D.arr IntKind.u8 (16 : Nat) (selL (16 : Nat) (fun (j : Nat) => decide (j < (4 : Nat) * x_1.fst + x_1.snd)) (adR w n g) g))) = some (Blk.fix (D.arr IntKind.u8 (16 : Nat) (selL (16 : Nat) (fun (j : Nat) => decide (j < (4 : Nat) * (IntKind.i64.wrap ((↑x : Int) + (1 : Int))).toNat)) (adR w n g) g))) ∧
   sm (some (Blk.fix (D.arr IntKind.u8 (16 : Nat) [(0 : Int), (0 : Int), (0 : Int), (0 : Int), (0 : Int), (0 : Int), (0 : Int), (0 : Int), (0 : Int), (0 : Int), (0 : Int), (0 : Int), (0 : Int), (0 : Int), (0 : Int), (0 : Int)]))) ∧ True) ∧
   true = true) ∧
   (IntKind.i64.wrap ((↑x : Int) + (1 : Int))).toNat ≤ (4 : Nat) ∧ (4 : Nat) - (IntKind.i64.wrap ((↑x : Int) + (1 : Int))).toNat < (4 : Nat) - x
 | false => ((16 : Nat) ≠ (0 : Nat) ∧ (16 : Nat) = (16 : Nat) ∧ true = true) ∧ (Sk.arr (16 : Nat) = Sk.arr (16 : Nat) ∧ (16 : Nat) ≠ (0 : Nat) ∧ (16 : Nat) = (16 : Nat) ∧ false = false) ∧ (((16 : Nat) ≠ (0 : Nat) ∧ (16 : Nat) = (16 : Nat) ∧ true = true) ∧ True) ∧ D.arr IntKind.u8 (16 : Nat) (selL (16 : Nat) (fun (j : Nat) => decide (j < (4 : Nat) * x)) (adR w n g) g) = F) := by kernel_rfl
set_option maxRecDepth 100000 in
theorem vc92  (g y : List Int) (F : D)  :
    (owed c92 (inv92 y g) Try.f92 [b16 g, b4 y] F) = (
 (True ∧ false = false) ∧
 (True ∧ false = false) ∧
 (True ∧ (16 : Nat) ≠ (0 : Nat)) ∧
 True ∧
 (((AV.d (D.val (Value.int IntKind.i64 (0 : Int))) = AV.d (D.val (Value.int IntKind.i64 (↑(Int.toNat (0 : Int)) : Int))) ∧ True) ∧
 (some (Blk.fix (D.arr IntKind.u8 (16 : Nat) g)) = some (Blk.fix (D.arr IntKind.u8 (16 : Nat) (selL (16 : Nat) (fun (j : Nat) => decide (j % (4 : Nat) < Int.toNat (0 : Int))) (mxR y g) g))) ∧
 sm (some (Blk.fix (D.arr IntKind.u8 (4 : Nat) y))) ∧ sm (some (Blk.fix (D.arr IntKind.u8 (16 : Nat) [(0 : Int), (0 : Int), (0 : Int), (0 : Int), (0 : Int), (0 : Int), (0 : Int), (0 : Int), (0 : Int), (0 : Int), (0 : Int), (0 : Int), (0 : Int), (0 : Int), (0 : Int), (0 : Int)]))) ∧ True) ∧
 true = true) ∧
 Int.toNat (0 : Int) ≤ (4 : Nat)) ∧
 ∀ (x : Nat),
 x ≤ (4 : Nat) →
 true = true ∧
 True ∧
 match decide ((↑x : Int) < (4 : Int)) with
 | true =>
  True ∧
  True ∧
  True ∧
  ((0 : Int) ≤ (0 : Int) ∧ (0 : Int) < (↑(4 : Nat) : Int) ∧ (16 : Nat) = (16 : Nat) ∧ (4 : Nat) = (4 : Nat) ∧ (4 : Nat) ≠ (0 : Nat)) ∧
  ((0 : Int) ≤ (↑x : Int) ∧ (↑x : Int) < (↑(4 : Nat) : Int) ∧ (4 : Nat) = (4 : Nat) ∧ (1 : Nat) = (1 : Nat)) ∧
  ((1 : Nat) ≠ (0 : Nat) ∧ (1 : Nat) = (1 : Nat) ∧ false = false) ∧
  True ∧
  ((0 : Int) ≤ (1 : Int) ∧ (1 : Int) < (↑(4 : Nat) : Int) ∧ (16 : Nat) = (16 : Nat) ∧ (4 : Nat) = (4 : Nat) ∧ (4 : Nat) ≠ (0 : Nat)) ∧
  ((0 : Int) ≤ (↑x : Int) ∧ (↑x : Int) < (↑(4 : Nat) : Int) ∧ (4 : Nat) = (4 : Nat) ∧ (1 : Nat) = (1 : Nat)) ∧
  ((1 : Nat) ≠ (0 : Nat) ∧ (1 : Nat) = (1 : Nat) ∧ false = false) ∧
  True ∧
  ((0 : Int) ≤ (2 : Int) ∧ (2 : Int) < (↑(4 : Nat) : Int) ∧ (16 : Nat) = (16 : Nat) ∧ (4 : Nat) = (4 : Nat) ∧ (4 : Nat) ≠ (0 : Nat)) ∧
  ((0 : Int) ≤ (↑x : Int) ∧ (↑x : Int) < (↑(4 : Nat) : Int) ∧ (4 : Nat) = (4 : Nat) ∧ (1 : Nat) = (1 : Nat)) ∧
  ((1 : Nat) ≠ (0 : Nat) ∧ (1 : Nat) = (1 : Nat) ∧ false = false) ∧
  True ∧
  ((0 : Int) ≤ (3 : Int) ∧ (3 : Int) < (↑(4 : Nat) : Int) ∧ (16 : Nat) = (16 : Nat) ∧ (4 : Nat) = (4 : Nat) ∧ (4 : Nat) ≠ (0 : Nat)) ∧
  ((0 : Int) ≤ (↑x : Int) ∧ (↑x : Int) < (↑(4 : Nat) : Int) ∧ (4 : Nat) = (4 : Nat) ∧ (1 : Nat) = (1 : Nat)) ∧
  ((1 : Nat) ≠ (0 : Nat) ∧ (1 : Nat) = (1 : Nat) ∧ false = false) ∧
  ((1 : Nat) = (1 : Nat) ∧ false = false ∧ ((0 : Nat) < (4 : Nat) ∧ ([] : List Nat) = [] ∧ true = true) ∧ false = false ∧ ((1 : Nat) < (4 : Nat) ∧ ([] : List Nat) = [] ∧ true = true) ∧ false = false ∧ ((2 : Nat) < (4 : Nat) ∧ ([] : List Nat) = [] ∧ true = true) ∧ false = false ∧ ((3 : Nat) < (4 : Nat) ∧ ([] : List Nat) = [] ∧ true = true) ∧ True) ∧
  ((4 : Nat) ≠ (0 : Nat) ∧ (4 : Nat) = (4 : Nat) ∧ true = true) ∧
  (∃ (l : List Int),
  ∃ (m : List Int),
  [D.arr IntKind.u8 (4 : Nat)
  [(selL (16 : Nat) (fun (j : Nat) => decide (j % (4 : Nat) < x)) (mxR y g) g).getD ((0 : Nat) + (↑x : Int).toNat) (0 : Int), (selL (16 : Nat) (fun (j : Nat) => decide (j % (4 : Nat) < x)) (mxR y g) g).getD ((4 : Nat) + (↑x : Int).toNat) (0 : Int),
  (selL (16 : Nat) (fun (j : Nat) => decide (j % (4 : Nat) < x)) (mxR y g) g).getD ((8 : Nat) + (↑x : Int).toNat) (0 : Int), (selL (16 : Nat) (fun (j : Nat) => decide (j % (4 : Nat) < x)) (mxR y g) g).getD ((12 : Nat) + (↑x : Int).toNat) (0 : Int)],
  D.arr IntKind.u8 (4 : Nat) y] =
  [D.arr IntKind.u8 (4 : Nat) l, D.arr IntKind.u8 (4 : Nat) m] ∧
  (okb l ∧ l.length = (4 : Nat)) ∧ okb m ∧ m.length = (4 : Nat)) ∧
  (True ∧ (4 : Nat) ≠ (0 : Nat)) ∧
  (Sk.arr (4 : Nat) = Sk.arr (4 : Nat) ∧ (4 : Nat) ≠ (0 : Nat) ∧ (4 : Nat) = (4 : Nat) ∧ false = false) ∧
  True ∧
  (((AV.d (D.val (Value.int IntKind.i64 (0 : Int))) = AV.d (D.val (Value.int IntKind.i64 (↑(0 : Nat) : Int))) ∧ True) ∧
  (some (Blk.fix (D.arr IntKind.u8 (16 : Nat) (selL (16 : Nat) (fun (j : Nat) => decide (j % (4 : Nat) < x)) (mxR y g) g))) =
  some (Blk.fix (D.arr IntKind.u8 (16 : Nat) (selL (16 : Nat) (fun (j : Nat) => decide (j % (4 : Nat) < (↑x : Int).toNat) || decide (j % (4 : Nat) = (↑x : Int).toNat) && decide (j / (4 : Nat) < (0 : Nat))) (mxR y g) g))) ∧
  sm (some (Blk.fix (D.arr IntKind.u8 (4 : Nat) y))) ∧
  sm (some (Blk.fix (D.arr IntKind.u8 (16 : Nat) [(0 : Int), (0 : Int), (0 : Int), (0 : Int), (0 : Int), (0 : Int), (0 : Int), (0 : Int), (0 : Int), (0 : Int), (0 : Int), (0 : Int), (0 : Int), (0 : Int), (0 : Int), (0 : Int)]))) ∧
  sm
  (some
  (Blk.fix
  (D.arr IntKind.u8 (4 : Nat)
  (gcl
  [(selL (16 : Nat) (fun (j : Nat) => decide (j % (4 : Nat) < x)) (mxR y g) g).getD ((0 : Nat) + (↑x : Int).toNat) (0 : Int), (selL (16 : Nat) (fun (j : Nat) => decide (j % (4 : Nat) < x)) (mxR y g) g).getD ((4 : Nat) + (↑x : Int).toNat) (0 : Int),
  (selL (16 : Nat) (fun (j : Nat) => decide (j % (4 : Nat) < x)) (mxR y g) g).getD ((8 : Nat) + (↑x : Int).toNat) (0 : Int), (selL (16 : Nat) (fun (j : Nat) => decide (j % (4 : Nat) < x)) (mxR y g) g).getD ((12 : Nat) + (↑x : Int).toNat) (0 : Int)]
  y (4 : Nat))))) ∧
  True) ∧
  true = true) ∧
  (↑(↑x : Int).toNat : Int) = (↑x : Int) ∧ (0 : Nat) ≤ (4 : Nat)) ∧
  ∀ (x_1 : Nat × Nat),
  (↑x_1.fst : Int) = (↑x : Int) ∧ x_1.snd ≤ (4 : Nat) →
  true = true ∧
  True ∧
  match decide ((↑x_1.snd : Int) < (4 : Int)) with
  | true =>
   True ∧
   True ∧
   True ∧
   True ∧
   True ∧
   ((0 : Int) ≤ (↑x_1.snd : Int) ∧ (↑x_1.snd : Int) < (↑(4 : Nat) : Int) ∧ (4 : Nat) = (4 : Nat) ∧ (1 : Nat) = (1 : Nat)) ∧
   ((1 : Nat) ≠ (0 : Nat) ∧ (1 : Nat) = (1 : Nat) ∧ false = false) ∧
   ((0 : Int) ≤ (↑x_1.snd : Int) ∧ (↑x_1.snd : Int) < (↑(4 : Nat) : Int) ∧ (16 : Nat) = (16 : Nat) ∧ (4 : Nat) = (4 : Nat) ∧ (4 : Nat) ≠ (0 : Nat)) ∧
   ((0 : Int) ≤ (↑x : Int) ∧ (↑x : Int) < (↑(4 : Nat) : Int) ∧ (4 : Nat) = (4 : Nat) ∧ (1 : Nat) = (1 : Nat)) ∧
   (((↑x_1.snd : Int).toNat * (4 : Nat) + (↑x : Int).toNat < (16 : Nat) ∧ ([] : List Nat) = [] ∧ true = true) ∧ (1 : Nat) ≠ (0 : Nat) ∧ (1 : Nat) = (1 : Nat) ∧ false = false) ∧
   True ∧
   True ∧
   ((AV.d (D.val (Value.int IntKind.i64 (IntKind.i64.wrap ((↑x_1.snd : Int) + (1 : Int))))) = AV.d (D.val (Value.int IntKind.i64 (↑(IntKind.i64.wrap ((↑x_1.snd : Int) + (1 : Int))).toNat : Int))) ∧ True) ∧
   (some
   (Blk.fix
   (D.arr IntKind.u8 (16 : Nat)
   ((selL (16 : Nat) (fun (j : Nat) => decide (j % (4 : Nat) < x_1.fst) || decide (j % (4 : Nat) = x_1.fst) && decide (j / (4 : Nat) < x_1.snd)) (mxR y g) g).set ((↑x_1.snd : Int).toNat * (4 : Nat) + (↑x : Int).toNat)
   ((gcl
   [(selL (16 : Nat) (fun (j : Nat) => decide (j % (4 : Nat) < x)) (mxR y g) g).getD ((0 : Nat) + (↑x : Int).toNat) (0 : Int), (selL (16 : Nat) (fun (j : Nat) => decide (j % (4 : Nat) < x)) (mxR y g) g).getD ((4 : Nat) + (↑x : Int).toNat) (0 : Int),
   (selL (16 : Nat) (fun (j : Nat) => decide (j % (4 : Nat) < x)) (mxR y g) g).getD ((8 : Nat) + (↑x : Int).toNat) (0 : Int), (selL (16 : Nat) (fun (j : Nat) => decide (j % (4 : Nat) < x)) (mxR y g) g).getD ((12 : Nat) + (↑x : Int).toNat) (0 : Int)]
   y (4 : Nat)).getD
   (↑x_1.snd : Int).toNat (0 : Int))))) =
   some (Blk.fix (D.arr IntKind.u8 (16 : Nat) (selL (16 : Nat) (fun (j : Nat) => decide (j % (4 : Nat) < (↑x : Int).toNat) || decide (j % (4 : Nat) = (↑x : Int).toNat) && decide (j / (4 : Nat) < (IntKind.i64.wrap ((↑x_1.snd : Int) + (1 : Int))).toNat)) (mxR y g) g))) ∧
   sm (some (Blk.fix (D.arr IntKind.u8 (4 : Nat) y))) ∧
   sm (some (Blk.fix (D.arr IntKind.u8 (16 : Nat) [(0 : Int), (0 : Int), (0 : Int), (0 : Int), (0 : Int), (0 : Int), (0 : Int), (0 : Int), (0 : Int), (0 : Int), (0 : Int), (0 : Int), (0 : Int), (0 : Int), (0 : Int), (0 : Int)]))) ∧
   sm
   (some
   (Blk.fix
   (D.arr IntKind.u8 (4 : Nat)
   (gcl
   [(selL (16 : Nat) (fun (j : Nat) => decide (j % (4 : Nat) < x)) (mxR y g) g).getD ((0 : Nat) + (↑x : Int).toNat) (0 : Int), (selL (16 : Nat) (fun (j : Nat) => decide (j % (4 : Nat) < x)) (mxR y g) g).getD ((4 : Nat) + (↑x : Int).toNat) (0 : Int),
   (selL (16 : Nat) (fun (j : Nat) => decide (j % (4 : Nat) < x)) (mxR y g) g).getD ((8 : Nat) + (↑x : Int).toNat) (0 : Int), (selL (16 : Nat) (fun (j : Nat) => decide (j % (4 : Nat) < x)) (mxR y g) g).getD ((12 : Nat) + (↑x : Int).toNat) (0 : Int)]
   y (4 : Nat))))) ∧
   True) ∧
   true = true) ∧
   ((↑(↑x : Int).toNat : Int) = (↑x : Int) ∧ (IntKind.i64.wrap ((↑x_1.snd : Int) + (1 : Int))).toNat ≤ (4 : Nat)) ∧ (4 : Nat) - (IntKind.i64.wrap ((↑x_1.snd : Int) + (1 : Int))).toNat < (4 : Nat) - x_1.snd
  | false =>
   True ∧
   True ∧
   ((AV.d (D.val (Value.int IntKind.i64 (IntKind.i64.wrap ((↑x : Int) + (1 : Int))))) = AV.d (D.val (Value.int IntKind.i64 (↑(IntKind.i64.wrap ((↑x : Int) + (1 : Int))).toNat : Int))) ∧ True) ∧
   (some (Blk.fix (D.arr IntKind.u8 (16 : Nat) (selL (16 : Nat) (fun (j : Nat) => decide (j % (4 : Nat) < x_1.fst) || decide (j % (4 : Nat) = x_1.fst) && decide (j / (4 : Nat) < x_1.snd)) (mxR y g) g))) =
   some (Blk.fix (D.arr IntKind.u8 (16 : Nat) (selL (16 : Nat) (fun (j : Nat) => decide (j % (4 : Nat) < (IntKind.i64.wrap ((↑x : Int) + (1 : Int))).toNat)) (mxR y g) g))) ∧
   sm (some (Blk.fix (D.arr IntKind.u8 (4 : Nat) y))) ∧ sm (some (Blk.fix (D.arr IntKind.u8 (16 : Nat) [(0 : Int), (0 : Int), (0 : Int), (0 : Int), (0 : Int), (0 : Int), (0 : Int), (0 : Int), (0 : Int), (0 : Int), (0 : Int), (0 : Int), (0 : Int), (0 : Int), (0 : Int), (0 : Int)]))) ∧ True) ∧
   true = true) ∧
   (IntKind.i64.wrap ((↑x : Int) + (1 : Int))).toNat ≤ (4 : Nat) ∧ (4 : Nat) - (IntKind.i64.wrap ((↑x : Int) + (1 : Int))).toNat < (4 : Nat) - x
 | false => ((16 : Nat) ≠ (0 : Nat) ∧ (16 : Nat) = (16 : Nat) ∧ true = true) ∧ (Sk.arr (16 : Nat) = Sk.arr (16 : Nat) ∧ (16 : Nat) ≠ (0 : Nat) ∧ (16 : Nat) = (16 : Nat) ∧ false = false) ∧ (((16 : Nat) ≠ (0 : Nat) ∧ (16 : Nat) = (16 : Nat) ∧ true = true) ∧ True) ∧ D.arr IntKind.u8 (16 : Nat) (selL (16 : Nat) (fun (j : Nat) => decide (j % (4 : Nat) < x)) (mxR y g) g) = F) := by kernel_rfl
end Go.Proofs.Ytnadggcfdakpoaa
namespace Go.Proofs.Ytnadggcfdakpoaa
open Go Go.Vg
theorem map_getD {n i : Nat} (f : Nat → Int) (h : i < n) : ((List.range n).map f).getD i 0 = f i := by
 rw [List.getD_eq_getElem?_getD, List.getElem?_map, List.getElem?_range h]
 rfl
theorem sel_len (n : Nat) (p : Nat → Bool) (a b : List Int) : (selL n p a b).length = n := by simp [selL]
theorem sel_get {n i : Nat} {p : Nat → Bool} {a b : List Int} (h : i < n) : (selL n p a b).getD i 0 = if p i then a.getD i 0 else b.getD i 0 := map_getD _ h
theorem sel_ext {n : Nat} {p q : Nat → Bool} {a b : List Int} (h : ∀ i, i < n → p i = q i) : selL n p a b = selL n q a b := by
 unfold selL
 refine List.map_congr_left fun i hi => ?_
 rw [h i (List.mem_range.1 hi)]
theorem ext_getD {n : Nat} {a b : List Int} (ha : a.length = n) (hb : b.length = n) (h : ∀ i, i < n → a.getD i 0 = b.getD i 0) : a = b := by
 refine List.ext_getElem (by omega) fun i h1 h2 => ?_
 have := h i (by omega)
 rw [List.getD_eq_getElem?_getD, List.getD_eq_getElem?_getD, List.getElem?_eq_getElem h1, List.getElem?_eq_getElem h2] at this
 exact this
theorem set_getD {a : List Int} {i j : Nat} (v : Int) (h : j < a.length) : (a.set j v).getD i 0 = if i = j then v else a.getD i 0 := by
 rw [List.getD_eq_getElem?_getD, List.getD_eq_getElem?_getD, List.getElem?_set]
 by_cases e : j = i
 ·subst e
  rw [if_pos rfl, if_pos rfl, if_pos h]
  rfl
 ·rw [if_neg e, if_neg (Ne.symm e)]
theorem sel_set {n j : Nat} {p q : Nat → Bool} {a b : List Int} {v : Int} (hj : j < n) (hv : v = a.getD j 0) (hq : ∀ i, i < n → q i = (p i || decide (i = j))) : (selL n p a b).set j v = selL n q a b := by
 refine ext_getD (n := n) (by rw [List.length_set, sel_len]) (sel_len _ _ _ _) fun i hi => ?_
 rw [set_getD v (by rw [sel_len]; exact hj), sel_get hi, sel_get hi, hq i hi]
 by_cases e : i = j
 ·rw [if_pos e, decide_eq_true e, Bool.or_true, if_pos rfl, e, hv]
 ·rw [if_neg e, decide_eq_false e, Bool.or_false]
theorem sel_none {n : Nat} {p : Nat → Bool} {a b : List Int} (hb : b.length = n) (h : ∀ i, i < n → p i = false) : b = selL n p a b := by
 refine ext_getD hb (sel_len _ _ _ _) fun i hi => ?_
 rw [sel_get hi, h i hi]
 rfl
theorem sel_all {n : Nat} {p : Nat → Bool} {a b : List Int} (ha : a.length = n) (h : ∀ i, i < n → p i = true) : selL n p a b = a := by
 refine ext_getD (sel_len _ _ _ _) ha fun i hi => ?_
 rw [sel_get hi, h i hi]
 rfl
theorem dec_or {P Q R : Prop} [Decidable P] [Decidable Q] [Decidable R] (h : P ↔ Q ∨ R) : decide P = (decide Q || decide R) := by
 rw [Bool.eq_iff_iff, Bool.or_eq_true, decide_eq_true_eq, decide_eq_true_eq, decide_eq_true_eq]
 exact h
theorem b4c {a b : List Int} (h : a = b) : some (Blk.fix (b4 a)) = some (Blk.fix (b4 b)) := by rw [h]
theorem b16c {a b : List Int} (h : a = b) : some (Blk.fix (b16 a)) = some (Blk.fix (b16 b)) := by rw [h]
theorem okb_g {l : List Int} (h : okb l) (i : Nat) : 0 ≤ l.getD i 0 ∧ l.getD i 0 < 256 := by
 rw [List.getD_eq_getElem?_getD]
 cases hi : l[i]? with
 | none => exact ⟨Int.le_refl _, by decide⟩
 | some x => exact h x (List.mem_of_getElem? hi)
theorem sel_setd {n j : Nat} {P Q : Nat → Prop} [DecidablePred P] [DecidablePred Q] {a b : List Int} {v : Int} (hj : j < n) (hv : v = a.getD j 0) (hq : ∀ i, i < n → (Q i ↔ P i ∨ i = j)) : (selL n (fun i => decide (P i)) a b).set j v = selL n (fun i => decide (Q i)) a b :=
 sel_set hj hv fun i hi => dec_or (hq i hi)
theorem u8_of {x : Int} (h : 0 ≤ x ∧ x < 256) : ∃ a : Nat, [D.val (.int .u8 x)] = [u8 a] ∧ a < 256 := ⟨x.toNat, by rw [show u8 x.toNat = D.val (.int .u8 ((x.toNat : Nat) : Int)) from rfl, Int.toNat_of_nonneg h.1], by omega⟩
theorem tm4 (x : Nat) : (x : Int).tmod 4 = ((x % 4 : Nat) : Int) := by
 rw [Int.tmod_eq_emod_of_nonneg (by omega)]
 omega
theorem td4 (x : Nat) : (x : Int).tdiv 4 = ((x / 4 : Nat) : Int) := by
 rw [Int.tdiv_eq_ediv_of_nonneg (by omega)]
 omega
theorem s4L_len (l : List Int) : (s4L l).length = 4 := rfl
theorem adK_len (w : List Int) (r : Nat) (b : List Int) : (adK w r b).length = 16 := rfl
theorem eaL_len (y b : List Int) : (eaL y b).length = 16 := rfl
theorem shL_len (b : List Int) : (shL b).length = 16 := rfl
theorem usL_len (b : List Int) : (usL b).length = 16 := rfl
theorem trL_len (b : List Int) : (trL b).length = 16 := rfl
theorem adR_len (w : List Int) (r : Nat) (b : List Int) : (adR w r b).length = 16 := rfl
theorem mxR_len (y b : List Int) : (mxR y b).length = 16 := rfl
theorem s4L_get {l : List Int} {i : Nat} (h : i < 4) : (s4L l).getD i 0 = ((gbx (l.getD i 0).toNat : Nat) : Int) := map_getD _ h
theorem adK_get {w : List Int} {r : Nat} {b : List Int} {i : Nat} (h : i < 16) : (adK w r b).getD i 0 = ixor .u8 (b.getD i 0) (w.getD (16 * r + i) 0) := map_getD _ h
theorem adR_get {w : List Int} {r : Nat} {b : List Int} {i : Nat} (h : i < 16) : (adR w r b).getD i 0 = ixor .u8 (b.getD i 0) (w.getD (16 * r + 4 * (i % 4) + i / 4) 0) := map_getD _ h
theorem mxR_get {y b : List Int} {i : Nat} (h : i < 16) : (mxR y b).getD i 0 = (gcl (rowL b (i % 4)) y 4).getD (i / 4) 0 := map_getD _ h
theorem trL_get {b : List Int} {i : Nat} (h : i < 16) : (trL b).getD i 0 = b.getD (4 * (i % 4) + i / 4) 0 := map_getD _ h
theorem shL_get {b : List Int} {i : Nat} (h : i < 16) : (shL b).getD i 0 = ((gbx (b.getD ((i + i % 4 * 4) % 16) 0).toNat : Nat) : Int) := map_getD _ h
theorem usL_get {b : List Int} {i : Nat} (h : i < 16) : (usL b).getD i 0 = ((gux (b.getD ((i + 16 - 4 * (i % 4)) % 16) 0).toNat : Nat) : Int) := map_getD _ h
theorem z16_len : z16.length = 16 := rfl
theorem sel_copy (y b : List Int) : ∀ x, x < 4 → List.take (4 * x) (selL 16 (fun j => decide (j < 4 * x)) (eaL y b) b) ++ gcl (colL b x) y 4 ++ List.drop (4 * x + 4) (selL 16 (fun j => decide (j < 4 * x)) (eaL y b) b) = selL 16 (fun j => decide (j < 4 * (x + 1))) (eaL y b) b
 | 0, _ => rfl
 | 1, _ => rfl
 | 2, _ => rfl
 | 3, _ => rfl
 | n + 4, h => by omega
theorem colL_ok {b : List Int} (h : okb b) (x : Nat) : okb (colL b x) := by
 intro z hz
 simp only [colL, List.mem_cons, List.not_mem_nil, or_false] at hz
 rcases hz with rfl | rfl | rfl | rfl <;> exact okb_g h _
theorem rowL_ok {b : List Int} (h : okb b) (x : Nat) : okb (rowL b x) := by
 intro z hz
 simp only [rowL, List.mem_cons, List.not_mem_nil, or_false] at hz
 rcases hz with rfl | rfl | rfl | rfl <;> exact okb_g h _
attribute [local irreducible] selL s4L adK eaL shL usL trL adR mxR
set_option maxRecDepth 100000 in
theorem m77 : Meets Try.prog 77 sp77 := by
 refine meets_of_owed (C := c77) ⟨tab_ok, lkS_ok ⟨m86, trivial⟩⟩ (by kernel_rfl) (by kernel_rfl : Try.prog.funcs[77]? = some Try.f77) (by kernel_rfl) (by kernel_rfl) (by kernel_rfl) _ ?_
 rintro _ ⟨l, rfl, hl, hl4⟩
 refine ⟨fun _ => rfl, inv77 l, ?_⟩
 show owed c77 (inv77 l) Try.f77 [b4 l] (b4 (s4L l))
 rw [vc77]
 simp (decide := true) only [eq_self, true_and, and_true, ne_eq, not_false_eq_true, Int.toNat_natCast]
 refine ⟨by and_intros <;> first | rfl | exact b4c (sel_none hl4 fun i _ => decide_eq_false (by omega)), ?_⟩
 intro x hx
 split
 ·rename_i h
  have h := of_decide_eq_true h
  rw [show ((x : Int) + 1) = ((x + 1 : Nat) : Int) by omega, wNi (n := x + 1) (by omega)]
  simp only [Int.toNat_natCast]
  have hg : (selL 4 (fun j => decide (j < x)) (s4L l) l).getD x 0 = l.getD x 0 := by rw [sel_get (by omega), decide_eq_false (by omega)]; rfl
  rw [hg]
  and_intros <;> first | rfl | trivial | omega | exact u8_of (okb_g hl x) | exact b4c (sel_setd (by omega) (s4L_get (by omega)).symm fun i _ => by omega)
 ·rename_i h
  have h := of_decide_eq_false h
  rw [sel_all (s4L_len l) fun i _ => decide_eq_true (by omega)]
set_option maxRecDepth 100000 in
theorem m85 : Meets Try.prog 85 sp85 := by
 refine meets_of_owed (C := c0) ⟨tab_ok, fun f s h => by cases h⟩ (by kernel_rfl) (by kernel_rfl : Try.prog.funcs[85]? = some Try.f85) (by kernel_rfl) (by kernel_rfl) (by kernel_rfl) _ ?_
 rintro _ ⟨w, r, b, n, rfl, ⟨hw, hw2⟩, ⟨hb, hb2⟩, hn⟩
 refine ⟨fun _ => rfl, inv85 w n b, ?_⟩
 show owed c0 (inv85 w n b) Try.f85 [.ref (keyD w r), b16 b, i64 ((n : Nat) : Int)] (b16 (adK w ((n : Nat) : Int).toNat b))
 rw [vc85, Int.toNat_natCast]
 simp (decide := true) only [eq_self, true_and, and_true, ne_eq, not_false_eq_true, Int.toNat_natCast]
 refine ⟨by and_intros <;> first | rfl | exact b16c (sel_none hb2 fun i _ => decide_eq_false (by omega)), ?_⟩
 intro x hx
 split
 ·rename_i h
  have h := of_decide_eq_true h
  rw [show ((x : Int) + 1) = ((x + 1 : Nat) : Int) by omega, wNi (n := x + 1) (by omega), tm4, td4, wNi (n := x / 4) (by omega), show (4 : Int) * (n : Int) = ((4 * n : Nat) : Int) by omega, wNi (n := 4 * n) (by omega), show ((4 * n : Nat) : Int) + ((x / 4 : Nat) : Int) = ((4 * n + x / 4 : Nat) : Int) by omega, wNi (n := 4 * n + x / 4) (by omega)]
  simp only [Int.toNat_natCast]
  have hg : (selL 16 (fun j => decide (j < x)) (adK w n b) b).getD x 0 = b.getD x 0 := by rw [sel_get (by omega), decide_eq_false (by omega)]; rfl
  have hw3 : (List.take 4 (List.drop ((4 * n + x / 4) * 4) w)).getD (x % 4) 0 = w.getD (16 * n + x) 0 := by
   rw [List.getD_eq_getElem?_getD, List.getElem?_take, if_pos (by omega), List.getElem?_drop, List.getD_eq_getElem?_getD, show (4 * n + x / 4) * 4 + x % 4 = 16 * n + x by omega]
  rw [hg, hw3]
  and_intros <;> first | exact True.intro | omega | exact b16c (sel_setd (by omega) (adK_get (by omega)).symm fun i _ => by omega)
 ·rename_i h
  have h := of_decide_eq_false h
  rw [sel_all (adK_len w n b) fun i _ => decide_eq_true (by omega)]
set_option maxRecDepth 100000 in
theorem m87 : Meets Try.prog 87 sp87 := by
 refine meets_of_owed (C := c87) ⟨tab_ok, lkS_ok ⟨m88, m94, trivial⟩⟩ (by kernel_rfl) (by kernel_rfl : Try.prog.funcs[87]? = some Try.f87) (by kernel_rfl) (by kernel_rfl) (by kernel_rfl) _ ?_
 rintro _ ⟨b, f, rfl, ⟨hb, hb2⟩, hf⟩
 refine ⟨fun _ => rfl, inv87 (fnL (zF f)) b, ?_⟩
 rcases hf with rfl | rfl
 ·show owed c87 (inv87 [2, 3, 1, 1] b) Try.f87 [b16 b, zF 88] (b16 (eaL [2, 3, 1, 1] b))
  rw [vc87a]
  simp (decide := true) only [eq_self, true_and, and_true, ne_eq, not_false_eq_true, Int.toNat_natCast]
  refine ⟨by and_intros <;> first | rfl | exact b16c (sel_none hb2 fun i _ => decide_eq_false (by omega)), ?_⟩
  intro x hx
  split
  ·rename_i h
   have h : x < 4 := by have := of_decide_eq_true h; omega
   have q : ∀ k : Nat, k ≤ 4 → IntKind.i64.wrap (((4 * x : Nat) : Int) + (k : Int)) = ((4 * x + k : Nat) : Int) := fun k hk => by rw [show ((4 * x : Nat) : Int) + (k : Int) = ((4 * x + k : Nat) : Int) by omega, wNi (by omega)]
   have q1 : IntKind.i64.wrap (((4 * x : Nat) : Int) + 1) = _ := q 1 (by omega)
   have q2 : IntKind.i64.wrap (((4 * x : Nat) : Int) + 2) = _ := q 2 (by omega)
   have q3 : IntKind.i64.wrap (((4 * x : Nat) : Int) + 3) = _ := q 3 (by omega)
   have q4 : IntKind.i64.wrap (((4 * x : Nat) : Int) + 4) = _ := q 4 (by omega)
   have hg : ∀ k, k < 4 → (selL 16 (fun j => decide (j < 4 * x)) (eaL [2, 3, 1, 1] b) b).getD (4 * x + k) 0 = b.getD (4 * x + k) 0 := fun k hk => by rw [sel_get (by omega), decide_eq_false (by omega)]; rfl
   have hg0 := hg 0 (by omega)
   rw [Nat.add_zero] at hg0
   rw [q1, q2, q3, q4]
   simp only [Int.toNat_natCast, hg0, hg 1 (by omega), hg 2 (by omega), hg 3 (by omega)]
   have ec : [b.getD (4 * x) 0, b.getD (4 * x + 1) 0, b.getD (4 * x + 2) 0, b.getD (4 * x + 3) 0] = colL b x := rfl
   have ed : List.take (((4 : Nat) : Int).toNat - 0) (List.drop 0 (gcl (colL b x) [2, 3, 1, 1] 4)) = gcl (colL b x) [2, 3, 1, 1] 4 := rfl
   have em : (gcl (colL b x) [2, 3, 1, 1] 4).length.min (((16 : Nat) : Int).toNat - 4 * x) = 4 := by rw [gcl_len]; show min 4 (16 - 4 * x) = 4; omega
   have et : List.take 4 (gcl (colL b x) [2, 3, 1, 1] 4) = gcl (colL b x) [2, 3, 1, 1] 4 := rfl
   rw [ec]
   simp only [Int.toNat_natCast] at ed em
   simp only [ed, em, et]
   rw [sel_copy [2, 3, 1, 1] b x h]
   simp only [Int.toNat_natCast, show (4 * x + 4) / 4 = x + 1 by omega]
   and_intros <;> first | rfl | trivial | omega | exact ⟨_, rfl, colL_ok hb x, rfl⟩
  ·rename_i h
   have h : x = 4 := by have := of_decide_eq_false h; omega
   subst h
   rw [sel_all (eaL_len _ b) fun i _ => decide_eq_true (by omega)]
 ·show owed c87 (inv87 [14, 11, 13, 9] b) Try.f87 [b16 b, zF 94] (b16 (eaL [14, 11, 13, 9] b))
  rw [vc87b]
  simp (decide := true) only [eq_self, true_and, and_true, ne_eq, not_false_eq_true, Int.toNat_natCast]
  refine ⟨by and_intros <;> first | rfl | exact b16c (sel_none hb2 fun i _ => decide_eq_false (by omega)), ?_⟩
  intro x hx
  split
  ·rename_i h
   have h : x < 4 := by have := of_decide_eq_true h; omega
   have q : ∀ k : Nat, k ≤ 4 → IntKind.i64.wrap (((4 * x : Nat) : Int) + (k : Int)) = ((4 * x + k : Nat) : Int) := fun k hk => by rw [show ((4 * x : Nat) : Int) + (k : Int) = ((4 * x + k : Nat) : Int) by omega, wNi (by omega)]
   have q1 : IntKind.i64.wrap (((4 * x : Nat) : Int) + 1) = _ := q 1 (by omega)
   have q2 : IntKind.i64.wrap (((4 * x : Nat) : Int) + 2) = _ := q 2 (by omega)
   have q3 : IntKind.i64.wrap (((4 * x : Nat) : Int) + 3) = _ := q 3 (by omega)
   have q4 : IntKind.i64.wrap (((4 * x : Nat) : Int) + 4) = _ := q 4 (by omega)
   have hg : ∀ k, k < 4 → (selL 16 (fun j => decide (j < 4 * x)) (eaL [14, 11, 13, 9] b) b).getD (4 * x + k) 0 = b.getD (4 * x + k) 0 := fun k hk => by rw [sel_get (by omega), decide_eq_false (by omega)]; rfl
   have hg0 := hg 0 (by omega)
   rw [Nat.add_zero] at hg0
   rw [q1, q2, q3, q4]
   simp only [Int.toNat_natCast, hg0, hg 1 (by omega), hg 2 (by omega), hg 3 (by omega)]
   have ec : [b.getD (4 * x) 0, b.getD (4 * x + 1) 0, b.getD (4 * x + 2) 0, b.getD (4 * x + 3) 0] = colL b x := rfl
   have ed : List.take (((4 : Nat) : Int).toNat - 0) (List.drop 0 (gcl (colL b x) [14, 11, 13, 9] 4)) = gcl (colL b x) [14, 11, 13, 9] 4 := rfl
   have em : (gcl (colL b x) [14, 11, 13, 9] 4).length.min (((16 : Nat) : Int).toNat - 4 * x) = 4 := by rw [gcl_len]; show min 4 (16 - 4 * x) = 4; omega
   have et : List.take 4 (gcl (colL b x) [14, 11, 13, 9] 4) = gcl (colL b x) [14, 11, 13, 9] 4 := rfl
   rw [ec]
   simp only [Int.toNat_natCast] at ed em
   simp only [ed, em, et]
   rw [sel_copy [14, 11, 13, 9] b x h]
   simp only [Int.toNat_natCast, show (4 * x + 4) / 4 = x + 1 by omega]
   and_intros <;> first | rfl | trivial | omega | exact ⟨_, rfl, colL_ok hb x, rfl⟩
  ·rename_i h
   have h : x = 4 := by have := of_decide_eq_false h; omega
   subst h
   rw [sel_all (eaL_len _ b) fun i _ => decide_eq_true (by omega)]
set_option maxRecDepth 100000 in
theorem m90 : Meets Try.prog 90 sp90 := by
 refine meets_of_owed (C := c0) ⟨tab_ok, fun f s h => by cases h⟩ (by kernel_rfl) (by kernel_rfl : Try.prog.funcs[90]? = some Try.f90) (by kernel_rfl) (by kernel_rfl) (by kernel_rfl) _ ?_
 rintro _ ⟨b, rfl, hb, hb2⟩
 refine ⟨fun _ => rfl, inv90 b, ?_⟩
 show owed c0 (inv90 b) Try.f90 [b16 b] (b16 (trL b))
 rw [vc90]
 simp (decide := true) only [eq_self, true_and, and_true, ne_eq, not_false_eq_true, Int.toNat_natCast]
 refine ⟨by and_intros <;> first | rfl | exact b16c (sel_none z16_len fun i _ => decide_eq_false (by omega)), ?_⟩
 intro x hx
 split
 ·rename_i h
  have h := of_decide_eq_true h
  rw [show ((x : Int) + 1) = ((x + 1 : Nat) : Int) by omega, wNi (n := x + 1) (by omega), tm4, td4, wNi (n := x / 4) (by omega)]
  simp only [Int.toNat_natCast]
  have e : (trL b).getD (x % 4 * 4 + x / 4) 0 = b.getD x 0 := by
   rw [trL_get (by omega), show 4 * ((x % 4 * 4 + x / 4) % 4) + (x % 4 * 4 + x / 4) / 4 = x by omega]
  and_intros <;> first | rfl | trivial | omega | exact b16c (sel_setd (by omega) e.symm fun i _ => by omega)
 ·rename_i h
  have h := of_decide_eq_false h
  rw [sel_all (trL_len b) fun i _ => decide_eq_true (by omega)]
set_option maxRecDepth 100000 in
theorem m93 : Meets Try.prog 93 sp93 := by
 refine meets_of_owed (C := c0) ⟨tab_ok, fun f s h => by cases h⟩ (by kernel_rfl) (by kernel_rfl : Try.prog.funcs[93]? = some Try.f93) (by kernel_rfl) (by kernel_rfl) (by kernel_rfl) _ ?_
 rintro _ ⟨b, rfl, hb, hb2⟩
 refine ⟨fun _ => rfl, inv93 b, ?_⟩
 show owed c0 (inv93 b) Try.f93 [b16 b] (b16 (trL b))
 rw [vc93]
 simp (decide := true) only [eq_self, true_and, and_true, ne_eq, not_false_eq_true, Int.toNat_natCast]
 refine ⟨by and_intros <;> first | rfl | exact b16c (sel_none z16_len fun i _ => decide_eq_false (by omega)), ?_⟩
 intro x hx
 split
 ·rename_i h
  have h := of_decide_eq_true h
  rw [show ((x : Int) + 1) = ((x + 1 : Nat) : Int) by omega, wNi (n := x + 1) (by omega), tm4, td4, wNi (n := x / 4) (by omega)]
  simp only [Int.toNat_natCast]
  have e : b.getD (x % 4 * 4 + x / 4) 0 = (trL b).getD x 0 := by
   rw [trL_get (by omega), Nat.mul_comm 4]
  rw [e]
  and_intros <;> first | rfl | trivial | omega | exact b16c (sel_setd (by omega) rfl fun i _ => by omega)
 ·rename_i h
  have h := of_decide_eq_false h
  rw [sel_all (trL_len b) fun i _ => decide_eq_true (by omega)]
set_option maxRecDepth 100000 in
theorem m91 : Meets Try.prog 91 sp91 := by
 refine meets_of_owed (C := c0) ⟨tab_ok, fun f s h => by cases h⟩ (by kernel_rfl) (by kernel_rfl : Try.prog.funcs[91]? = some Try.f91) (by kernel_rfl) (by kernel_rfl) (by kernel_rfl) _ ?_
 rintro _ ⟨W, bx, ux, rfl, h1, h2⟩
 refine ⟨fun _ => rfl, fun _ => none, ?_⟩
 show owed c0 (fun _ => none) Try.f91 [.ref (cipD W bx ux)] (i64 ((W.length / 4 - 1 : Nat) : Int))
 rw [vc91, td4, wNi (n := W.length / 4) (by omega), show ((W.length / 4 : Nat) : Int) - 1 = ((W.length / 4 - 1 : Nat) : Int) by omega, wNi (by omega)]
 and_intros <;> first | rfl | trivial | omega | simp
end Go.Proofs.Ytnadggcfdakpoaa
namespace Go.Proofs.Ytnadggcfdakpoaa
open Go Go.Vg
theorem okW_get {W : List D} (h : okW W) {j : Nat} (hj : j < W.length) (d : D) : ∃ l, W.getD j d = b4 l ∧ isB 4 l := by
 rw [List.getD_eq_getElem?_getD, List.getElem?_eq_getElem hj]
 exact h _ (List.getElem_mem hj)
theorem flW_len : ∀ {W : List D}, okW W → (flW W).length = 4 * W.length
 | [], _ => rfl
 | d :: W, h => by
  obtain ⟨l, rfl, hl⟩ := h d (List.mem_cons_self ..)
  have := flW_len (W := W) fun z hz => h z (List.mem_cons_of_mem _ hz)
  show (l ++ flW W).length = 4 * (W.length + 1)
  rw [List.length_append, this, hl.2]
  omega
theorem flW_get : ∀ {W : List D}, okW W → ∀ {j k : Nat}, j < W.length → k < 4 → ∀ d, (flW W).getD (4 * j + k) 0 = (arrOf (W.getD j d)).getD k 0
 | [], _, _, _, h, _, _ => by simp at h
 | d :: W, h, j, k, hj, hk, d' => by
  obtain ⟨l, rfl, hl⟩ := h d (List.mem_cons_self ..)
  show (l ++ flW W).getD (4 * j + k) 0 = _
  cases j with
  | zero =>
   rw [List.getD_eq_getElem?_getD, List.getElem?_append_left (by rw [hl.2]; omega), show 4 * 0 + k = k by omega]
   rfl
  | succ j =>
   have := flW_get (W := W) (fun z hz => h z (List.mem_cons_of_mem _ hz)) (j := j) (k := k) (by simpa using hj) hk d'
   rw [List.getD_eq_getElem?_getD, List.getElem?_append_right (by rw [hl.2]; omega), hl.2, show 4 * (j + 1) + k - 4 = 4 * j + k by omega, ← List.getD_eq_getElem?_getD, this]
   rfl
theorem sel_extd {n : Nat} {P Q : Nat → Prop} [DecidablePred P] [DecidablePred Q] {a b : List Int} (h : ∀ i, i < n → (P i ↔ Q i)) : selL n (fun i => decide (P i)) a b = selL n (fun i => decide (Q i)) a b :=
 sel_ext fun i hi => decide_eq_decide.2 (h i hi)
attribute [local irreducible] selL s4L adK eaL shL usL trL adR mxR
set_option maxRecDepth 100000 in
theorem m89 : Meets Try.prog 89 sp89 := by
 refine meets_of_owed (C := c0) ⟨tab_ok, fun f s h => by cases h⟩ (by kernel_rfl) (by kernel_rfl : Try.prog.funcs[89]? = some Try.f89) (by kernel_rfl) (by kernel_rfl) (by kernel_rfl) _ ?_
 rintro _ ⟨W, bx, ux, g, n, rfl, hW, ⟨hg, hg2⟩, hn, hn2⟩
 refine ⟨fun _ => rfl, inv89 (flW W) n g, ?_⟩
 show owed c0 (inv89 (flW W) n g) Try.f89 [.ref (cipD W bx ux), b16 g, i64 ((n : Nat) : Int)] (b16 (adR (flW W) ((n : Nat) : Int).toNat g))
 rw [vc89, Int.toNat_natCast]
 simp (decide := true) only [eq_self, true_and, and_true, ne_eq, not_false_eq_true, Int.toNat_natCast]
 refine ⟨by and_intros <;> first | rfl | exact b16c (sel_none hg2 fun i _ => decide_eq_false (by omega)), ?_⟩
 intro x hx
 split
 ·rename_i h
  have h : x < 4 := by have := of_decide_eq_true h; omega
  refine ⟨by and_intros <;> first | exact True.intro | omega | exact b16c (sel_extd fun i _ => by omega) | rfl, ?_⟩
  rintro ⟨y, k⟩ ⟨hy, hk⟩
  simp only at hy hk ⊢
  obtain rfl : y = x := by omega
  split
  ·rename_i h2
   have h2 : k < 4 := by have := of_decide_eq_true h2; omega
   rw [show (4 : Int) * (n : Int) = ((4 * n : Nat) : Int) by omega, wNi (n := 4 * n) (by omega), show ((4 * n : Nat) : Int) + (k : Int) = ((4 * n + k : Nat) : Int) by omega, wNi (n := 4 * n + k) (by omega), show ((k : Int) + 1) = ((k + 1 : Nat) : Int) by omega, wNi (n := k + 1) (by omega)]
   simp only [Int.toNat_natCast]
   have e := flW_get hW (j := 4 * n + k) (k := y) (by omega) h (D.val (Value.bool false))
   obtain ⟨l, el, hl⟩ := okW_get hW (j := 4 * n + k) (by omega) (D.val (Value.bool false))
   have hgx : (selL 16 (fun j => decide (j < 4 * y + k)) (adR (flW W) n g) g).getD (y * 4 + k) 0 = g.getD (y * 4 + k) 0 := by rw [sel_get (by omega), decide_eq_false (by omega)]; rfl
   have ea := adR_get (w := flW W) (r := n) (b := g) (i := y * 4 + k) (by omega)
   rw [show 16 * n + 4 * ((y * 4 + k) % 4) + (y * 4 + k) / 4 = 4 * (4 * n + k) + y by omega, e] at ea
   rw [hgx, ← ea, el]
   and_intros <;> first | exact True.intro | omega | exact b16c (sel_setd (by omega) rfl fun i _ => by omega) | rfl
  ·rename_i h2
   have h2 : k = 4 := by have := of_decide_eq_false h2; omega
   subst h2
   rw [show ((y : Int) + 1) = ((y + 1 : Nat) : Int) by omega, wNi (n := y + 1) (by omega)]
   simp only [Int.toNat_natCast]
   and_intros <;> first | exact True.intro | omega | exact b16c (sel_extd fun i _ => by omega) | rfl
 ·rename_i h
  have h : x = 4 := by have := of_decide_eq_false h; omega
  subst h
  rw [sel_all (adR_len (flW W) n g) fun i _ => decide_eq_true (by omega)]
set_option maxRecDepth 100000 in
theorem m92 : Meets Try.prog 92 sp92 := by
 refine meets_of_owed (C := c92) ⟨tab_ok, lkS_ok ⟨m134, trivial⟩⟩ (by kernel_rfl) (by kernel_rfl : Try.prog.funcs[92]? = some Try.f92) (by kernel_rfl) (by kernel_rfl) (by kernel_rfl) _ ?_
 rintro _ ⟨g, y, rfl, ⟨hg, hg2⟩, hy, hy2⟩
 refine ⟨fun _ => rfl, inv92 y g, ?_⟩
 show owed c92 (inv92 y g) Try.f92 [b16 g, b4 y] (b16 (mxR y g))
 rw [vc92]
 simp (decide := true) only [eq_self, true_and, and_true, ne_eq, not_false_eq_true, Int.toNat_natCast]
 refine ⟨by and_intros <;> first | rfl | exact b16c (sel_none hg2 fun i _ => decide_eq_false (by omega)), ?_⟩
 intro x hx
 split
 ·rename_i h
  have h : x < 4 := by have := of_decide_eq_true h; omega
  have hgx : ∀ r, r < 4 → (selL 16 (fun j => decide (j % 4 < x)) (mxR y g) g).getD (4 * r + x) 0 = g.getD (4 * r + x) 0 := fun r hr => by rw [sel_get (by omega), decide_eq_false (by omega)]; rfl
  have h0 := hgx 0 (by omega)
  have h1 := hgx 1 (by omega)
  have h2 := hgx 2 (by omega)
  have h3 := hgx 3 (by omega)
  simp only [Nat.mul_zero, Nat.mul_one, show 4 * 2 = 8 from rfl, show 4 * 3 = 12 from rfl] at h0 h1 h2 h3
  simp only [h0, h1, h2, h3]
  rw [Nat.zero_add, show [g.getD x 0, g.getD (4 + x) 0, g.getD (8 + x) 0, g.getD (12 + x) 0] = rowL g x from rfl]
  refine ⟨by and_intros <;> omega, by and_intros <;> omega, by and_intros <;> omega, by and_intros <;> omega, ⟨_, _, rfl, ⟨rowL_ok hg x, rfl⟩, hy, hy2⟩, ?_⟩
  refine ⟨by and_intros <;> first | exact True.intro | omega | exact b16c (sel_ext fun i _ => by rw [Bool.eq_iff_iff]; simp only [Bool.or_eq_true, Bool.and_eq_true, decide_eq_true_eq]; omega) | rfl, ?_⟩
  rintro ⟨z, r⟩ ⟨hz, hr⟩
  simp only at hz hr ⊢
  obtain rfl : z = x := by omega
  split
  ·rename_i h4
   have h4 : r < 4 := by have := of_decide_eq_true h4; omega
   rw [show ((r : Int) + 1) = ((r + 1 : Nat) : Int) by omega, wNi (n := r + 1) (by omega)]
   simp only [Int.toNat_natCast]
   have em := mxR_get (y := y) (b := g) (i := r * 4 + z) (by omega)
   rw [show (r * 4 + z) % 4 = z by omega, show (r * 4 + z) / 4 = r by omega] at em
   rw [← em]
   and_intros <;> first | exact True.intro | omega | exact b16c (sel_set (by omega) rfl fun i _ => by rw [Bool.eq_iff_iff]; simp only [Bool.or_eq_true, Bool.and_eq_true, decide_eq_true_eq]; omega) | rfl
  ·rename_i h4
   have h4 : r = 4 := by have := of_decide_eq_false h4; omega
   subst h4
   rw [show ((z : Int) + 1) = ((z + 1 : Nat) : Int) by omega, wNi (n := z + 1) (by omega)]
   simp only [Int.toNat_natCast]
   and_intros <;> first | exact True.intro | omega | exact b16c (sel_ext fun i _ => by rw [Bool.eq_iff_iff]; simp only [Bool.or_eq_true, Bool.and_eq_true, decide_eq_true_eq]; omega) | rfl
 ·rename_i h
  have h : x = 4 := by have := of_decide_eq_false h; omega
  subst h
  rw [sel_all (mxR_len y g) fun i _ => decide_eq_true (by omega)]
end Go.Proofs.Ytnadggcfdakpoaa
