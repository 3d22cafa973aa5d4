/- The types, as the steps ask of them; checked against the program by the kernel. Written by a program of this session. -/
import Derived.Test.YtfbaghocbipbiaaZb7
import Derived.Test.YtfbaghocbipbiaaProg
import Derived.KernelRfl
import Derived.Test.YtfbaghocbipbiaaZb10
namespace Go.Proofs.Ytfbaghocbipbiaa
open Go Go.Vg
def tab : Tab := [
 ⟨.other, 0, 0, .val (.bool false), false⟩,
 ⟨.other, 1, 8, .val .nilFunc, false⟩,
 ⟨.int .i64, 1, 8, .val (.int .i64 0), false⟩,
 ⟨.int .i64, 1, 8, .val (.int .i64 0), false⟩,
 ⟨.bool, 1, 1, .val (.bool false), false⟩,
 ⟨.int .u8, 1, 1, .val (.int .u8 0), false⟩,
 ⟨.int .u8, 1, 1, .val (.int .u8 0), false⟩,
 ⟨.st [(0, 2), (1, 3), (2, 4), (3, 6)], 4, 24, .st [.val (.int .i64 0), .val (.int .i64 0), .val (.bool false), .val (.int .u8 0)], true⟩,
 ⟨.st [(0, 2), (1, 3), (2, 4), (3, 6)], 4, 24, .st [.val (.int .i64 0), .val (.int .i64 0), .val (.bool false), .val (.int .u8 0)], true⟩,
 ⟨.str, 1, 16, .str [], false⟩,
 ⟨.str, 1, 16, .str [], false⟩,
 ⟨.str, 1, 16, .str [], false⟩,
 ⟨.int .u64, 1, 8, .val (.int .u64 0), false⟩,
 ⟨.st [(0, 9), (1, 12)], 2, 24, .st [.str [], .val (.int .u64 0)], false⟩,
 ⟨.st [(0, 9), (1, 12)], 2, 24, .st [.str [], .val (.int .u64 0)], false⟩,
 ⟨.ptr 169, 1, 8, .val (.pointer none), false⟩,
 ⟨.ptr 172, 1, 8, .val (.pointer none), false⟩,
 ⟨.ptr 180, 1, 8, .val (.pointer none), false⟩,
 ⟨.st [(0, 17)], 1, 8, .st [.val (.pointer none)], false⟩,
 ⟨.st [(0, 17)], 1, 8, .st [.val (.pointer none)], false⟩,
 ⟨.other, 1, 16, .val .nilIface, false⟩,
 ⟨.int .i32, 1, 4, .val (.int .i32 0), false⟩,
 ⟨.slice 69, 1, 24, .slc 5 [], false⟩,
 ⟨.int .i64, 1, 8, .val (.int .i64 0), false⟩,
 ⟨.other, 1, 8, .val .nilFunc, false⟩,
 ⟨.int .u64, 1, 8, .val (.int .u64 0), false⟩,
 ⟨.arr 4 25, 4, 32, .arr .u64 4 (List.replicate 4 0), false⟩,
 ⟨.arr 4 25, 4, 32, .arr .u64 4 (List.replicate 4 0), false⟩,
 ⟨.other, 0, 0, .val (.bool false), false⟩,
 ⟨.other, 1, 8, .val .nilFunc, false⟩,
 ⟨.other, 1, 8, .val .nilFunc, false⟩,
 ⟨.other, 1, 8, .val .nilFunc, false⟩,
 ⟨.slice 83, 1, 24, .slc 2 [], false⟩,
 ⟨.slice 3, 1, 24, .ints .i64 [], false⟩,
 ⟨.other, 1, 8, .val .nilFunc, false⟩,
 ⟨.other, 0, 0, .val (.bool false), false⟩,
 ⟨.other, 1, 8, .val .nilFunc, false⟩,
 ⟨.arr 19 4, 19, 19, .st [.val (.bool false), .val (.bool false), .val (.bool false), .val (.bool false), .val (.bool false), .val (.bool false), .val (.bool false), .val (.bool false), .val (.bool false), .val (.bool false), .val (.bool false), .val (.bool false), .val (.bool false), .val (.bool false), .val (.bool false), .val (.bool false), .val (.bool false), .val (.bool false), .val (.bool false)], false⟩,
 ⟨.arr 19 9, 19, 304, .st [.str [], .str [], .str [], .str [], .str [], .str [], .str [], .str [], .str [], .str [], .str [], .str [], .str [], .str [], .str [], .str [], .str [], .str [], .str []], false⟩,
 ⟨.st [(0, 37), (19, 38)], 38, 328, .st [.st [.val (.bool false), .val (.bool false), .val (.bool false), .val (.bool false), .val (.bool false), .val (.bool false), .val (.bool false), .val (.bool false), .val (.bool false), .val (.bool false), .val (.bool false), .val (.bool false), .val (.bool false), .val (.bool false), .val (.bool false), .val (.bool false), .val (.bool false), .val (.bool false), .val (.bool false)], .st [.str [], .str [], .str [], .str [], .str [], .str [], .str [], .str [], .str [], .str [], .str [], .str [], .str [], .str [], .str [], .str [], .str [], .str [], .str []]], false⟩,
 ⟨.st [(0, 37), (19, 38)], 38, 328, .st [.st [.val (.bool false), .val (.bool false), .val (.bool false), .val (.bool false), .val (.bool false), .val (.bool false), .val (.bool false), .val (.bool false), .val (.bool false), .val (.bool false), .val (.bool false), .val (.bool false), .val (.bool false), .val (.bool false), .val (.bool false), .val (.bool false), .val (.bool false), .val (.bool false), .val (.bool false)], .st [.str [], .str [], .str [], .str [], .str [], .str [], .str [], .str [], .str [], .str [], .str [], .str [], .str [], .str [], .str [], .str [], .str [], .str [], .str []]], false⟩,
 ⟨.other, 0, 0, .val (.bool false), false⟩,
 ⟨.other, 1, 8, .val .nilFunc, false⟩,
 ⟨.other, 1, 8, .val .nilFunc, false⟩,
 ⟨.other, 1, 8, .val .nilFunc, false⟩,
 ⟨.other, 1, 8, .val .nilFunc, false⟩,
 ⟨.other, 1, 8, .val .nilFunc, false⟩,
 ⟨.other, 1, 8, .val .nilFunc, false⟩,
 ⟨.other, 1, 8, .val .nilFunc, false⟩,
 ⟨.other, 1, 8, .val .nilFunc, false⟩,
 ⟨.other, 1, 8, .val .nilFunc, false⟩,
 ⟨.other, 1, 8, .val .nilFunc, false⟩,
 ⟨.slice 5, 1, 24, .ints .u8 [], false⟩,
 ⟨.other, 0, 0, .val (.bool false), false⟩,
 ⟨.other, 1, 8, .val .nilFunc, false⟩,
 ⟨.other, 0, 0, .val (.bool false), false⟩,
 ⟨.other, 1, 8, .val .nilFunc, false⟩,
 ⟨.other, 1, 8, .val .nilFunc, false⟩,
 ⟨.other, 1, 8, .val .nilFunc, false⟩,
 ⟨.other, 1, 8, .val .nilFunc, false⟩,
 ⟨.other, 0, 0, .val (.bool false), false⟩,
 ⟨.other, 1, 8, .val .nilFunc, false⟩,
 ⟨.other, 1, 8, .val .nilFunc, false⟩,
 ⟨.other, 1, 8, .val .nilFunc, false⟩,
 ⟨.other, 1, 8, .val .nilFunc, false⟩,
 ⟨.other, 1, 8, .val .nilFunc, false⟩,
 ⟨.other, 1, 8, .val .nilFunc, false⟩,
 ⟨.other, 1, 8, .val .nilFunc, false⟩,
 ⟨.st [(0, 3), (1, 27)], 5, 40, .st [.val (.int .i64 0), .arr .u64 4 (List.replicate 4 0)], true⟩,
 ⟨.st [(0, 3), (1, 27)], 5, 40, .st [.val (.int .i64 0), .arr .u64 4 (List.replicate 4 0)], true⟩,
 ⟨.other, 1, 8, .val .nilFunc, false⟩,
 ⟨.other, 1, 8, .val .nilFunc, false⟩,
 ⟨.other, 1, 8, .val .nilFunc, false⟩,
 ⟨.other, 1, 8, .val .nilFunc, false⟩,
 ⟨.other, 1, 8, .val .nilFunc, false⟩,
 ⟨.other, 1, 8, .val .nilFunc, false⟩,
 ⟨.slice 33, 1, 24, .slc 1 [], false⟩,
 ⟨.other, 1, 8, .val .nilFunc, false⟩,
 ⟨.other, 1, 8, .val .nilFunc, false⟩,
 ⟨.other, 1, 8, .val .nilFunc, false⟩,
 ⟨.other, 1, 8, .val .nilFunc, false⟩,
 ⟨.other, 1, 8, .val .nilFunc, false⟩,
 ⟨.st [(0, 3), (1, 52)], 2, 32, .st [.val (.int .i64 0), .ints .u8 []], false⟩,
 ⟨.st [(0, 3), (1, 52)], 2, 32, .st [.val (.int .i64 0), .ints .u8 []], false⟩,
 ⟨.other, 1, 8, .val .nilFunc, false⟩,
 ⟨.other, 1, 8, .val .nilFunc, false⟩,
 ⟨.other, 1, 8, .val .nilFunc, false⟩,
 ⟨.other, 1, 8, .val .nilFunc, false⟩,
 ⟨.other, 1, 8, .val .nilFunc, false⟩,
 ⟨.other, 1, 8, .val .nilFunc, false⟩,
 ⟨.other, 1, 8, .val .nilFunc, false⟩,
 ⟨.other, 1, 8, .val .nilFunc, false⟩,
 ⟨.other, 1, 8, .val .nilFunc, false⟩,
 ⟨.other, 1, 8, .val .nilFunc, false⟩,
 ⟨.other, 1, 8, .val .nilFunc, false⟩,
 ⟨.other, 1, 8, .val .nilFunc, false⟩,
 ⟨.other, 1, 8, .val .nilFunc, false⟩,
 ⟨.other, 1, 8, .val .nilFunc, false⟩,
 ⟨.other, 1, 8, .val .nilFunc, false⟩,
 ⟨.slice 101, 1, 24, .slc 2 [], false⟩,
 ⟨.st [(0, 5), (1, 52)], 2, 32, .st [.val (.int .u8 0), .ints .u8 []], false⟩,
 ⟨.st [(0, 5), (1, 52)], 2, 32, .st [.val (.int .u8 0), .ints .u8 []], false⟩,
 ⟨.other, 1, 8, .val .nilFunc, false⟩,
 ⟨.other, 0, 0, .val (.bool false), false⟩,
 ⟨.other, 1, 8, .val .nilFunc, false⟩,
 ⟨.other, 1, 8, .val .nilFunc, false⟩,
 ⟨.other, 1, 8, .val .nilFunc, false⟩,
 ⟨.other, 1, 8, .val .nilFunc, false⟩,
 ⟨.other, 1, 8, .val .nilFunc, false⟩,
 ⟨.other, 0, 0, .val (.bool false), false⟩,
 ⟨.other, 1, 8, .val .nilFunc, false⟩,
 ⟨.other, 1, 8, .val .nilFunc, false⟩,
 ⟨.other, 1, 8, .val .nilFunc, false⟩,
 ⟨.arr 8 25, 8, 64, .arr .u64 8 (List.replicate 8 0), false⟩,
 ⟨.arr 8 25, 8, 64, .arr .u64 8 (List.replicate 8 0), false⟩,
 ⟨.other, 1, 8, .val .nilFunc, false⟩,
 ⟨.other, 0, 0, .val (.bool false), false⟩,
 ⟨.other, 1, 8, .val .nilFunc, false⟩,
 ⟨.other, 1, 8, .val .nilFunc, false⟩,
 ⟨.slice 25, 1, 24, .ints .u64 [], false⟩,
 ⟨.other, 1, 8, .val .nilFunc, false⟩,
 ⟨.other, 1, 8, .val .nilFunc, false⟩,
 ⟨.other, 0, 0, .val (.bool false), false⟩,
 ⟨.other, 1, 8, .val .nilFunc, false⟩,
 ⟨.other, 1, 8, .val .nilFunc, false⟩,
 ⟨.other, 1, 8, .val .nilFunc, false⟩,
 ⟨.other, 1, 8, .val .nilFunc, false⟩,
 ⟨.other, 1, 8, .val .nilFunc, false⟩,
 ⟨.other, 1, 8, .val .nilFunc, false⟩,
 ⟨.other, 1, 8, .val .nilFunc, false⟩,
 ⟨.int .u64, 1, 8, .val (.int .u64 0), false⟩,
 ⟨.other, 1, 8, .val .nilFunc, false⟩,
 ⟨.other, 0, 0, .val (.bool false), false⟩,
 ⟨.other, 1, 8, .val .nilFunc, false⟩,
 ⟨.other, 1, 8, .val .nilFunc, false⟩,
 ⟨.other, 1, 8, .val .nilFunc, false⟩,
 ⟨.other, 1, 8, .val .nilFunc, false⟩,
 ⟨.other, 0, 0, .val (.bool false), false⟩,
 ⟨.other, 1, 8, .val .nilFunc, false⟩,
 ⟨.other, 1, 8, .val .nilFunc, false⟩,
 ⟨.other, 0, 0, .val (.bool false), false⟩,
 ⟨.other, 1, 8, .val .nilFunc, false⟩,
 ⟨.other, 1, 8, .val .nilFunc, false⟩,
 ⟨.other, 1, 8, .val .nilFunc, false⟩,
 ⟨.int .i64, 1, 8, .val (.int .i64 0), false⟩,
 ⟨.other, 0, 0, .val (.bool false), false⟩,
 ⟨.other, 1, 8, .val .nilFunc, false⟩,
 ⟨.other, 1, 8, .val .nilFunc, false⟩,
 ⟨.other, 1, 8, .val .nilFunc, false⟩,
 ⟨.other, 0, 0, .val (.bool false), false⟩,
 ⟨.other, 1, 8, .val .nilFunc, false⟩,
 ⟨.other, 1, 8, .val .nilFunc, false⟩,
 ⟨.int .u32, 1, 4, .val (.int .u32 0), false⟩,
 ⟨.other, 1, 8, .val .nilFunc, false⟩,
 ⟨.other, 0, 0, .val (.bool false), false⟩,
 ⟨.other, 1, 8, .val .nilFunc, false⟩,
 ⟨.other, 1, 8, .val .nilFunc, false⟩,
 ⟨.other, 1, 8, .val .nilFunc, false⟩,
 ⟨.int .u64, 1, 8, .val (.int .u64 0), false⟩,
 ⟨.other, 1, 8, .val .nilFunc, false⟩,
 ⟨.other, 1, 8, .val .nilFunc, false⟩,
 ⟨.other, 1, 8, .val .nilFunc, false⟩,
 ⟨.ptr 3, 1, 8, .val (.pointer none), false⟩,
 ⟨.other, 1, 8, .val .nilFunc, false⟩,
 ⟨.ptr 158, 1, 8, .val (.pointer none), false⟩,
 ⟨.other, 0, 0, .val (.bool false), false⟩,
 ⟨.other, 1, 8, .val .nilFunc, false⟩,
 ⟨.other, 1, 8, .val .nilFunc, false⟩,
 ⟨.st [(0, 17), (1, 17), (2, 17), (3, 9)], 4, 40, .st [.val (.pointer none), .val (.pointer none), .val (.pointer none), .str []], false⟩,
 ⟨.st [(0, 17), (1, 17), (2, 17), (3, 9)], 4, 40, .st [.val (.pointer none), .val (.pointer none), .val (.pointer none), .str []], false⟩,
 ⟨.other, 0, 0, .val (.bool false), false⟩,
 ⟨.other, 0, 0, .val (.bool false), false⟩,
 ⟨.other, 0, 0, .val (.bool false), false⟩,
 ⟨.int .u8, 1, 1, .val (.int .u8 0), false⟩,
 ⟨.int .u8, 1, 1, .val (.int .u8 0), false⟩,
 ⟨.other, 1, 8, .val .nilFunc, false⟩,
 ⟨.ptr 5, 1, 8, .val (.pointer none), false⟩,
 ⟨.int .i32, 1, 4, .val (.int .i32 0), false⟩,
 ⟨.int .i32, 1, 4, .val (.int .i32 0), false⟩,
 ⟨.st [(0, 12), (1, 12), (2, 152), (3, 173), (4, 5), (5, 5), (6, 174), (7, 175), (8, 176), (9, 177), (10, 178)], 11, 48, .st [.val (.int .u64 0), .val (.int .u64 0), .val (.int .u32 0), .val (.int .u8 0), .val (.int .u8 0), .val (.int .u8 0), .val (.int .u8 0), .val .nilFunc, .val (.pointer none), .val (.int .i32 0), .val (.int .i32 0)], false⟩,
 ⟨.st [(0, 12), (1, 12), (2, 152), (3, 173), (4, 5), (5, 5), (6, 174), (7, 175), (8, 176), (9, 177), (10, 178)], 11, 48, .st [.val (.int .u64 0), .val (.int .u64 0), .val (.int .u32 0), .val (.int .u8 0), .val (.int .u8 0), .val (.int .u8 0), .val (.int .u8 0), .val .nilFunc, .val (.pointer none), .val (.int .i32 0), .val (.int .i32 0)], false⟩,
 ⟨.other, 0, 0, .val (.bool false), false⟩]
theorem tab_ok : TabOk Try.prog tab := tabB_ok (by kernel_rfl)
end Go.Proofs.Ytfbaghocbipbiaa
namespace Go.Proofs.Ytfbaghocbipbiaa
open Go Go.Vg
abbrev at_ (k : Int) (v : List Int) : D := .st [i64 k, .ints .u8 v]
def kOf (d : D) : Int := numOf (fldOf d 0)
def vOf (d : D) : List Int := intsOf (fldOf d 1)
def fi (k : Int) : List D → Nat
 | [] => 0
 | d :: r => if kOf d = k then 0 else fi k r + 1
def okv (v : List Int) : Prop := v.length ≤ 140737488351232 ∧ isBytes v
def isAt (d : D) : Prop := ∃ k v, d = at_ k v ∧ v.length ≤ 140737488351232 ∧ isBytes v
def okl (l : List D) : Prop := (∀ x ∈ l, isAt x) ∧ l.length ≤ 140737488351232
def fx (k : Int) (l : List D) : Int := if fi k l < l.length then (fi k l : Int) else -1
def vl (k : Int) (l : List D) : List Int := if fi k l < l.length then vOf (l.getD (fi k l) default) else []
def has (k : Int) (l : List D) : Bool := decide (fi k l < l.length)
def isb (k : Int) (l : List D) : Bool := has k l && decide (vl k l = [1])
def hid (l : List D) : Bool := isb 8 l || (has 9 l && !isb 9 l)
def fitB (k : Int) (v : List Int) : Bool :=
 if k = 1 then decide (v.length = 1 ∧ 1 ≤ v.getD 0 0 ∧ v.getD 0 0 ≤ 4)
 else if k = 2 ∨ k = 3 then decide (v.length ≤ 32)
 else if k = 4 then decide (v.length ≤ 64)
 else decide (v.length = 1 ∧ v.getD 0 0 ≤ 1)
def afI (l : List D) (i : Nat) : Int :=
 if kOf (l.getD i default) < 1 ∨ 18 < kOf (l.getD i default) then 13
 else if fitB (kOf (l.getD i default)) (vOf (l.getD i default)) = false then 4
 else if has (kOf (l.getD i default)) (l.take i) = true then 1 else 0
def afN (l : List D) : Nat → Int
 | 0 => 0
 | n + 1 => if afN l n = 0 then afI l n else afN l n
def afE (l : List D) : Int := if 24 < l.length then 2 else afN l l.length
def hL (h : Nat → Bool) : List D := (List.range 19).map fun k => bl (h k)
def vL (v : Nat → List Int) : List D := (List.range 19).map fun k => .str (v k)
def cdD (h : Nat → Bool) (v : Nat → List Int) : D := .st [.st (hL h), .st (vL v)]
def cH (l : List D) (k : Nat) : Bool := decide (1 ≤ k) && has k l
def cV (l : List D) (k : Nat) : List Int := if cH l k = true then vl k l else []
def atP (h : Nat → Bool) (v : Nat → List Int) (n : Nat) : List D := ((List.range n).filter h).map fun k : Nat => at_ (k : Int) (v k)
def atL (h : Nat → Bool) (v : Nat → List Int) : List D := atP h v 19
def sameB : List D → List D → Bool
 | [], [] => true
 | x :: a, y :: b => decide (kOf x = kOf y) && (decide (vOf x = vOf y) && sameB a b)
 | _, _ => false
def clV (v : List Int) : Int := if v.length = 1 then v.getD 0 0 else 0
def clP (l : List D) : Int := clV (vl 1 l)
def belB (c k : Int) : Bool :=
 if c = 1 then decide (1 ≤ k ∧ k ≤ 7) else if c = 2 then decide (1 ≤ k ∧ k ≤ 17)
 else if c = 3 then decide (1 ≤ k ∧ k ≤ 7 ∨ k = 14) else if c = 4 then decide (1 ≤ k ∧ k ≤ 13 ∨ k = 18) else false
def szR (c : Int) (n : Nat) : Bool := decide (c = 1) || (decide (n = 32) || (decide (c = 2) && (decide (n = 16) || decide (n = 24))))
def oneV (v : Nat → List Int) (k : Nat) : Bool := decide (v k = [1])
def flgB (v : Nat → List Int) : Bool :=
 (!oneV v 10 || oneV v 8) && ((!oneV v 11 || !oneV v 9) && !((oneV v 16 || oneV v 17) && (oneV v 13 || (oneV v 14 || oneV v 15))))
def belN (h : Nat → Bool) (c : Int) : Nat → Bool
 | 0 => true
 | n + 1 => belN h c n && decide (h (n + 1) = belB c ((n + 1 : Nat) : Int))
def objB (h : Nat → Bool) (v : Nat → List Int) : Bool :=
 belN h (clV (v 1)) 18 && (h 1 && (szR (clV (v 1)) (v 4).length && flgB v))
def valB (l : List D) : Bool := decide (afE l = 0) && (sameB l (atL (cH l) (cV l)) && objB (cH l) (cV l))
def kdP (n : Nat) : List Int := (List.range n).map fun i => ((i + 1 : Nat) : Int)
def lastK (c : Int) : Nat := if c = 1 ∨ c = 3 then 7 else if c = 2 then 17 else if c = 4 then 13 else 0
def kdL (c : Int) : List Int := kdP (lastK c) ++ (if c = 3 then [14] else if c = 4 then [18] else [])
def szP (c : Int) (n : Nat) : Bool := if c = 2 then decide (n = 16 ∨ n = 24 ∨ n = 32) else if c = 3 ∨ c = 4 then decide (n = 32) else true
def sndB (l : List D) : Bool :=
 !(isb 10 l && !isb 8 l) && (!(isb 11 l && isb 9 l) && !((isb 16 l || isb 17 l) && (isb 13 l || (isb 14 l || isb 15 l))))
def msL (t : List D) (k c : Int) (b : Bool) : List Int :=
 if k = 2 ∨ k = 3 then [] else if k = 6 then [cond (decide (c = 2 ∨ c = 4)) 1 0] else if k = 7 ∨ k = 9 then [1]
 else if k = 12 then [cond b 1 0] else if k = 10 then [cond (b && isb 8 t) 1 0]
 else if k = 11 then [cond (b && (has 9 t && !isb 9 t)) 1 0] else [0]
def ouV (t : List D) (b : Bool) (k : Int) : List Int := if has k t = true then vl k t else msL t k (clP t) b
def ouL (t : List D) (b : Bool) : List D := (kdL (clP t)).map fun k => at_ k (ouV t b k)
def tkI (t : List D) (i : Nat) : Int :=
 if belB (clP t) (kOf (t.getD i default)) = false then 13
 else if 10 ≤ kOf (t.getD i default) ∧ kOf (t.getD i default) ≤ 12 then 12 else 0
def tkN (t : List D) : Nat → Int
 | 0 => 0
 | n + 1 => if tkN t n = 0 then tkI t n else tkN t n
def mkF (t : List D) : Int :=
 if afE t ≠ 0 then afE t else if clP t = 0 then 1 else if tkN t t.length ≠ 0 then tkN t t.length
 else if has 4 t = false then 3 else if szR (clP t) (vl 4 t).length = false then 4 else 0
def mkE (t : List D) (b : Bool) : Int := if mkF t ≠ 0 then mkF t else if valB (ouL t b) = false then 12 else 0
def mkL (t : List D) (b : Bool) : List D := if mkE t b = 0 then ouL t b else []
def flg (b : Bool) : List Int := [cond b 1 0]
def d0V (c : Int) (k : Nat) : List Int :=
 if belB c k = true ∧ 4 < k then flg (decide (k = 7) || (decide (k = 9) || (decide (k = 6) && decide (c % 2 = 0)))) else []
def dH (c : Int) (k : Nat) : Bool := decide (1 ≤ k) && belB c k
def upH (h g : Nat → Bool) (k : Nat) : Bool := g k || h k
def upV (g : Nat → Bool) (v w : Nat → List Int) (k : Nat) : List Int := if g k = true then w k else v k
def d1H (t : List D) : Nat → Bool := upH (dH (clP t)) (cH t)
def d1V (t : List D) : Nat → List Int := upV (cH t) (d0V (clP t)) (cV t)
def setV (v : Nat → List Int) (j : Nat) (x : List Int) (k : Nat) : List Int := if k = j then x else v k
def d2V (t : List D) (b : Bool) : Nat → List Int :=
 if clP t % 2 = 0 then setV (setV (setV (d1V t) 12 (flg b)) 10 (flg (b && oneV (setV (d1V t) 12 (flg b)) 8))) 11
  (flg (b && !oneV (setV (setV (d1V t) 12 (flg b)) 10 (flg (b && oneV (setV (d1V t) 12 (flg b)) 8))) 9))
 else d1V t
def mdE (t : List D) (b : Bool) : Int := if mkF t ≠ 0 then mkF t else if objB (d1H t) (d2V t b) = false then 12 else 0
def mdH (t : List D) (b : Bool) (k : Nat) : Bool := decide (mdE t b = 0) && d1H t k
def mdV (t : List D) (b : Bool) (k : Nat) : List Int := if mdE t b = 0 then d2V t b k else []
/- plain laws -/
theorem fi_le (k : Int) : ∀ l, fi k l ≤ l.length
 | [] => Nat.le_refl _
 | d :: r => by
  unfold fi
  split
  ·exact Nat.zero_le _
  ·exact Nat.succ_le_succ (fi_le k r)
theorem fi_at (k : Int) : ∀ l x, x ≤ fi k l → x < l.length → kOf (l.getD x default) = k → fi k l = x
 | [], x, _, h, _ => by simp at h
 | d :: r, x, h1, h2, h3 => by
  unfold fi at h1 ⊢
  by_cases hd : kOf d = k
  ·rw [if_pos hd] at h1 ⊢
   omega
  ·rw [if_neg hd] at h1 ⊢
   cases x with
   | zero => exact absurd h3 hd
   | succ x => rw [fi_at k r x (by omega) (by simpa using h2) (by simpa using h3)]
theorem fi_no (k : Int) : ∀ l x, x ≤ fi k l → x < l.length → kOf (l.getD x default) ≠ k → x + 1 ≤ fi k l
 | [], x, _, h, _ => by simp at h
 | d :: r, x, h1, h2, h3 => by
  unfold fi at h1 ⊢
  by_cases hd : kOf d = k
  ·rw [if_pos hd] at h1
   obtain rfl : x = 0 := by omega
   exact absurd hd h3
  ·rw [if_neg hd] at h1 ⊢
   cases x with
   | zero => omega
   | succ x =>
    have := fi_no k r x (by omega) (by simpa using h2) (by simpa using h3)
    omega
theorem el {l : List D} (h : okl l) {x : Nat} (hx : x < l.length) : ∃ k v, l.getD x (.val (.bool false)) = at_ k v ∧ v.length ≤ 140737488351232 ∧ isBytes v := by
 have hm : l.getD x (.val (.bool false)) ∈ l := by
  rw [List.getD_eq_getElem?_getD, List.getElem?_eq_getElem hx]
  exact List.getElem_mem hx
 obtain ⟨k, v, e, h1, h2⟩ := h.1 _ hm
 exact ⟨k, v, e, h1, h2⟩
theorem vl_ok {l : List D} (h : okl l) (k : Int) : (vl k l).length ≤ 140737488351232 ∧ isBytes (vl k l) := by
 unfold vl
 split
 ·rename_i hx
  obtain ⟨k', v, e, h1, h2⟩ := el h hx
  rw [show l.getD (fi k l) default = at_ k' v from e]
  exact ⟨h1, h2⟩
 ·exact ⟨by simp, fun x hx => by cases hx⟩
theorem nil1 (k : Int) (l : List D) (h : has k l = false) : vl k l = [] := by
 unfold has at h
 unfold vl
 rw [if_neg (of_decide_eq_false h)]
theorem isb_eq (k : Int) (l : List D) : isb k l = decide (vl k l = [1]) := by
 unfold isb
 cases h : has k l
 ·rw [nil1 k l h]; rfl
 ·rw [Bool.true_and]
theorem has_nil (k : Int) : has k [] = false := rfl
theorem has_cons (k : Int) (d : D) (r : List D) : has k (d :: r) = (decide (kOf d = k) || has k r) := by
 unfold has
 rw [show fi k (d :: r) = if kOf d = k then 0 else fi k r + 1 from rfl]
 by_cases h : kOf d = k
 ·rw [if_pos h, decide_eq_true h]; simp
 ·rw [if_neg h, decide_eq_false h]; simp
theorem vl_cons (k : Int) (d : D) (r : List D) : vl k (d :: r) = if kOf d = k then vOf d else vl k r := by
 unfold vl
 rw [fi]
 by_cases h : kOf d = k
 ·rw [if_pos h, if_pos h]; simp
 ·rw [if_neg h, if_neg h]; simp
theorem has_iff {k : Int} : ∀ {l : List D}, has k l = true ↔ k ∈ l.map kOf
 | [] => by simp [has_nil]
 | d :: r => by
  rw [has_cons, Bool.or_eq_true, decide_eq_true_iff, has_iff, List.map_cons, List.mem_cons]
  exact ⟨fun h => h.elim (fun h => .inl h.symm) .inr, fun h => h.elim (fun h => .inl h.symm) .inr⟩
theorem has_app (k : Int) (d : D) : ∀ l : List D, has k (l ++ [d]) = (has k l || decide (kOf d = k))
 | [] => by rw [List.nil_append, has_cons, has_nil, Bool.or_false, Bool.false_or]
 | x :: r => by rw [List.cons_append, has_cons, has_cons, has_app k d r, Bool.or_assoc]
theorem vl_app (k : Int) (d : D) : ∀ l : List D, vl k (l ++ [d]) = if has k l = true then vl k l else if kOf d = k then vOf d else []
 | [] => by rw [List.nil_append, vl_cons, has_nil]; rfl
 | x :: r => by
  rw [List.cons_append, vl_cons, has_cons, vl_app k d r, vl_cons]
  by_cases h : kOf x = k
  ·rw [if_pos h, decide_eq_true h, Bool.true_or, if_pos rfl, if_pos h]
  ·rw [if_neg h, decide_eq_false h, Bool.false_or, if_neg h]
theorem take_snoc {l : List D} {i : Nat} (h : i < l.length) : l.take (i + 1) = l.take i ++ [l.getD i default] := by
 rw [List.take_add_one, List.getD_eq_getElem?_getD, List.getElem?_eq_getElem h]; rfl
theorem hL_len (h : Nat → Bool) : (hL h).length = 19 := by simp [hL]
theorem vL_len (v : Nat → List Int) : (vL v).length = 19 := by simp [vL]
theorem hL_get (h : Nat → Bool) {k : Nat} (hk : k < 19) (x : D) : (hL h).getD k x = bl (h k) := by
 rw [List.getD_eq_getElem?_getD, hL, List.getElem?_map, List.getElem?_range hk]; rfl
theorem vL_get (v : Nat → List Int) {k : Nat} (hk : k < 19) (x : D) : (vL v).getD k x = .str (v k) := by
 rw [List.getD_eq_getElem?_getD, vL, List.getElem?_map, List.getElem?_range hk]; rfl
theorem map_set {α : Type} (f : Nat → α) (n k : Nat) (x : α) : ((List.range n).map f).set k x = (List.range n).map fun j => if j = k then x else f j := by
 refine List.ext_getElem (by simp) fun j h1 h2 => ?_
 simp only [List.getElem_set, List.getElem_map, List.getElem_range]
 by_cases h : k = j
 ·rw [if_pos h, if_pos h.symm]
 ·rw [if_neg h, if_neg (fun e => h e.symm)]
theorem hL_set (h : Nat → Bool) (k : Nat) (b : Bool) : (hL h).set k (bl b) = hL fun j => if j = k then b else h j := by
 rw [hL, map_set]
 refine List.map_congr_left fun j _ => ?_
 show (if j = k then bl b else bl (h j)) = bl (if j = k then b else h j)
 by_cases e : j = k
 ·rw [if_pos e, if_pos e]
 ·rw [if_neg e, if_neg e]
theorem vL_set (v : Nat → List Int) (k : Nat) (x : List Int) : (vL v).set k (.str x) = vL (setV v k x) := by
 rw [vL, map_set]
 refine List.map_congr_left fun j _ => ?_
 unfold setV
 by_cases e : j = k
 ·rw [if_pos e, if_pos e]
 ·rw [if_neg e, if_neg e]
theorem hL_congr {h g : Nat → Bool} (e : ∀ k, k < 19 → h k = g k) : hL h = hL g :=
 List.map_congr_left fun k hk => by rw [e k (List.mem_range.1 hk)]
theorem vL_congr {v w : Nat → List Int} (e : ∀ k, k < 19 → v k = w k) : vL v = vL w :=
 List.map_congr_left fun k hk => by rw [e k (List.mem_range.1 hk)]
theorem hL_ones (h : Nat → Bool) : Go.Vg.ones (hL h) := by
 intro d hd
 obtain ⟨k, _, rfl⟩ := List.mem_map.1 hd
 rfl
theorem vL_ones (v : Nat → List Int) : Go.Vg.ones (vL v) := by
 intro d hd
 obtain ⟨k, _, rfl⟩ := List.mem_map.1 hd
 rfl
theorem afN_stop {l : List D} {n : Nat} (h : afN l n ≠ 0) : ∀ m, n ≤ m → afN l m = afN l n
 | 0, hm => by
  obtain rfl : n = 0 := by omega
  rfl
 | m + 1, hm => by
  by_cases e : n = m + 1
  ·rw [e]
  ·have ih := afN_stop h m (by omega)
   rw [afN, if_neg (by rw [ih]; exact h), ih]
theorem afN_zero {l : List D} {n : Nat} (h : afN l n = 0) : ∀ i, i < n → afI l i = 0 := by
 induction n with
 | zero => exact fun i hi => absurd hi (Nat.not_lt_zero i)
 | succ n ih =>
  intro i hi
  have h0 : afN l n = 0 := by
   by_cases e : afN l n = 0
   ·exact e
   ·rw [afN, if_neg e] at h; exact h
  rw [afN, if_pos h0] at h
  by_cases e : i = n
  ·rw [e]; exact h
  ·exact ih h0 i (by omega)
theorem tkN_stop {l : List D} {n : Nat} (h : tkN l n ≠ 0) : ∀ m, n ≤ m → tkN l m = tkN l n
 | 0, hm => by
  obtain rfl : n = 0 := by omega
  rfl
 | m + 1, hm => by
  by_cases e : n = m + 1
  ·rw [e]
  ·have ih := tkN_stop h m (by omega)
   rw [tkN, if_neg (by rw [ih]; exact h), ih]
theorem tkN_zero {l : List D} {n : Nat} (h : tkN l n = 0) : ∀ i, i < n → tkI l i = 0 := by
 induction n with
 | zero => exact fun i hi => absurd hi (Nat.not_lt_zero i)
 | succ n ih =>
  intro i hi
  have h0 : tkN l n = 0 := by
   by_cases e : tkN l n = 0
   ·exact e
   ·rw [tkN, if_neg e] at h; exact h
  rw [tkN, if_pos h0] at h
  by_cases e : i = n
  ·rw [e]; exact h
  ·exact ih h0 i (by omega)
structure Fine (l : List D) : Prop where
 kind : ∀ i, i < l.length → 1 ≤ kOf (l.getD i default) ∧ kOf (l.getD i default) ≤ 18
 fit : ∀ i, i < l.length → fitB (kOf (l.getD i default)) (vOf (l.getD i default)) = true
 one : ∀ i, i < l.length → has (kOf (l.getD i default)) (l.take i) = false
 len : l.length ≤ 24
theorem fine_of {l : List D} (h : afE l = 0) : Fine l := by
 unfold afE at h
 split at h
 ·exact absurd h (by decide)
 rename_i hl
 have hz := afN_zero h
 refine ⟨fun i hi => ?_, fun i hi => ?_, fun i hi => ?_, by omega⟩ <;> have := hz i hi <;> unfold afI at this
 ·split at this
  ·exact absurd this (by decide)
  ·rename_i h1; omega
 ·split at this
  ·exact absurd this (by decide)
  ·split at this
   ·exact absurd this (by decide)
   ·rename_i h1; simpa using h1
 ·split at this
  ·exact absurd this (by decide)
  ·split at this
   ·exact absurd this (by decide)
   ·split at this
    ·exact absurd this (by decide)
    ·rename_i h1; simpa using h1
theorem of_fine {l : List D} (h : Fine l) : afE l = 0 := by
 unfold afE
 rw [if_neg (by have := h.len; omega)]
 have : ∀ n, n ≤ l.length → afN l n = 0 := by
  intro n
  induction n with
  | zero => exact fun _ => rfl
  | succ n ih =>
   intro hn
   rw [afN, if_pos (ih (by omega))]
   have hk := h.kind n (by omega)
   unfold afI
   rw [if_neg (by omega), if_neg (by rw [h.fit n (by omega)]; decide), if_neg (by rw [h.one n (by omega)]; decide)]
 exact this _ (Nat.le_refl _)
theorem has_take {l : List D} {i j : Nat} (hi : i < j) (hj : j ≤ l.length) : has (kOf (l.getD i default)) (l.take j) = true := by
 rw [has_iff, List.mem_map]
 refine ⟨l.getD i default, ?_, rfl⟩
 rw [List.mem_take_iff_getElem]
 refine ⟨i, by omega, ?_⟩
 rw [List.getD_eq_getElem?_getD, List.getElem?_eq_getElem (by omega)]; rfl
theorem fine_inj {l : List D} (h : Fine l) {i j : Nat} (hi : i < l.length) (hj : j < l.length) (e : kOf (l.getD i default) = kOf (l.getD j default)) : i = j := by
 rcases Nat.lt_trichotomy i j with h1 | h1 | h1
 ·have := has_take h1 (Nat.le_of_lt hj); rw [e, h.one j hj] at this; cases this
 ·exact h1
 ·have := has_take h1 (Nat.le_of_lt hi); rw [← e, h.one i hi] at this; cases this
theorem fi_lt {k : Int} {l : List D} (h : fi k l < l.length) : kOf (l.getD (fi k l) default) = k := by
 induction l with
 | nil => simp at h
 | cons d r ih =>
  unfold fi at h ⊢
  by_cases hd : kOf d = k
  ·rw [if_pos hd]; exact hd
  ·rw [if_neg hd] at h ⊢
   rw [List.getD_cons_succ]
   exact ih (by simpa using h)
theorem fine_vl {l : List D} (h : Fine l) {i : Nat} (hi : i < l.length) : vl (kOf (l.getD i default)) l = vOf (l.getD i default) ∧ has (kOf (l.getD i default)) l = true := by
 have hh : has (kOf (l.getD i default)) l = true := by
  have := has_take (l := l) hi (Nat.le_refl _)
  rwa [List.take_length] at this
 have hf : fi (kOf (l.getD i default)) l < l.length := of_decide_eq_true hh
 have := fine_inj h hf hi (fi_lt hf)
 refine ⟨?_, hh⟩
 unfold vl
 rw [if_pos hf, this]
end Go.Proofs.Ytfbaghocbipbiaa
namespace Go.Proofs.Ytfbaghocbipbiaa
open Go Go.Vg
def unr (d : D) : D := match d with | .ref x => x | _ => default
def sp102 : Go.Vg.Spec := ⟨fun ds => ∃ k v j, ds = [at_ k v, .ref (i64 j)], fun ds => bl (decide (kOf (ds.headD default) = numOf (unr (ds.getD 1 default)))), true, [83]⟩
def sp101 : Go.Vg.Spec := ⟨fun ds => ∃ l j, ds = [.slc 2 l, .clo 102 [.ref (i64 j)]] ∧ okl l, fun ds => i64 (fx (match ds.getD 1 default with | .clo _ (x :: _) => numOf (unr x) | _ => 0) (xsOf (ds.headD default))), true, [32]⟩
def sp71 : Go.Vg.Spec := ⟨fun ds => ∃ l j, ds = [.slc 2 l, i64 j] ∧ okl l, fun ds => i64 (fx (numOf (ds.getD 1 default)) (xsOf (ds.headD default))), true, [32, 3]⟩
def sp67 : Go.Vg.Spec := ⟨fun ds => ∃ v, ds = [.ints .u8 v] ∧ v.length ≤ 140737488351232, fun ds => .ints .u8 (intsOf (ds.headD default)), false, [52]⟩
def c0 : Ctx := ⟨tab, fun _ => none, [], []⟩
def c101 : Ctx := ⟨tab, lkS [(102, sp102)], [], []⟩
def c71 : Ctx := ⟨tab, lkS [(101, sp101)], [], [6]⟩
def c67 : Ctx := ⟨tab, fun _ => none, [5], []⟩
def sp25 : Go.Vg.Spec := ⟨fun ds => ∃ l j, ds = [.slc 2 l, i64 j] ∧ okl l, fun ds => .tup [.ints .u8 (vl (numOf (ds.getD 1 default)) (xsOf (ds.headD default))), bl (has (numOf (ds.getD 1 default)) (xsOf (ds.headD default)))], false, [32, 3]⟩
def sp28 : Go.Vg.Spec := ⟨fun ds => ∃ l j, ds = [.slc 2 l, i64 j] ∧ okl l, fun ds => bl (isb (numOf (ds.getD 1 default)) (xsOf (ds.headD default))), true, [32, 3]⟩
def sp18 : Go.Vg.Spec := ⟨fun ds => ∃ l, ds = [.slc 2 l] ∧ okl l, fun ds => bl (hid (xsOf (ds.headD default))), true, [32]⟩
def sp26 : Go.Vg.Spec := ⟨fun ds => ∃ l j, ds = [.slc 2 l, i64 j] ∧ okl l, fun ds => .tup [.str (vl (numOf (ds.getD 1 default)) (xsOf (ds.headD default))), bl (has (numOf (ds.getD 1 default)) (xsOf (ds.headD default)))], true, [32, 3]⟩
def sp63 : Go.Vg.Spec := ⟨fun ds => ∃ b, ds = [bl b], fun ds => .str [cond (boolOf (ds.headD default)) 1 0], true, [4]⟩
def sp19 : Go.Vg.Spec := ⟨fun ds => ∃ l, ds = [.slc 2 l] ∧ okl l, fun ds => bl (hid (xsOf (ds.headD default))), true, [32]⟩
def c25 : Ctx := ⟨tab, lkS [(71, sp71), (67, sp67)], [], [9, 17]⟩
def c28 : Ctx := ⟨tab, lkS [(71, sp71)], [], []⟩
def c18 : Ctx := ⟨tab, lkS [(25, sp25), (28, sp28)], [], []⟩
def c19 : Ctx := ⟨tab, lkS [(26, sp26), (63, sp63)], [], []⟩
def inv26 (k : Int) (l : List D) : Nat → Option Inv
 | 2 => some ⟨Nat, fun i => [(10, .d (i64 i))], fun _ => [], fun s => (slotN s 10).toNat, fun _ i => i ≤ fi k l, fun i => l.length - i⟩
 | _ => none
def inv101 (k : Int) (l : List D) : Nat → Option Inv
 | 2 => some ⟨Nat, fun i => [(8, .d (i64 i))], fun _ => [], fun s => (slotN s 8).toNat, fun _ i => i ≤ fi k l, fun i => l.length - i⟩
 | _ => none
--KEEP Go.Vg.eqB isAt okl fi fx kOf vOf vl has isb hid seeE seeV mayE
set_option maxRecDepth 100000 in
theorem vc102  (k : Int) (v : List Int) (j : Int) (F : D)  :
    (owed c0 (fun _ => none) Try.f102 [at_ k v, .ref (i64 j)] F) = (
 (True ∧ false = false) ∧ True ∧ (Sk.st [Sk.one, Sk.one] = Sk.st [Sk.one, Sk.one] ∧ (0 : Nat) < (2 : Nat)) ∧ ((1 : Nat) ≠ (0 : Nat) ∧ (1 : Nat) = (1 : Nat) ∧ false = false) ∧ ((1 : Nat) ≠ (0 : Nat) ∧ (1 : Nat) = (1 : Nat) ∧ false = false) ∧ True ∧ True ∧ (false = false ∧ True) ∧ D.val (Value.bool (k == j)) = F) := by kernel_rfl
set_option maxRecDepth 100000 in
theorem vc101  (l : List D) (j : Int) (F : D)  :
    (owed c101 (inv101 j l) Try.f101 [.slc 2 l, .clo 102 [.ref (i64 j)]] F) = (
 True ∧
 True ∧
 True ∧
 True ∧
 (((AV.d (D.val (Value.int IntKind.i64 (0 : Int))) = AV.d (D.val (Value.int IntKind.i64 (↑(Int.toNat (0 : Int)) : Int))) ∧ True) ∧ True ∧ true = true) ∧ Int.toNat (0 : Int) ≤ fi j l) ∧
 ∀ (x : Nat),
 x ≤ fi j l →
 true = true ∧
 True ∧
 match decide ((↑x : Int) < (↑l.length : Int)) with
 | true =>
  True ∧
  True ∧
  True ∧
  True ∧
  True ∧
  ((0 : Int) ≤ (↑x : Int) ∧
  (↑x : Int) < (↑l.length : Int) ∧ (2 : Nat) ≠ (0 : Nat) ∧ (2 : Nat) = (2 : Nat) ∧ D.st [D.val (Value.int IntKind.i64 (numOf (fldOf (l.getD (↑x : Int).toNat (D.val (Value.bool false))) (0 : Nat)))), D.ints IntKind.u8 (intsOf (fldOf (l.getD (↑x : Int).toNat (D.val (Value.bool false))) (1 : Nat)))] = l.getD (↑x : Int).toNat (D.val (Value.bool false))) ∧
  ((2 : Nat) ≠ (0 : Nat) ∧ (2 : Nat) = (2 : Nat) ∧ true = true) ∧
  (∃ (k : Int),
  ∃ (v : List Int),
  ∃ (j_1 : Int),
  [D.st [D.val (Value.int IntKind.i64 (numOf (fldOf (l.getD (↑x : Int).toNat (D.val (Value.bool false))) (0 : Nat)))), D.ints IntKind.u8 (intsOf (fldOf (l.getD (↑x : Int).toNat (D.val (Value.bool false))) (1 : Nat)))], (D.val (Value.int IntKind.i64 j)).ref] =
  [D.st [D.val (Value.int IntKind.i64 k), D.ints IntKind.u8 v], (D.val (Value.int IntKind.i64 j_1)).ref]) ∧
  match decide (kOf (D.st [D.val (Value.int IntKind.i64 (numOf (fldOf (l.getD (↑x : Int).toNat (D.val (Value.bool false))) (0 : Nat)))), D.ints IntKind.u8 (intsOf (fldOf (l.getD (↑x : Int).toNat (D.val (Value.bool false))) (1 : Nat)))]) = j) with
  | true => True ∧ True ∧ (false = false ∧ True) ∧ D.val (Value.int IntKind.i64 (↑x : Int)) = F
  | false =>
   True ∧
   True ∧ ((AV.d (D.val (Value.int IntKind.i64 (IntKind.i64.wrap ((↑x : Int) + (1 : Int))))) = AV.d (D.val (Value.int IntKind.i64 (↑(IntKind.i64.wrap ((↑x : Int) + (1 : Int))).toNat : Int))) ∧ True) ∧ True ∧ true = true) ∧ (IntKind.i64.wrap ((↑x : Int) + (1 : Int))).toNat ≤ fi j l ∧ l.length - (IntKind.i64.wrap ((↑x : Int) + (1 : Int))).toNat < l.length - x
 | false => True ∧ (false = false ∧ True) ∧ D.val (Value.int IntKind.i64 (-1 : Int)) = F) := by kernel_rfl
set_option maxRecDepth 100000 in
theorem vc71  (l : List D) (j : Int) (F : D)  :
    (owed c71 (fun _ => none) Try.f71 [.slc 2 l, i64 j] F) = (
 (True ∧ false = false) ∧ True ∧ True ∧ True ∧ (∃ (l_1 : List D), ∃ (j_1 : Int), [D.slc (2 : Nat) l, D.clo (102 : Nat) [(D.val (Value.int IntKind.i64 j)).ref]] = [D.slc (2 : Nat) l_1, D.clo (102 : Nat) [(D.val (Value.int IntKind.i64 j_1)).ref]] ∧ okl l_1) ∧ True ∧ (false = false ∧ True) ∧ D.val (Value.int IntKind.i64 (fx j l)) = F) := by kernel_rfl
set_option maxRecDepth 100000 in
theorem vc67  (v : List Int) (F : D)  :
    (owed c67 (fun _ => none) Try.f67 [.ints .u8 v] F) = (
 True ∧
 True ∧
 True ∧
 (v.length = (0 : Nat) → True ∧ (false = false ∧ True) ∧ D.ints IntKind.u8 [] = F) ∧
 (True → ((1 : Nat) = (1 : Nat) ∧ (0 : Nat) ≤ (4096 : Nat)) ∧ True ∧ ((5 : TypeId) = (5 : TypeId) ∧ (52 : Nat) = (52 : Nat) ∧ true = true ∧ v.length ≤ (140737488355328 : Nat) ∧ v.length * (1 : Nat) ≤ (140737488355328 : Nat) ∧ (1 : Nat) ≠ (0 : Nat) ∧ (1 : Nat) = (1 : Nat)) ∧ True ∧ (false = false ∧ True) ∧ D.ints IntKind.u8 v = F)) := by kernel_rfl
set_option maxRecDepth 100000 in
theorem vc25  (l : List D) (j : Int) (F : D)  :
    (owed c25 (fun _ => none) Try.f25 [.slc 2 l, i64 j] F) = (
 True ∧
 True ∧
 True ∧
 True ∧
 (∃ (l_1 : List D), ∃ (j_1 : Int), [D.slc (2 : Nat) l, D.val (Value.int IntKind.i64 j)] = [D.slc (2 : Nat) l_1, D.val (Value.int IntKind.i64 j_1)] ∧ okl l_1) ∧
 True ∧
 True ∧
 True ∧
 match decide (fx j l < (0 : Int)) with
 | true => True ∧ True ∧ (false = false ∧ false = false ∧ True) ∧ D.tup [D.ints IntKind.u8 [], D.val (Value.bool false)] = F
 | false =>
  True ∧
  True ∧
  ((0 : Int) ≤ fx j l ∧ fx j l < (↑l.length : Int) ∧ (2 : Nat) ≠ (0 : Nat) ∧ (2 : Nat) = (2 : Nat) ∧ D.st [D.val (Value.int IntKind.i64 (numOf (fldOf (l.getD (fx j l).toNat (D.val (Value.bool false))) (0 : Nat)))), D.ints IntKind.u8 (intsOf (fldOf (l.getD (fx j l).toNat (D.val (Value.bool false))) (1 : Nat)))] = l.getD (fx j l).toNat (D.val (Value.bool false))) ∧
  (Sk.st [Sk.one, Sk.one] = Sk.st [Sk.one, Sk.one] ∧ (1 : Nat) < (2 : Nat)) ∧
  ((1 : Nat) ≠ (0 : Nat) ∧ (1 : Nat) = (1 : Nat) ∧ false = false) ∧
  (∃ (v : List Int), [D.ints IntKind.u8 (intsOf (fldOf (l.getD (fx j l).toNat (D.val (Value.bool false))) (1 : Nat)))] = [D.ints IntKind.u8 v] ∧ v.length ≤ (140737488351232 : Nat)) ∧ True ∧ True ∧ (false = false ∧ false = false ∧ True) ∧ D.tup [D.ints IntKind.u8 (intsOf (fldOf (l.getD (fx j l).toNat (D.val (Value.bool false))) (1 : Nat))), D.val (Value.bool true)] = F) := by kernel_rfl
set_option maxRecDepth 100000 in
theorem vc28  (l : List D) (j : Int) (F : D)  :
    (owed c28 (fun _ => none) Try.f28 [.slc 2 l, i64 j] F) = (
 True ∧
 True ∧
 True ∧
 (∃ (l_1 : List D), ∃ (j_1 : Int), [D.slc (2 : Nat) l, D.val (Value.int IntKind.i64 j)] = [D.slc (2 : Nat) l_1, D.val (Value.int IntKind.i64 j_1)] ∧ okl l_1) ∧
 True ∧
 True ∧
 True ∧
 True ∧
 match decide (fx j l ≥ (0 : Int)) with
 | true =>
  True ∧
  True ∧
  ((0 : Int) ≤ fx j l ∧ fx j l < (↑l.length : Int) ∧ (2 : Nat) ≠ (0 : Nat) ∧ (2 : Nat) = (2 : Nat) ∧ D.st [D.val (Value.int IntKind.i64 (numOf (fldOf (l.getD (fx j l).toNat (D.val (Value.bool false))) (0 : Nat)))), D.ints IntKind.u8 (intsOf (fldOf (l.getD (fx j l).toNat (D.val (Value.bool false))) (1 : Nat)))] = l.getD (fx j l).toNat (D.val (Value.bool false))) ∧
  (Sk.st [Sk.one, Sk.one] = Sk.st [Sk.one, Sk.one] ∧ (1 : Nat) < (2 : Nat)) ∧
  ((1 : Nat) ≠ (0 : Nat) ∧ (1 : Nat) = (1 : Nat) ∧ false = false) ∧
  True ∧
  True ∧
  True ∧
  True ∧
  match (↑(intsOf (fldOf (l.getD (fx j l).toNat (D.val (Value.bool false))) (1 : Nat))).length : Int) == (1 : Int) with
  | true =>
   True ∧
   True ∧
   ((0 : Int) ≤ fx j l ∧
   fx j l < (↑l.length : Int) ∧ (2 : Nat) ≠ (0 : Nat) ∧ (2 : Nat) = (2 : Nat) ∧ D.st [D.val (Value.int IntKind.i64 (numOf (fldOf (l.getD (fx j l).toNat (D.val (Value.bool false))) (0 : Nat)))), D.ints IntKind.u8 (intsOf (fldOf (l.getD (fx j l).toNat (D.val (Value.bool false))) (1 : Nat)))] = l.getD (fx j l).toNat (D.val (Value.bool false))) ∧
   (Sk.st [Sk.one, Sk.one] = Sk.st [Sk.one, Sk.one] ∧ (1 : Nat) < (2 : Nat)) ∧
   ((1 : Nat) ≠ (0 : Nat) ∧ (1 : Nat) = (1 : Nat) ∧ false = false) ∧
   ((0 : Int) ≤ (0 : Int) ∧ (0 : Int) < (↑(intsOf (fldOf (l.getD (fx j l).toNat (D.val (Value.bool false))) (1 : Nat))).length : Int) ∧ (1 : Nat) = (1 : Nat)) ∧
   ((1 : Nat) ≠ (0 : Nat) ∧ (1 : Nat) = (1 : Nat) ∧ false = false) ∧ True ∧ True ∧ True ∧ (false = false ∧ True) ∧ D.val (Value.bool ((intsOf (fldOf (l.getD (fx j l).toNat (D.val (Value.bool false))) (1 : Nat))).getD (0 : Nat) (0 : Int) == (1 : Int))) = F
  | false => True ∧ True ∧ (false = false ∧ True) ∧ D.val (Value.bool false) = F
 | false => True ∧ True ∧ True ∧ True ∧ (false = false ∧ True) ∧ D.val (Value.bool false) = F) := by kernel_rfl
set_option maxRecDepth 100000 in
theorem vc18  (l : List D) (F : D)  :
    (owed c18 (fun _ => none) Try.f18 [.slc 2 l] F) = (
 True ∧
 True ∧
 (∃ (l_1 : List D), ∃ (j : Int), [D.slc (2 : Nat) l, D.val (Value.int IntKind.i64 (9 : Int))] = [D.slc (2 : Nat) l_1, D.val (Value.int IntKind.i64 j)] ∧ okl l_1) ∧
 True ∧
 ((0 : Nat) < (2 : Nat) ∧ false = false) ∧
 ((1 : Nat) < (2 : Nat) ∧ false = false) ∧
 True ∧
 True ∧
 True ∧
 (∃ (l_1 : List D), ∃ (j : Int), [D.slc (2 : Nat) l, D.val (Value.int IntKind.i64 (8 : Int))] = [D.slc (2 : Nat) l_1, D.val (Value.int IntKind.i64 j)] ∧ okl l_1) ∧
 True ∧
 match isb (8 : Int) l with
 | true => True ∧ True ∧ (false = false ∧ True) ∧ D.val (Value.bool true) = F
 | false =>
  True ∧
  True ∧
  match has (9 : Int) l with
  | true => True ∧ (∃ (l_1 : List D), ∃ (j : Int), [D.slc (2 : Nat) l, D.val (Value.int IntKind.i64 (9 : Int))] = [D.slc (2 : Nat) l_1, D.val (Value.int IntKind.i64 j)] ∧ okl l_1) ∧ True ∧ True ∧ True ∧ True ∧ (false = false ∧ True) ∧ D.val (Value.bool !isb (9 : Int) l) = F
  | false => True ∧ True ∧ True ∧ (false = false ∧ True) ∧ D.val (Value.bool false) = F) := by kernel_rfl
set_option maxRecDepth 100000 in
theorem vc26  (l : List D) (j : Int) (F : D)  :
    (owed c0 (inv26 j l) Try.f26 [.slc 2 l, i64 j] F) = (
 True ∧
 True ∧
 True ∧
 True ∧
 True ∧
 (((AV.d (D.val (Value.int IntKind.i64 (0 : Int))) = AV.d (D.val (Value.int IntKind.i64 (↑(Int.toNat (0 : Int)) : Int))) ∧ True) ∧ True ∧ true = true) ∧ Int.toNat (0 : Int) ≤ fi j l) ∧
 ∀ (x : Nat),
 x ≤ fi j l →
 true = true ∧
 True ∧
 match decide ((↑x : Int) < (↑l.length : Int)) with
 | true =>
  ((0 : Int) ≤ (↑x : Int) ∧
  (↑x : Int) < (↑l.length : Int) ∧ (2 : Nat) ≠ (0 : Nat) ∧ (2 : Nat) = (2 : Nat) ∧ D.st [D.val (Value.int IntKind.i64 (numOf (fldOf (l.getD (↑x : Int).toNat (D.val (Value.bool false))) (0 : Nat)))), D.ints IntKind.u8 (intsOf (fldOf (l.getD (↑x : Int).toNat (D.val (Value.bool false))) (1 : Nat)))] = l.getD (↑x : Int).toNat (D.val (Value.bool false))) ∧
  ((2 : Nat) ≠ (0 : Nat) ∧ (2 : Nat) = (2 : Nat) ∧ true = true) ∧
  (True ∧ (2 : Nat) ≠ (0 : Nat)) ∧
  (Sk.st [Sk.one, Sk.one] = Sk.st [Sk.one, Sk.one] ∧ (2 : Nat) ≠ (0 : Nat) ∧ (2 : Nat) = (2 : Nat) ∧ false = false) ∧
  (Sk.st [Sk.one, Sk.one] = Sk.st [Sk.one, Sk.one] ∧ (0 : Nat) < (2 : Nat)) ∧
  ((1 : Nat) ≠ (0 : Nat) ∧ (1 : Nat) = (1 : Nat) ∧ false = false) ∧
  True ∧
  True ∧
  match numOf (fldOf (l.getD (↑x : Int).toNat (D.val (Value.bool false))) (0 : Nat)) == j with
  | true =>
   (Sk.st [Sk.one, Sk.one] = Sk.st [Sk.one, Sk.one] ∧ (1 : Nat) < (2 : Nat)) ∧
   ((1 : Nat) ≠ (0 : Nat) ∧ (1 : Nat) = (1 : Nat) ∧ false = false) ∧ isBytes (intsOf (fldOf (l.getD (↑x : Int).toNat (D.val (Value.bool false))) (1 : Nat))) ∧ True ∧ True ∧ (false = false ∧ false = false ∧ True) ∧ D.tup [D.str (intsOf (fldOf (l.getD (↑x : Int).toNat (D.val (Value.bool false))) (1 : Nat))), D.val (Value.bool true)] = F
  | false =>
   True ∧
   True ∧ ((AV.d (D.val (Value.int IntKind.i64 (IntKind.i64.wrap ((↑x : Int) + (1 : Int))))) = AV.d (D.val (Value.int IntKind.i64 (↑(IntKind.i64.wrap ((↑x : Int) + (1 : Int))).toNat : Int))) ∧ True) ∧ True ∧ true = true) ∧ (IntKind.i64.wrap ((↑x : Int) + (1 : Int))).toNat ≤ fi j l ∧ l.length - (IntKind.i64.wrap ((↑x : Int) + (1 : Int))).toNat < l.length - x
 | false => True ∧ True ∧ (false = false ∧ false = false ∧ True) ∧ D.tup [D.str (ints { data := { toList := [] } }), D.val (Value.bool false)] = F) := by kernel_rfl
set_option maxRecDepth 100000 in
theorem vc63  (b : Bool) (F : D)  :
    (owed c0 (fun _ => none) Try.f63 [bl b] F) = (
 True ∧
 True ∧
 match b with
 | true => True ∧ (false = false ∧ True) ∧ D.str (ints { data := { toList := [(1 : UInt8)] } }) = F
 | false => True ∧ (false = false ∧ True) ∧ D.str (ints { data := { toList := [(0 : UInt8)] } }) = F) := by kernel_rfl
set_option maxRecDepth 100000 in
theorem vc19  (l : List D) (F : D)  :
    (owed c19 (fun _ => none) Try.f19 [.slc 2 l] F) = (
 True ∧
 True ∧
 (∃ (l_1 : List D), ∃ (j : Int), [D.slc (2 : Nat) l, D.val (Value.int IntKind.i64 (8 : Int))] = [D.slc (2 : Nat) l_1, D.val (Value.int IntKind.i64 j)] ∧ okl l_1) ∧
 True ∧
 ((0 : Nat) < (2 : Nat) ∧ false = false) ∧
 ((1 : Nat) < (2 : Nat) ∧ false = false) ∧
 True ∧
 True ∧
 True ∧
 (∃ (l_1 : List D), ∃ (j : Int), [D.slc (2 : Nat) l, D.val (Value.int IntKind.i64 (9 : Int))] = [D.slc (2 : Nat) l_1, D.val (Value.int IntKind.i64 j)] ∧ okl l_1) ∧
 True ∧
 ((0 : Nat) < (2 : Nat) ∧ false = false) ∧
 ((1 : Nat) < (2 : Nat) ∧ false = false) ∧
 True ∧
 True ∧
 True ∧
 (∃ (b : Bool), [D.val (Value.bool true)] = [D.val (Value.bool b)]) ∧
 True ∧
 True ∧
 match eqB (vl (8 : Int) l) [(1 : Int)] with
 | true => True ∧ True ∧ (false = false ∧ True) ∧ D.val (Value.bool true) = F
 | false =>
  True ∧
  True ∧
  match has (9 : Int) l with
  | true => True ∧ (∃ (b : Bool), [D.val (Value.bool true)] = [D.val (Value.bool b)]) ∧ True ∧ True ∧ True ∧ True ∧ (false = false ∧ True) ∧ D.val (Value.bool !eqB (vl (9 : Int) l) [(1 : Int)]) = F
  | false => True ∧ True ∧ True ∧ (false = false ∧ True) ∧ D.val (Value.bool false) = F) := by kernel_rfl
set_option maxRecDepth 100000 in
theorem m102 : Meets Try.prog 102 sp102 := by
 refine meets_of_owed (C := c0) ⟨tab_ok, fun f s h => by cases h⟩ (by kernel_rfl) (by kernel_rfl : Try.prog.funcs[102]? = some Try.f102) (by kernel_rfl) (by kernel_rfl) (by kernel_rfl) _ ?_
 rintro _ ⟨k, v, j, rfl⟩
 refine ⟨fun _ => rfl, fun _ => none, ?_⟩
 show owed c0 (fun _ => none) Try.f102 [at_ k v, .ref (i64 j)] (bl (decide (k = j)))
 rw [vc102]
 simp (decide := true) only [eq_self, true_and, and_true, ne_eq, not_false_eq_true]
 congr 2
set_option maxRecDepth 100000 in
theorem m101 : Meets Try.prog 101 sp101 := by
 refine meets_of_owed (C := c101) ⟨tab_ok, lkS_ok ⟨m102, trivial⟩⟩ (by kernel_rfl) (by kernel_rfl : Try.prog.funcs[101]? = some Try.f101) (by kernel_rfl) (by kernel_rfl) (by kernel_rfl) _ ?_
 rintro _ ⟨l, j, rfl, hl⟩
 refine ⟨fun _ => rfl, inv101 j l, ?_⟩
 show owed c101 (inv101 j l) Try.f101 [.slc 2 l, .clo 102 [.ref (i64 j)]] (i64 (fx j l))
 have hl2 := hl.2
 rw [vc101]
 simp (decide := true) only [eq_self, true_and, and_true, ne_eq, not_false_eq_true]
 refine ⟨⟨rfl, Nat.zero_le _⟩, fun x hx => ?_⟩
 have hle := fi_le j l
 split
 ·rename_i h
  have h : x < l.length := by have := of_decide_eq_true h; omega
  obtain ⟨k, v, e, h1, h2⟩ := el hl h
  rw [Int.toNat_natCast, e]
  refine ⟨⟨by omega, by omega, rfl⟩, ⟨_, _, _, rfl⟩, ?_⟩
  show match decide (k = j) with | true => _ | false => _
  split
  ·rename_i hk
   have hk := of_decide_eq_true hk
   have := fi_at j l x hx h (by rw [show l.getD x default = at_ k v from e]; exact hk)
   rw [fx, this, if_pos h]
  ·rename_i hk
   have hk := of_decide_eq_false hk
   have := fi_no j l x hx h (by rw [show l.getD x default = at_ k v from e]; exact hk)
   rw [show (x : Int) + 1 = ((x + 1 : Nat) : Int) by omega, wNi (n := x + 1) (by omega), Int.toNat_natCast]
   exact ⟨rfl, this, by omega⟩
 ·rename_i h
  have h := of_decide_eq_false h
  rw [fx, if_neg (by omega)]
set_option maxRecDepth 100000 in
theorem m71 : Meets Try.prog 71 sp71 := by
 refine meets_of_owed (C := c71) ⟨tab_ok, lkS_ok ⟨m101, trivial⟩⟩ (by kernel_rfl) (by kernel_rfl : Try.prog.funcs[71]? = some Try.f71) (by kernel_rfl) (by kernel_rfl) (by kernel_rfl) _ ?_
 rintro _ ⟨l, j, rfl, hl⟩
 refine ⟨fun _ => rfl, fun _ => none, ?_⟩
 show owed c71 (fun _ => none) Try.f71 [.slc 2 l, i64 j] (i64 (fx j l))
 rw [vc71]
 simp (decide := true) only [eq_self, true_and, and_true, ne_eq, not_false_eq_true]
 exact ⟨_, _, rfl, hl⟩
set_option maxRecDepth 100000 in
theorem m67 : Meets Try.prog 67 sp67 := by
 refine meets_of_owed (C := c67) ⟨tab_ok, fun f s h => by cases h⟩ (by kernel_rfl) (by kernel_rfl : Try.prog.funcs[67]? = some Try.f67) (by kernel_rfl) (by kernel_rfl) (by kernel_rfl) _ ?_
 rintro _ ⟨v, rfl, hv⟩
 refine ⟨(fun h => by cases h), fun _ => none, ?_⟩
 show owed c67 (fun _ => none) Try.f67 [.ints .u8 v] (.ints .u8 v)
 rw [vc67]
 simp (decide := true) only [eq_self, true_and, and_true, ne_eq, not_false_eq_true]
 refine ⟨fun h => by rw [List.eq_nil_of_length_eq_zero h], fun _ => by omega⟩
set_option maxRecDepth 100000 in
theorem m25 : Meets Try.prog 25 sp25 := by
 refine meets_of_owed (C := c25) ⟨tab_ok, lkS_ok ⟨m71, m67, trivial⟩⟩ (by kernel_rfl) (by kernel_rfl : Try.prog.funcs[25]? = some Try.f25) (by kernel_rfl) (by kernel_rfl) (by kernel_rfl) _ ?_
 rintro _ ⟨l, j, rfl, hl⟩
 refine ⟨(fun h => by cases h), fun _ => none, ?_⟩
 show owed c25 (fun _ => none) Try.f25 [.slc 2 l, i64 j] (.tup [.ints .u8 (vl j l), bl (has j l)])
 rw [vc25]
 simp (decide := true) only [eq_self, true_and, and_true, ne_eq, not_false_eq_true]
 refine ⟨⟨_, _, rfl, hl⟩, ?_⟩
 unfold vl has fx
 split
 ·rename_i h
  have h := of_decide_eq_true h
  split at h
  ·omega
  ·rename_i h2
   rw [if_neg h2, decide_eq_false h2]
 ·rename_i h
  have h := of_decide_eq_false h
  split at h
  ·rename_i h2
   obtain ⟨k, v, e, h3, h4⟩ := el hl h2
   rw [if_pos h2, if_pos h2, decide_eq_true h2, Int.toNat_natCast, show l.getD (fi j l) default = at_ k v from e, e]
   exact ⟨⟨by omega, by omega, rfl⟩, ⟨_, rfl, h3⟩, rfl⟩
  ·omega
set_option maxRecDepth 100000 in
theorem m28 : Meets Try.prog 28 sp28 := by
 refine meets_of_owed (C := c28) ⟨tab_ok, lkS_ok ⟨m71, trivial⟩⟩ (by kernel_rfl) (by kernel_rfl : Try.prog.funcs[28]? = some Try.f28) (by kernel_rfl) (by kernel_rfl) (by kernel_rfl) _ ?_
 rintro _ ⟨l, j, rfl, hl⟩
 refine ⟨fun _ => rfl, fun _ => none, ?_⟩
 show owed c28 (fun _ => none) Try.f28 [.slc 2 l, i64 j] (bl (isb j l))
 rw [vc28]
 simp (decide := true) only [eq_self, true_and, and_true, ne_eq, not_false_eq_true]
 refine ⟨⟨_, _, rfl, hl⟩, ?_⟩
 unfold isb vl has fx
 split
 ·rename_i h
  have h := of_decide_eq_true h
  split at h
  ·rename_i h2
   obtain ⟨k, v, e, h3, h4⟩ := el hl h2
   rw [if_pos h2, if_pos h2, decide_eq_true h2, Int.toNat_natCast, show l.getD (fi j l) default = at_ k v from e, e]
   refine ⟨⟨by omega, by omega, rfl⟩, ?_⟩
   show match (v.length : Int) == 1 with | true => _ | false => _
   split
   ·rename_i h5
    have h5 : v.length = 1 := by have := eq_of_beq h5; omega
    obtain ⟨a, rfl⟩ := List.length_eq_one_iff.1 h5
    refine ⟨⟨by omega, by omega, rfl⟩, (by simp [fldOf, intsOf]), ?_⟩
    show bl (a == 1) = bl (true && decide ([a] = [1]))
    congr 2
    by_cases ha : a = 1 <;> simp [ha]
   ·rename_i h5
    congr 2
    rw [Bool.true_and]
    symm
    refine decide_eq_false fun h6 => ?_
    change v = [1] at h6
    rw [h6] at h5
    cases h5
  ·omega
 ·rename_i h
  have h := of_decide_eq_false h
  split at h
  ·omega
  ·rename_i h2
   rw [decide_eq_false h2, Bool.false_and]
set_option maxRecDepth 100000 in
theorem m18 : Meets Try.prog 18 sp18 := by
 refine meets_of_owed (C := c18) ⟨tab_ok, lkS_ok ⟨m25, m28, trivial⟩⟩ (by kernel_rfl) (by kernel_rfl : Try.prog.funcs[18]? = some Try.f18) (by kernel_rfl) (by kernel_rfl) (by kernel_rfl) _ ?_
 rintro _ ⟨l, rfl, hl⟩
 refine ⟨fun _ => rfl, fun _ => none, ?_⟩
 show owed c18 (fun _ => none) Try.f18 [.slc 2 l] (bl (hid l))
 rw [vc18]
 simp (decide := true) only [eq_self, true_and, and_true, ne_eq, not_false_eq_true]
 refine ⟨⟨_, _, rfl, hl⟩, ⟨_, _, rfl, hl⟩, ?_⟩
 unfold hid
 split
 ·rename_i h; rw [h]; rfl
 ·rename_i h
  rw [h]
  split
  ·rename_i h2; rw [h2]; exact ⟨⟨_, _, rfl, hl⟩, rfl⟩
  ·rename_i h2; rw [h2]; rfl
set_option maxRecDepth 100000 in
theorem m26 : Meets Try.prog 26 sp26 := by
 refine meets_of_owed (C := c0) ⟨tab_ok, fun f s h => by cases h⟩ (by kernel_rfl) (by kernel_rfl : Try.prog.funcs[26]? = some Try.f26) (by kernel_rfl) (by kernel_rfl) (by kernel_rfl) _ ?_
 rintro _ ⟨l, j, rfl, hl⟩
 refine ⟨fun _ => rfl, inv26 j l, ?_⟩
 show owed c0 (inv26 j l) Try.f26 [.slc 2 l, i64 j] (.tup [.str (vl j l), bl (has j l)])
 have hl2 := hl.2
 rw [vc26]
 simp (decide := true) only [eq_self, true_and, and_true, ne_eq, not_false_eq_true]
 refine ⟨⟨rfl, Nat.zero_le _⟩, fun x hx => ?_⟩
 have hle := fi_le j l
 split
 ·rename_i h
  have h : x < l.length := by have := of_decide_eq_true h; omega
  obtain ⟨k, v, e, h1, h2⟩ := el hl h
  rw [Int.toNat_natCast, e]
  refine ⟨⟨by omega, by omega, rfl⟩, ?_⟩
  show match k == j with | true => _ | false => _
  split
  ·rename_i hk
   have hk := eq_of_beq hk
   have := fi_at j l x hx h (by rw [show l.getD x default = at_ k v from e]; exact hk)
   unfold vl has
   rw [this, if_pos h, decide_eq_true h, show l.getD x default = at_ k v from e]
   exact ⟨h2, rfl⟩
  ·rename_i hk
   have hk : k ≠ j := by simpa using hk
   have := fi_no j l x hx h (by rw [show l.getD x default = at_ k v from e]; exact hk)
   rw [show (x : Int) + 1 = ((x + 1 : Nat) : Int) by omega, wNi (n := x + 1) (by omega), Int.toNat_natCast]
   exact ⟨rfl, this, by omega⟩
 ·rename_i h
  have h := of_decide_eq_false h
  unfold vl has
  rw [if_neg (by omega), decide_eq_false (by omega)]
  rfl
set_option maxRecDepth 100000 in
theorem m63 : Meets Try.prog 63 sp63 := by
 refine meets_of_owed (C := c0) ⟨tab_ok, fun f s h => by cases h⟩ (by kernel_rfl) (by kernel_rfl : Try.prog.funcs[63]? = some Try.f63) (by kernel_rfl) (by kernel_rfl) (by kernel_rfl) _ ?_
 rintro _ ⟨b, rfl⟩
 refine ⟨fun _ => rfl, fun _ => none, ?_⟩
 show owed c0 (fun _ => none) Try.f63 [bl b] (.str [cond b 1 0])
 rw [vc63]
 simp (decide := true) only [eq_self, true_and, and_true, ne_eq, not_false_eq_true]
 cases b <;> rfl
set_option maxRecDepth 100000 in
theorem m19 : Meets Try.prog 19 sp19 := by
 refine meets_of_owed (C := c19) ⟨tab_ok, lkS_ok ⟨m26, m63, trivial⟩⟩ (by kernel_rfl) (by kernel_rfl : Try.prog.funcs[19]? = some Try.f19) (by kernel_rfl) (by kernel_rfl) (by kernel_rfl) _ ?_
 rintro _ ⟨l, rfl, hl⟩
 refine ⟨fun _ => rfl, fun _ => none, ?_⟩
 show owed c19 (fun _ => none) Try.f19 [.slc 2 l] (bl (hid l))
 rw [vc19]
 simp (decide := true) only [eq_self, true_and, and_true, ne_eq, not_false_eq_true]
 refine ⟨⟨_, _, rfl, hl⟩, ⟨_, _, rfl, hl⟩, ⟨_, rfl⟩, ?_⟩
 unfold hid
 rw [isb_eq, isb_eq, eqB_eq, eqB_eq]
 split
 ·rename_i h; rw [h]; rfl
 ·rename_i h
  rw [h]
  split
  ·rename_i h2; rw [h2]; exact ⟨⟨_, rfl⟩, rfl⟩
  ·rename_i h2; rw [h2]; rfl
end Go.Proofs.Ytfbaghocbipbiaa
namespace Go.Proofs.Ytfbaghocbipbiaa
open Go Go.Vg
def sp72 : Go.Vg.Spec := ⟨fun ds => ∃ k v, ds = [at_ k v] ∧ okv v, fun ds => bl (fitB (kOf (ds.headD default)) (vOf (ds.headD default))), true, [83]⟩
def sp27 : Go.Vg.Spec := ⟨fun ds => ∃ l, ds = [.slc 2 l] ∧ okl l, fun ds => i64 (afE (xsOf (ds.headD default))), true, [32]⟩
def sp22 : Go.Vg.Spec := ⟨fun ds => ∃ l, ds = [.slc 2 l] ∧ okl l, fun ds => i64 (afE (xsOf (ds.headD default))), true, [32]⟩
def sp24 : Go.Vg.Spec := ⟨fun ds => ∃ l, ds = [.slc 2 l] ∧ okl l, fun ds => .st [.st (hL (cH (xsOf (ds.headD default)))), .st (vL (cV (xsOf (ds.headD default))))], true, [32]⟩
def c27 : Ctx := ⟨tab, lkS [(72, sp72)], [], []⟩
def c24 : Ctx := ⟨tab, fun _ => none, [], [20028005, 20030005, 20032005, 20005005, 20036003, 20038003, 20003003, 300033]⟩
def inv27 (l : List D) : Nat → Option Inv
 | 5 => some ⟨Nat, fun i => [(11, .d (i64 i))], fun i => [(3, .fix (.st (hL fun k => has k (l.take i))))], fun s => (slotN s 11).toNat, fun _ i => i ≤ l.length ∧ afN l i = 0, fun i => l.length - i⟩
 | _ => none
def inv24 (l : List D) : Nat → Option Inv
 | 3 => some ⟨Nat, fun i => [(8, .d (i64 i))], fun i => [(3, .fix (.st [.st (hL (cH (l.take i))), .st (vL (cV (l.take i)))]))], fun s => (slotN s 8).toNat, fun _ i => i ≤ l.length, fun i => l.length - i⟩
 | _ => none
--KEEP Go.Vg.eqB isAt okl fi fx kOf vOf vl has isb hid fitB afI afN afE hL vL cH cV atP atL sameB clV clP belB szR oneV flgB belN objB valB kdP lastK kdL szP sndB msL ouV ouL tkI tkN mkF mkE mkL flg d0V dH upH upV d1H d1V setV d2V mdE mdH mdV okv Go.Vg.ones
set_option maxRecDepth 100000 in
theorem vc72  (k : Int) (v : List Int) (F : D)  :
    (owed c0 (fun _ => none) Try.f72 [at_ k v] F) = (
 (True ∧ false = false) ∧
 True ∧
 (Sk.st [Sk.one, Sk.one] = Sk.st [Sk.one, Sk.one] ∧ (1 : Nat) < (2 : Nat)) ∧
 ((1 : Nat) ≠ (0 : Nat) ∧ (1 : Nat) = (1 : Nat) ∧ false = false) ∧
 True ∧
 True ∧
 (Sk.st [Sk.one, Sk.one] = Sk.st [Sk.one, Sk.one] ∧ (0 : Nat) < (2 : Nat)) ∧
 ((1 : Nat) ≠ (0 : Nat) ∧ (1 : Nat) = (1 : Nat) ∧ false = false) ∧
 True ∧
 True ∧
 match k == (1 : Int) with
 | true =>
  True ∧
  True ∧
  True ∧
  match (↑v.length : Int) == (1 : Int) with
  | true =>
   (Sk.st [Sk.one, Sk.one] = Sk.st [Sk.one, Sk.one] ∧ (1 : Nat) < (2 : Nat)) ∧
   ((1 : Nat) ≠ (0 : Nat) ∧ (1 : Nat) = (1 : Nat) ∧ false = false) ∧
   ((0 : Int) ≤ (0 : Int) ∧ (0 : Int) < (↑v.length : Int) ∧ (1 : Nat) = (1 : Nat)) ∧
   ((1 : Nat) ≠ (0 : Nat) ∧ (1 : Nat) = (1 : Nat) ∧ false = false) ∧
   True ∧
   True ∧
   True ∧
   match decide (v.getD (0 : Nat) (0 : Int) ≥ (1 : Int)) with
   | true =>
    (Sk.st [Sk.one, Sk.one] = Sk.st [Sk.one, Sk.one] ∧ (1 : Nat) < (2 : Nat)) ∧
    ((1 : Nat) ≠ (0 : Nat) ∧ (1 : Nat) = (1 : Nat) ∧ false = false) ∧ ((0 : Int) ≤ (0 : Int) ∧ (0 : Int) < (↑v.length : Int) ∧ (1 : Nat) = (1 : Nat)) ∧ ((1 : Nat) ≠ (0 : Nat) ∧ (1 : Nat) = (1 : Nat) ∧ false = false) ∧ True ∧ True ∧ True ∧ (false = false ∧ True) ∧ D.val (Value.bool (decide (v.getD (0 : Nat) (0 : Int) ≤ (4 : Int)))) = F
   | false => True ∧ True ∧ (false = false ∧ True) ∧ D.val (Value.bool false) = F
  | false => True ∧ True ∧ True ∧ True ∧ (false = false ∧ True) ∧ D.val (Value.bool false) = F
 | false =>
  True ∧
  True ∧
  match k == (2 : Int) with
  | true =>
   match k == (2 : Int) with
   | true => True ∧ True ∧ True ∧ (false = false ∧ True) ∧ D.val (Value.bool (decide ((↑v.length : Int) ≤ (32 : Int)))) = F
   | false =>
    True ∧
    True ∧
    match k == (4 : Int) with
    | true => True ∧ True ∧ True ∧ (false = false ∧ True) ∧ D.val (Value.bool (decide ((↑v.length : Int) ≤ (64 : Int)))) = F
    | false =>
     True ∧
     True ∧
     True ∧
     match (↑v.length : Int) == (1 : Int) with
     | true =>
      (Sk.st [Sk.one, Sk.one] = Sk.st [Sk.one, Sk.one] ∧ (1 : Nat) < (2 : Nat)) ∧
      ((1 : Nat) ≠ (0 : Nat) ∧ (1 : Nat) = (1 : Nat) ∧ false = false) ∧ ((0 : Int) ≤ (0 : Int) ∧ (0 : Int) < (↑v.length : Int) ∧ (1 : Nat) = (1 : Nat)) ∧ ((1 : Nat) ≠ (0 : Nat) ∧ (1 : Nat) = (1 : Nat) ∧ false = false) ∧ True ∧ True ∧ True ∧ (false = false ∧ True) ∧ D.val (Value.bool (decide (v.getD (0 : Nat) (0 : Int) ≤ (1 : Int)))) = F
     | false => True ∧ True ∧ (false = false ∧ True) ∧ D.val (Value.bool false) = F
  | false =>
   True ∧
   True ∧
   match k == (3 : Int) with
   | true => True ∧ True ∧ True ∧ (false = false ∧ True) ∧ D.val (Value.bool (decide ((↑v.length : Int) ≤ (32 : Int)))) = F
   | false =>
    True ∧
    True ∧
    match k == (4 : Int) with
    | true => True ∧ True ∧ True ∧ (false = false ∧ True) ∧ D.val (Value.bool (decide ((↑v.length : Int) ≤ (64 : Int)))) = F
    | false =>
     True ∧
     True ∧
     True ∧
     match (↑v.length : Int) == (1 : Int) with
     | true =>
      (Sk.st [Sk.one, Sk.one] = Sk.st [Sk.one, Sk.one] ∧ (1 : Nat) < (2 : Nat)) ∧
      ((1 : Nat) ≠ (0 : Nat) ∧ (1 : Nat) = (1 : Nat) ∧ false = false) ∧ ((0 : Int) ≤ (0 : Int) ∧ (0 : Int) < (↑v.length : Int) ∧ (1 : Nat) = (1 : Nat)) ∧ ((1 : Nat) ≠ (0 : Nat) ∧ (1 : Nat) = (1 : Nat) ∧ false = false) ∧ True ∧ True ∧ True ∧ (false = false ∧ True) ∧ D.val (Value.bool (decide (v.getD (0 : Nat) (0 : Int) ≤ (1 : Int)))) = F
     | false => True ∧ True ∧ (false = false ∧ True) ∧ D.val (Value.bool false) = F) := by kernel_rfl
set_option maxRecDepth 100000 in
theorem vc27  (l : List D) (F : D)  :
    (owed c27 (inv27 l) Try.f27 [.slc 2 l] F) = (
 True ∧
 True ∧
 True ∧
 True ∧
 match decide ((↑l.length : Int) > (24 : Int)) with
 | true => True ∧ (false = false ∧ True) ∧ D.val (Value.int IntKind.i64 (2 : Int)) = F
 | false =>
  (True ∧ (19 : Nat) ≠ (0 : Nat)) ∧
  True ∧
  True ∧
  True ∧
  (((AV.d (D.val (Value.int IntKind.i64 (0 : Int))) = AV.d (D.val (Value.int IntKind.i64 (↑(Int.toNat (0 : Int)) : Int))) ∧ True) ∧
  (some
  (Blk.fix
  (D.st
  [D.val (Value.bool false), D.val (Value.bool false), D.val (Value.bool false), D.val (Value.bool false), D.val (Value.bool false), D.val (Value.bool false), D.val (Value.bool false), D.val (Value.bool false), D.val (Value.bool false), D.val (Value.bool false), D.val (Value.bool false), D.val (Value.bool false), D.val (Value.bool false),
  D.val (Value.bool false), D.val (Value.bool false), D.val (Value.bool false), D.val (Value.bool false), D.val (Value.bool false), D.val (Value.bool false)])) =
  some (Blk.fix (D.st (hL fun (k : Nat) => has (↑k : Int) (List.take (Int.toNat (0 : Int)) l)))) ∧
  True) ∧
  true = true) ∧
  Int.toNat (0 : Int) ≤ l.length ∧ afN l (Int.toNat (0 : Int)) = (0 : Int)) ∧
  ∀ (x : Nat),
  x ≤ l.length ∧ afN l x = (0 : Int) →
  true = true ∧
  True ∧
  match decide ((↑x : Int) < (↑l.length : Int)) with
  | true =>
   ((0 : Int) ≤ (↑x : Int) ∧
   (↑x : Int) < (↑l.length : Int) ∧ (2 : Nat) ≠ (0 : Nat) ∧ (2 : Nat) = (2 : Nat) ∧ D.st [D.val (Value.int IntKind.i64 (numOf (fldOf (l.getD (↑x : Int).toNat (D.val (Value.bool false))) (0 : Nat)))), D.ints IntKind.u8 (intsOf (fldOf (l.getD (↑x : Int).toNat (D.val (Value.bool false))) (1 : Nat)))] = l.getD (↑x : Int).toNat (D.val (Value.bool false))) ∧
   ((2 : Nat) ≠ (0 : Nat) ∧ (2 : Nat) = (2 : Nat) ∧ true = true) ∧
   (True ∧ (2 : Nat) ≠ (0 : Nat)) ∧
   (Sk.st [Sk.one, Sk.one] = Sk.st [Sk.one, Sk.one] ∧ (2 : Nat) ≠ (0 : Nat) ∧ (2 : Nat) = (2 : Nat) ∧ false = false) ∧
   (Sk.st [Sk.one, Sk.one] = Sk.st [Sk.one, Sk.one] ∧ (0 : Nat) < (2 : Nat)) ∧
   ((1 : Nat) ≠ (0 : Nat) ∧ (1 : Nat) = (1 : Nat) ∧ false = false) ∧
   True ∧
   True ∧
   match decide (numOf (fldOf (l.getD (↑x : Int).toNat (D.val (Value.bool false))) (0 : Nat)) < (1 : Int)) with
   | true => True ∧ True ∧ True ∧ (false = false ∧ True) ∧ D.val (Value.int IntKind.i64 (13 : Int)) = F
   | false =>
    (Sk.st [Sk.one, Sk.one] = Sk.st [Sk.one, Sk.one] ∧ (0 : Nat) < (2 : Nat)) ∧
    ((1 : Nat) ≠ (0 : Nat) ∧ (1 : Nat) = (1 : Nat) ∧ false = false) ∧
    True ∧
    True ∧
    True ∧
    match decide (numOf (fldOf (l.getD (↑x : Int).toNat (D.val (Value.bool false))) (0 : Nat)) > (18 : Int)) with
    | true => True ∧ (false = false ∧ True) ∧ D.val (Value.int IntKind.i64 (13 : Int)) = F
    | false =>
     ((2 : Nat) ≠ (0 : Nat) ∧ (2 : Nat) = (2 : Nat) ∧ true = true) ∧
     (∃ (k : Int), ∃ (v : List Int), [D.st [D.val (Value.int IntKind.i64 (numOf (fldOf (l.getD (↑x : Int).toNat (D.val (Value.bool false))) (0 : Nat)))), D.ints IntKind.u8 (intsOf (fldOf (l.getD (↑x : Int).toNat (D.val (Value.bool false))) (1 : Nat)))]] = [D.st [D.val (Value.int IntKind.i64 k), D.ints IntKind.u8 v]] ∧ okv v) ∧
     True ∧
     True ∧
     match
     !fitB (kOf (D.st [D.val (Value.int IntKind.i64 (numOf (fldOf (l.getD (↑x : Int).toNat (D.val (Value.bool false))) (0 : Nat)))), D.ints IntKind.u8 (intsOf (fldOf (l.getD (↑x : Int).toNat (D.val (Value.bool false))) (1 : Nat)))]))
     (vOf (D.st [D.val (Value.int IntKind.i64 (numOf (fldOf (l.getD (↑x : Int).toNat (D.val (Value.bool false))) (0 : Nat)))), D.ints IntKind.u8 (intsOf (fldOf (l.getD (↑x : Int).toNat (D.val (Value.bool false))) (1 : Nat)))])) with
     | true => True ∧ (false = false ∧ True) ∧ D.val (Value.int IntKind.i64 (4 : Int)) = F
     | false =>
      (Sk.st [Sk.one, Sk.one] = Sk.st [Sk.one, Sk.one] ∧ (0 : Nat) < (2 : Nat)) ∧
      ((1 : Nat) ≠ (0 : Nat) ∧ (1 : Nat) = (1 : Nat) ∧ false = false) ∧
      ((0 : Int) ≤ numOf (fldOf (l.getD (↑x : Int).toNat (D.val (Value.bool false))) (0 : Nat)) ∧
      numOf (fldOf (l.getD (↑x : Int).toNat (D.val (Value.bool false))) (0 : Nat)) < (↑(19 : Nat) : Int) ∧ (hL fun (k : Nat) => has (↑k : Int) (List.take x l)).length = (19 : Nat) ∧ ones (hL fun (k : Nat) => has (↑k : Int) (List.take x l)) ∧ (1 : Nat) = (1 : Nat)) ∧
      (((1 : Nat) ≠ (0 : Nat) ∧
      (sk ((hL fun (k : Nat) => has (↑k : Int) (List.take x l)).getD (numOf (fldOf (l.getD (↑x : Int).toNat (D.val (Value.bool false))) (0 : Nat))).toNat (D.val (Value.bool false)))).size = (1 : Nat) ∧
      ((hL fun (k : Nat) => has (↑k : Int) (List.take x l)).getD (numOf (fldOf (l.getD (↑x : Int).toNat (D.val (Value.bool false))) (0 : Nat))).toNat (D.val (Value.bool false))).isAgg = false) ∧
      D.val (Value.bool (boolOf ((hL fun (k : Nat) => has (↑k : Int) (List.take x l)).getD (numOf (fldOf (l.getD (↑x : Int).toNat (D.val (Value.bool false))) (0 : Nat))).toNat (D.val (Value.bool false))))) =
      (hL fun (k : Nat) => has (↑k : Int) (List.take x l)).getD (numOf (fldOf (l.getD (↑x : Int).toNat (D.val (Value.bool false))) (0 : Nat))).toNat (D.val (Value.bool false))) ∧
      True ∧
      match boolOf ((hL fun (k : Nat) => has (↑k : Int) (List.take x l)).getD (numOf (fldOf (l.getD (↑x : Int).toNat (D.val (Value.bool false))) (0 : Nat))).toNat (D.val (Value.bool false))) with
      | true => True ∧ (false = false ∧ True) ∧ D.val (Value.int IntKind.i64 (1 : Int)) = F
      | false =>
       (Sk.st [Sk.one, Sk.one] = Sk.st [Sk.one, Sk.one] ∧ (0 : Nat) < (2 : Nat)) ∧
       ((1 : Nat) ≠ (0 : Nat) ∧ (1 : Nat) = (1 : Nat) ∧ false = false) ∧
       ((0 : Int) ≤ numOf (fldOf (l.getD (↑x : Int).toNat (D.val (Value.bool false))) (0 : Nat)) ∧
       numOf (fldOf (l.getD (↑x : Int).toNat (D.val (Value.bool false))) (0 : Nat)) < (↑(19 : Nat) : Int) ∧ (hL fun (k : Nat) => has (↑k : Int) (List.take x l)).length = (19 : Nat) ∧ ones (hL fun (k : Nat) => has (↑k : Int) (List.take x l)) ∧ (1 : Nat) = (1 : Nat)) ∧
       (((numOf (fldOf (l.getD (↑x : Int).toNat (D.val (Value.bool false))) (0 : Nat))).toNat < (hL fun (k : Nat) => has (↑k : Int) (List.take x l)).length ∧
       Sk.one = sk ((hL fun (k : Nat) => has (↑k : Int) (List.take x l)).getD (numOf (fldOf (l.getD (↑x : Int).toNat (D.val (Value.bool false))) (0 : Nat))).toNat (D.val (Value.bool false)))) ∧
       (1 : Nat) ≠ (0 : Nat) ∧ (1 : Nat) = (1 : Nat) ∧ false = false) ∧
       True ∧
       True ∧
       ((AV.d (D.val (Value.int IntKind.i64 (IntKind.i64.wrap ((↑x : Int) + (1 : Int))))) = AV.d (D.val (Value.int IntKind.i64 (↑(IntKind.i64.wrap ((↑x : Int) + (1 : Int))).toNat : Int))) ∧ True) ∧
       (some (Blk.fix (D.st ((hL fun (k : Nat) => has (↑k : Int) (List.take x l)).set (numOf (fldOf (l.getD (↑x : Int).toNat (D.val (Value.bool false))) (0 : Nat))).toNat (D.val (Value.bool true))))) =
       some (Blk.fix (D.st (hL fun (k : Nat) => has (↑k : Int) (List.take (IntKind.i64.wrap ((↑x : Int) + (1 : Int))).toNat l)))) ∧
       True) ∧
       true = true) ∧
       ((IntKind.i64.wrap ((↑x : Int) + (1 : Int))).toNat ≤ l.length ∧ afN l (IntKind.i64.wrap ((↑x : Int) + (1 : Int))).toNat = (0 : Int)) ∧ l.length - (IntKind.i64.wrap ((↑x : Int) + (1 : Int))).toNat < l.length - x
  | false => True ∧ (false = false ∧ True) ∧ D.val (Value.int IntKind.i64 (0 : Int)) = F) := by kernel_rfl
set_option maxRecDepth 100000 in
theorem vc24  (l : List D) (F : D)  :
    (owed c24 (inv24 l) Try.f24 [.slc 2 l] F) = (
 (True ∧ (38 : Nat) ≠ (0 : Nat)) ∧
 (True ∧ (38 : Nat) ≠ (0 : Nat)) ∧
 True ∧
 True ∧
 True ∧
 (((AV.d (D.val (Value.int IntKind.i64 (0 : Int))) = AV.d (D.val (Value.int IntKind.i64 (↑(Int.toNat (0 : Int)) : Int))) ∧ True) ∧
 (sm
 (some
 (Blk.fix
 (D.st
 [D.st
 [D.val (Value.bool false), D.val (Value.bool false), D.val (Value.bool false), D.val (Value.bool false), D.val (Value.bool false), D.val (Value.bool false), D.val (Value.bool false), D.val (Value.bool false), D.val (Value.bool false), D.val (Value.bool false), D.val (Value.bool false), D.val (Value.bool false), D.val (Value.bool false), D.val (Value.bool false),
 D.val (Value.bool false), D.val (Value.bool false), D.val (Value.bool false), D.val (Value.bool false), D.val (Value.bool false)],
 D.st [D.str [], D.str [], D.str [], D.str [], D.str [], D.str [], D.str [], D.str [], D.str [], D.str [], D.str [], D.str [], D.str [], D.str [], D.str [], D.str [], D.str [], D.str [], D.str []]]))) ∧
 some
 (Blk.fix
 (D.st
 [D.st
 [D.val (Value.bool false), D.val (Value.bool false), D.val (Value.bool false), D.val (Value.bool false), D.val (Value.bool false), D.val (Value.bool false), D.val (Value.bool false), D.val (Value.bool false), D.val (Value.bool false), D.val (Value.bool false), D.val (Value.bool false), D.val (Value.bool false), D.val (Value.bool false), D.val (Value.bool false),
 D.val (Value.bool false), D.val (Value.bool false), D.val (Value.bool false), D.val (Value.bool false), D.val (Value.bool false)],
 D.st [D.str [], D.str [], D.str [], D.str [], D.str [], D.str [], D.str [], D.str [], D.str [], D.str [], D.str [], D.str [], D.str [], D.str [], D.str [], D.str [], D.str [], D.str [], D.str []]])) =
 some (Blk.fix (D.st [D.st (hL (cH (List.take (Int.toNat (0 : Int)) l))), D.st (vL (cV (List.take (Int.toNat (0 : Int)) l)))])) ∧
 True) ∧
 true = true) ∧
 Int.toNat (0 : Int) ≤ l.length) ∧
 ∀ (x : Nat),
 x ≤ l.length →
 true = true ∧
 True ∧
 match decide ((↑x : Int) < (↑l.length : Int)) with
 | true =>
  ((0 : Int) ≤ (↑x : Int) ∧
  (↑x : Int) < (↑l.length : Int) ∧ (2 : Nat) ≠ (0 : Nat) ∧ (2 : Nat) = (2 : Nat) ∧ D.st [D.val (Value.int IntKind.i64 (numOf (fldOf (l.getD (↑x : Int).toNat (D.val (Value.bool false))) (0 : Nat)))), D.ints IntKind.u8 (intsOf (fldOf (l.getD (↑x : Int).toNat (D.val (Value.bool false))) (1 : Nat)))] = l.getD (↑x : Int).toNat (D.val (Value.bool false))) ∧
  ((2 : Nat) ≠ (0 : Nat) ∧ (2 : Nat) = (2 : Nat) ∧ true = true) ∧
  (True ∧ (2 : Nat) ≠ (0 : Nat)) ∧
  (Nat.beq (5 : Nat) (5 : Nat) = true ∧ Sk.st [Sk.one, Sk.one] = Sk.st [Sk.one, Sk.one] ∧ (2 : Nat) ≠ (0 : Nat) ∧ (2 : Nat) = (2 : Nat) ∧ false = false) ∧
  (Nat.beq (5 : Nat) (5 : Nat) = true ∧ Sk.st [Sk.one, Sk.one] = Sk.st [Sk.one, Sk.one] ∧ (0 : Nat) < (2 : Nat)) ∧
  ((1 : Nat) ≠ (0 : Nat) ∧ (1 : Nat) = (1 : Nat) ∧ false = false) ∧
  True ∧
  True ∧
  match decide (numOf (fldOf (l.getD (↑x : Int).toNat (D.val (Value.bool false))) (0 : Nat)) ≥ (1 : Int)) with
  | true =>
   (Nat.beq (5 : Nat) (5 : Nat) = true ∧ Sk.st [Sk.one, Sk.one] = Sk.st [Sk.one, Sk.one] ∧ (0 : Nat) < (2 : Nat)) ∧
   ((1 : Nat) ≠ (0 : Nat) ∧ (1 : Nat) = (1 : Nat) ∧ false = false) ∧
   True ∧
   True ∧
   True ∧
   match decide (numOf (fldOf (l.getD (↑x : Int).toNat (D.val (Value.bool false))) (0 : Nat)) ≤ (18 : Int)) with
   | true =>
    (Nat.beq (5 : Nat) (5 : Nat) = true ∧ Sk.st [Sk.one, Sk.one] = Sk.st [Sk.one, Sk.one] ∧ (0 : Nat) < (2 : Nat)) ∧
    ((1 : Nat) ≠ (0 : Nat) ∧ (1 : Nat) = (1 : Nat) ∧ false = false) ∧
    (Nat.beq (3 : Nat) (3 : Nat) = true ∧ sm (sk (tg c24.tab (40 : Nat)).zero) ∧ (0 : Nat) < (2 : Nat)) ∧
    ((0 : Int) ≤ numOf (fldOf (l.getD (↑x : Int).toNat (D.val (Value.bool false))) (0 : Nat)) ∧ numOf (fldOf (l.getD (↑x : Int).toNat (D.val (Value.bool false))) (0 : Nat)) < (↑(19 : Nat) : Int) ∧ (hL (cH (List.take x l))).length = (19 : Nat) ∧ ones (hL (cH (List.take x l))) ∧ (1 : Nat) = (1 : Nat)) ∧
    (((1 : Nat) ≠ (0 : Nat) ∧
    (sk ((hL (cH (List.take x l))).getD (numOf (fldOf (l.getD (↑x : Int).toNat (D.val (Value.bool false))) (0 : Nat))).toNat (D.val (Value.bool false)))).size = (1 : Nat) ∧ ((hL (cH (List.take x l))).getD (numOf (fldOf (l.getD (↑x : Int).toNat (D.val (Value.bool false))) (0 : Nat))).toNat (D.val (Value.bool false))).isAgg = false) ∧
    D.val (Value.bool (boolOf ((hL (cH (List.take x l))).getD (numOf (fldOf (l.getD (↑x : Int).toNat (D.val (Value.bool false))) (0 : Nat))).toNat (D.val (Value.bool false))))) = (hL (cH (List.take x l))).getD (numOf (fldOf (l.getD (↑x : Int).toNat (D.val (Value.bool false))) (0 : Nat))).toNat (D.val (Value.bool false))) ∧
    True ∧
    True ∧
    match !boolOf ((hL (cH (List.take x l))).getD (numOf (fldOf (l.getD (↑x : Int).toNat (D.val (Value.bool false))) (0 : Nat))).toNat (D.val (Value.bool false))) with
    | true =>
     (Nat.beq (5 : Nat) (5 : Nat) = true ∧ Sk.st [Sk.one, Sk.one] = Sk.st [Sk.one, Sk.one] ∧ (0 : Nat) < (2 : Nat)) ∧
     (Nat.beq (5 : Nat) (5 : Nat) = true ∧ (1 : Nat) ≠ (0 : Nat) ∧ (1 : Nat) = (1 : Nat) ∧ false = false) ∧
     (Nat.beq (5 : Nat) (5 : Nat) = true ∧ Sk.st [Sk.one, Sk.one] = Sk.st [Sk.one, Sk.one] ∧ (0 : Nat) < (2 : Nat)) ∧
     (Nat.beq (5 : Nat) (5 : Nat) = true ∧ (1 : Nat) ≠ (0 : Nat) ∧ (1 : Nat) = (1 : Nat) ∧ false = false) ∧
     (Nat.beq (5 : Nat) (5 : Nat) = true ∧ Sk.st [Sk.one, Sk.one] = Sk.st [Sk.one, Sk.one] ∧ (1 : Nat) < (2 : Nat)) ∧
     (Nat.beq (5 : Nat) (5 : Nat) = true ∧ (1 : Nat) ≠ (0 : Nat) ∧ (1 : Nat) = (1 : Nat) ∧ false = false) ∧
     isBytes (intsOf (fldOf (l.getD (↑x : Int).toNat (D.val (Value.bool false))) (1 : Nat))) ∧
     (Nat.beq (3 : Nat) (3 : Nat) = true ∧ sm (sk (tg c24.tab (40 : Nat)).zero) ∧ (0 : Nat) < (2 : Nat)) ∧
     ((0 : Int) ≤ numOf (fldOf (l.getD (↑x : Int).toNat (D.val (Value.bool false))) (0 : Nat)) ∧ numOf (fldOf (l.getD (↑x : Int).toNat (D.val (Value.bool false))) (0 : Nat)) < (↑(19 : Nat) : Int) ∧ (hL (cH (List.take x l))).length = (19 : Nat) ∧ ones (hL (cH (List.take x l))) ∧ (1 : Nat) = (1 : Nat)) ∧
     (Nat.beq (3 : Nat) (3 : Nat) = true ∧
     ((0 : Nat) < (2 : Nat) ∧ (numOf (fldOf (l.getD (↑x : Int).toNat (D.val (Value.bool false))) (0 : Nat))).toNat < (hL (cH (List.take x l))).length ∧ Sk.one = sk ((hL (cH (List.take x l))).getD (numOf (fldOf (l.getD (↑x : Int).toNat (D.val (Value.bool false))) (0 : Nat))).toNat (D.val (Value.bool false)))) ∧
     (1 : Nat) ≠ (0 : Nat) ∧ (1 : Nat) = (1 : Nat) ∧ false = false) ∧
     (Nat.beq (3 : Nat) (3 : Nat) = true ∧
     Sk.st
     [Sk.st (sks ((hL (cH (List.take x l))).set (numOf (fldOf (l.getD (↑x : Int).toNat (D.val (Value.bool false))) (0 : Nat))).toNat (D.val (Value.bool true)))),
     Sk.st [Sk.one, Sk.one, Sk.one, Sk.one, Sk.one, Sk.one, Sk.one, Sk.one, Sk.one, Sk.one, Sk.one, Sk.one, Sk.one, Sk.one, Sk.one, Sk.one, Sk.one, Sk.one, Sk.one]] =
     Sk.st
     [Sk.st [Sk.one, Sk.one, Sk.one, Sk.one, Sk.one, Sk.one, Sk.one, Sk.one, Sk.one, Sk.one, Sk.one, Sk.one, Sk.one, Sk.one, Sk.one, Sk.one, Sk.one, Sk.one, Sk.one],
     Sk.st [Sk.one, Sk.one, Sk.one, Sk.one, Sk.one, Sk.one, Sk.one, Sk.one, Sk.one, Sk.one, Sk.one, Sk.one, Sk.one, Sk.one, Sk.one, Sk.one, Sk.one, Sk.one, Sk.one]] ∧
     (1 : Nat) < (2 : Nat)) ∧
     ((0 : Int) ≤ numOf (fldOf (l.getD (↑x : Int).toNat (D.val (Value.bool false))) (0 : Nat)) ∧ numOf (fldOf (l.getD (↑x : Int).toNat (D.val (Value.bool false))) (0 : Nat)) < (↑(19 : Nat) : Int) ∧ (vL (cV (List.take x l))).length = (19 : Nat) ∧ ones (vL (cV (List.take x l))) ∧ (1 : Nat) = (1 : Nat)) ∧
     (Nat.beq (3 : Nat) (3 : Nat) = true ∧
     ((1 : Nat) < (2 : Nat) ∧
     (numOf (fldOf (l.getD (↑x : Int).toNat (D.val (Value.bool false))) (0 : Nat))).toNat < (vL (cV (List.take x l))).length ∧ Sk.one = sk ((vL (cV (List.take x l))).getD (numOf (fldOf (l.getD (↑x : Int).toNat (D.val (Value.bool false))) (0 : Nat))).toNat (D.val (Value.bool false)))) ∧
     (1 : Nat) ≠ (0 : Nat) ∧ (1 : Nat) = (1 : Nat) ∧ false = false) ∧
     True ∧
     True ∧
     ((AV.d (D.val (Value.int IntKind.i64 (IntKind.i64.wrap ((↑x : Int) + (1 : Int))))) = AV.d (D.val (Value.int IntKind.i64 (↑(IntKind.i64.wrap ((↑x : Int) + (1 : Int))).toNat : Int))) ∧ True) ∧
     (sm
     (some
     (Blk.fix
     (D.st
     [D.st
     [D.val (Value.bool false), D.val (Value.bool false), D.val (Value.bool false), D.val (Value.bool false), D.val (Value.bool false), D.val (Value.bool false), D.val (Value.bool false), D.val (Value.bool false), D.val (Value.bool false), D.val (Value.bool false),
     D.val (Value.bool false), D.val (Value.bool false), D.val (Value.bool false), D.val (Value.bool false), D.val (Value.bool false), D.val (Value.bool false), D.val (Value.bool false), D.val (Value.bool false), D.val (Value.bool false)],
     D.st [D.str [], D.str [], D.str [], D.str [], D.str [], D.str [], D.str [], D.str [], D.str [], D.str [], D.str [], D.str [], D.str [], D.str [], D.str [], D.str [], D.str [], D.str [], D.str []]]))) ∧
     some
     (Blk.fix
     (D.st
     [D.st ((hL (cH (List.take x l))).set (numOf (fldOf (l.getD (↑x : Int).toNat (D.val (Value.bool false))) (0 : Nat))).toNat (D.val (Value.bool true))),
     D.st ((vL (cV (List.take x l))).set (numOf (fldOf (l.getD (↑x : Int).toNat (D.val (Value.bool false))) (0 : Nat))).toNat (D.str (intsOf (fldOf (l.getD (↑x : Int).toNat (D.val (Value.bool false))) (1 : Nat)))))])) =
     some (Blk.fix (D.st [D.st (hL (cH (List.take (IntKind.i64.wrap ((↑x : Int) + (1 : Int))).toNat l))), D.st (vL (cV (List.take (IntKind.i64.wrap ((↑x : Int) + (1 : Int))).toNat l)))])) ∧
     True) ∧
     true = true) ∧
     (IntKind.i64.wrap ((↑x : Int) + (1 : Int))).toNat ≤ l.length ∧ l.length - (IntKind.i64.wrap ((↑x : Int) + (1 : Int))).toNat < l.length - x
    | false =>
     True ∧
     True ∧
     ((AV.d (D.val (Value.int IntKind.i64 (IntKind.i64.wrap ((↑x : Int) + (1 : Int))))) = AV.d (D.val (Value.int IntKind.i64 (↑(IntKind.i64.wrap ((↑x : Int) + (1 : Int))).toNat : Int))) ∧ True) ∧
     (sm
     (some
     (Blk.fix
     (D.st
     [D.st
     [D.val (Value.bool false), D.val (Value.bool false), D.val (Value.bool false), D.val (Value.bool false), D.val (Value.bool false), D.val (Value.bool false), D.val (Value.bool false), D.val (Value.bool false), D.val (Value.bool false), D.val (Value.bool false), D.val (Value.bool false),
     D.val (Value.bool false), D.val (Value.bool false), D.val (Value.bool false), D.val (Value.bool false), D.val (Value.bool false), D.val (Value.bool false), D.val (Value.bool false), D.val (Value.bool false)],
     D.st [D.str [], D.str [], D.str [], D.str [], D.str [], D.str [], D.str [], D.str [], D.str [], D.str [], D.str [], D.str [], D.str [], D.str [], D.str [], D.str [], D.str [], D.str [], D.str []]]))) ∧
     some (Blk.fix (D.st [D.st (hL (cH (List.take x l))), D.st (vL (cV (List.take x l)))])) = some (Blk.fix (D.st [D.st (hL (cH (List.take (IntKind.i64.wrap ((↑x : Int) + (1 : Int))).toNat l))), D.st (vL (cV (List.take (IntKind.i64.wrap ((↑x : Int) + (1 : Int))).toNat l)))])) ∧ True) ∧
     true = true) ∧
     (IntKind.i64.wrap ((↑x : Int) + (1 : Int))).toNat ≤ l.length ∧ l.length - (IntKind.i64.wrap ((↑x : Int) + (1 : Int))).toNat < l.length - x
   | false =>
    True ∧
    True ∧
    True ∧
    ((AV.d (D.val (Value.int IntKind.i64 (IntKind.i64.wrap ((↑x : Int) + (1 : Int))))) = AV.d (D.val (Value.int IntKind.i64 (↑(IntKind.i64.wrap ((↑x : Int) + (1 : Int))).toNat : Int))) ∧ True) ∧
    (sm
    (some
    (Blk.fix
    (D.st
    [D.st
    [D.val (Value.bool false), D.val (Value.bool false), D.val (Value.bool false), D.val (Value.bool false), D.val (Value.bool false), D.val (Value.bool false), D.val (Value.bool false), D.val (Value.bool false), D.val (Value.bool false), D.val (Value.bool false), D.val (Value.bool false), D.val (Value.bool false),
    D.val (Value.bool false), D.val (Value.bool false), D.val (Value.bool false), D.val (Value.bool false), D.val (Value.bool false), D.val (Value.bool false), D.val (Value.bool false)],
    D.st [D.str [], D.str [], D.str [], D.str [], D.str [], D.str [], D.str [], D.str [], D.str [], D.str [], D.str [], D.str [], D.str [], D.str [], D.str [], D.str [], D.str [], D.str [], D.str []]]))) ∧
    some (Blk.fix (D.st [D.st (hL (cH (List.take x l))), D.st (vL (cV (List.take x l)))])) = some (Blk.fix (D.st [D.st (hL (cH (List.take (IntKind.i64.wrap ((↑x : Int) + (1 : Int))).toNat l))), D.st (vL (cV (List.take (IntKind.i64.wrap ((↑x : Int) + (1 : Int))).toNat l)))])) ∧ True) ∧
    true = true) ∧
    (IntKind.i64.wrap ((↑x : Int) + (1 : Int))).toNat ≤ l.length ∧ l.length - (IntKind.i64.wrap ((↑x : Int) + (1 : Int))).toNat < l.length - x
  | false =>
   True ∧
   True ∧
   True ∧
   True ∧
   True ∧
   ((AV.d (D.val (Value.int IntKind.i64 (IntKind.i64.wrap ((↑x : Int) + (1 : Int))))) = AV.d (D.val (Value.int IntKind.i64 (↑(IntKind.i64.wrap ((↑x : Int) + (1 : Int))).toNat : Int))) ∧ True) ∧
   (sm
   (some
   (Blk.fix
   (D.st
   [D.st
   [D.val (Value.bool false), D.val (Value.bool false), D.val (Value.bool false), D.val (Value.bool false), D.val (Value.bool false), D.val (Value.bool false), D.val (Value.bool false), D.val (Value.bool false), D.val (Value.bool false), D.val (Value.bool false), D.val (Value.bool false), D.val (Value.bool false),
   D.val (Value.bool false), D.val (Value.bool false), D.val (Value.bool false), D.val (Value.bool false), D.val (Value.bool false), D.val (Value.bool false), D.val (Value.bool false)],
   D.st [D.str [], D.str [], D.str [], D.str [], D.str [], D.str [], D.str [], D.str [], D.str [], D.str [], D.str [], D.str [], D.str [], D.str [], D.str [], D.str [], D.str [], D.str [], D.str []]]))) ∧
   some (Blk.fix (D.st [D.st (hL (cH (List.take x l))), D.st (vL (cV (List.take x l)))])) = some (Blk.fix (D.st [D.st (hL (cH (List.take (IntKind.i64.wrap ((↑x : Int) + (1 : Int))).toNat l))), D.st (vL (cV (List.take (IntKind.i64.wrap ((↑x : Int) + (1 : Int))).toNat l)))])) ∧ True) ∧
   true = true) ∧
   (IntKind.i64.wrap ((↑x : Int) + (1 : Int))).toNat ≤ l.length ∧ l.length - (IntKind.i64.wrap ((↑x : Int) + (1 : Int))).toNat < l.length - x
 | false =>
  (Nat.beq (3 : Nat) (3 : Nat) = true ∧ (38 : Nat) ≠ (0 : Nat) ∧ (38 : Nat) = (38 : Nat) ∧ true = true) ∧
  (sm
  (sk
  (D.st
  [D.st
  [D.val (Value.bool false), D.val (Value.bool false), D.val (Value.bool false), D.val (Value.bool false), D.val (Value.bool false), D.val (Value.bool false), D.val (Value.bool false), D.val (Value.bool false), D.val (Value.bool false), D.val (Value.bool false), D.val (Value.bool false), D.val (Value.bool false), D.val (Value.bool false),
  D.val (Value.bool false), D.val (Value.bool false), D.val (Value.bool false), D.val (Value.bool false), D.val (Value.bool false), D.val (Value.bool false)],
  D.st [D.str [], D.str [], D.str [], D.str [], D.str [], D.str [], D.str [], D.str [], D.str [], D.str [], D.str [], D.str [], D.str [], D.str [], D.str [], D.str [], D.str [], D.str [], D.str []]])) ∧
  (38 : Nat) ≠ (0 : Nat) ∧ (38 : Nat) = (38 : Nat) ∧ false = false) ∧
  (((38 : Nat) ≠ (0 : Nat) ∧ (38 : Nat) = (38 : Nat) ∧ true = true) ∧ True) ∧ D.st [D.st (hL (cH (List.take x l))), D.st (vL (cV (List.take x l)))] = F) := by kernel_rfl
theorem f0_at (k : Int) (v : List Int) : numOf (fldOf (at_ k v) 0) = k := rfl
theorem f1_at (k : Int) (v : List Int) : intsOf (fldOf (at_ k v) 1) = v := rfl
theorem sk_bl (b : Bool) : sk (bl b) = .one := rfl
theorem sk_str (b : List Int) : sk (.str b) = .one := rfl
theorem sk1 : Sk.one.size = 1 := rfl
theorem ag_bl (b : Bool) : (bl b).isAgg = false := rfl
theorem ag_str (b : List Int) : (D.str b).isAgg = false := rfl
theorem boolOf_bl (b : Bool) : boolOf (bl b) = b := rfl
theorem strOf_str (b : List Int) : Go.Vg.strOf (.str b) = b := rfl
theorem wS {x n : Nat} (h : x < n) (hn : n ≤ 140737488351232) : IntKind.i64.wrap ((x : Int) + 1) = ((x + 1 : Nat) : Int) := by
 rw [show (x : Int) + 1 = ((x + 1 : Nat) : Int) by omega, wNi (n := x + 1) (by omega)]
theorem kO_at (k : Int) (v : List Int) : kOf (at_ k v) = k := rfl
theorem vO_at (k : Int) (v : List Int) : vOf (at_ k v) = v := rfl
theorem afE_at {l : List D} {x : Nat} (hx : x < l.length) (hl : ¬ 24 < l.length) (h0 : afN l x = 0) {e : Int} (hI : afI l x = e) (he : e ≠ 0) : afE l = e := by
 have h1 : afN l (x + 1) = e := by rw [afN, if_pos h0]; exact hI
 unfold afE
 rw [if_neg hl, afN_stop (n := x + 1) (by rw [h1]; exact he) l.length hx, h1]
theorem afN_step {l : List D} {x : Nat} (h0 : afN l x = 0) (hI : afI l x = 0) : afN l (x + 1) = 0 := by rw [afN, if_pos h0]; exact hI
theorem hT_snoc {l : List D} {x n : Nat} (hx : x < l.length) (e : kOf (l.getD x default) = n) :
  (hL fun j => if j = n then true else has j (l.take x)) = hL fun j => has j (l.take (x + 1)) := by
 refine hL_congr fun j _ => ?_
 rw [take_snoc hx, has_app, e]
 by_cases h : j = n
 ·subst h; rw [if_pos rfl, decide_eq_true rfl, Bool.or_true]
 ·rw [if_neg h, decide_eq_false (by omega), Bool.or_false]
theorem c_keep {l : List D} {x : Nat} (hx : x < l.length) (hk : ∀ j : Nat, j < 19 → 1 ≤ j → kOf (l.getD x default) = j → has j (l.take x) = true) :
  D.st [D.st (hL (cH (l.take x))), D.st (vL (cV (l.take x)))] = D.st [D.st (hL (cH (l.take (x + 1)))), D.st (vL (cV (l.take (x + 1))))] := by
 have e1 : ∀ j, j < 19 → cH (l.take x) j = cH (l.take (x + 1)) j := by
  intro j hj
  unfold cH
  rw [take_snoc hx, has_app]
  by_cases h1 : 1 ≤ j
  ·rw [decide_eq_true h1, Bool.true_and, Bool.true_and]
   by_cases h2 : kOf (l.getD x default) = j
   ·rw [hk j hj h1 h2, Bool.true_or]
   ·rw [decide_eq_false h2, Bool.or_false]
  ·rw [decide_eq_false h1, Bool.false_and, Bool.false_and]
 have e2 : ∀ j, j < 19 → cV (l.take x) j = cV (l.take (x + 1)) j := by
  intro j hj
  unfold cV
  rw [← e1 j hj]
  split
  ·rename_i h
   unfold cH at h
   simp only [Bool.and_eq_true, decide_eq_true_iff] at h
   rw [take_snoc hx, vl_app, if_pos h.2]
  ·rfl
 rw [hL_congr e1, vL_congr e2]
theorem c_snoc {l : List D} {x n : Nat} (hx : x < l.length) (e : kOf (l.getD x default) = n) (h1 : 1 ≤ n) (hh : cH (l.take x) n = false) :
  D.st [D.st (hL fun j => if j = n then true else cH (l.take x) j), D.st (vL (setV (cV (l.take x)) n (vOf (l.getD x default))))] = D.st [D.st (hL (cH (l.take (x + 1)))), D.st (vL (cV (l.take (x + 1))))] := by
 have hn : has (n : Int) (l.take x) = false := by
  unfold cH at hh
  rw [decide_eq_true h1, Bool.true_and] at hh
  exact hh
 have e1 : ∀ j, j < 19 → (if j = n then true else cH (l.take x) j) = cH (l.take (x + 1)) j := by
  intro j hj
  unfold cH
  rw [take_snoc hx, has_app, e]
  by_cases h2 : j = n
  ·subst h2
   rw [if_pos rfl, decide_eq_true h1, decide_eq_true rfl, Bool.or_true]; rfl
  ·rw [if_neg h2, decide_eq_false (show ¬(n : Int) = j by omega), Bool.or_false]
 have e2 : ∀ j, j < 19 → setV (cV (l.take x)) n (vOf (l.getD x default)) j = cV (l.take (x + 1)) j := by
  intro j hj
  have e1 := e1 j hj
  unfold setV
  by_cases h2 : j = n
  ·subst h2
   rw [if_pos rfl] at e1 ⊢
   unfold cV
   rw [← e1, if_pos rfl, take_snoc hx, vl_app, hn, if_neg (by decide), e, if_pos rfl]
  ·rw [if_neg h2] at e1 ⊢
   unfold cV
   rw [← e1]
   split
   ·rename_i h
    unfold cH at h
    simp only [Bool.and_eq_true, decide_eq_true_iff] at h
    rw [take_snoc hx, vl_app, if_pos h.2]
   ·rfl
 rw [hL_congr e1, vL_congr e2]
set_option maxRecDepth 100000 in
theorem m72 : Meets Try.prog 72 sp72 := by
 refine meets_of_owed (C := c0) ⟨tab_ok, fun f s h => by cases h⟩ (by kernel_rfl) (by kernel_rfl : Try.prog.funcs[72]? = some Try.f72) (by kernel_rfl) (by kernel_rfl) (by kernel_rfl) _ ?_
 rintro _ ⟨k, v, rfl, hv⟩
 refine ⟨fun _ => rfl, fun _ => none, ?_⟩
 show owed c0 (fun _ => none) Try.f72 [at_ k v] (bl (fitB k v))
 rw [vc72]
 have hv1 := hv.1
 simp (decide := true) only [eq_self, true_and, and_true, ne_eq, not_false_eq_true]
 have n1 : ∀ {n : Nat}, (n : Int) == 1 → n = 1 := fun h => by have := eq_of_beq h; omega
 unfold fitB
 split
 ·rename_i h
  rw [if_pos (eq_of_beq h)]
  split
  ·rename_i h2
   have h2 := n1 h2
   refine ⟨by omega, ?_⟩
   split
   ·rename_i h3
    have h3 := of_decide_eq_true h3
    refine ⟨by omega, ?_⟩
    congr 2
    rw [decide_eq_decide]
    exact ⟨fun a => ⟨h2, h3, a⟩, fun a => a.2.2⟩
   ·rename_i h3
    have h3 := of_decide_eq_false h3
    rw [decide_eq_false (fun a => h3 a.2.1)]
  ·rename_i h2
   rw [decide_eq_false (fun a => by rw [a.1] at h2; exact absurd h2 (by decide))]
 ·rename_i h
  have k1 : k ≠ 1 := fun e => by rw [e] at h; exact absurd h (by decide)
  rw [if_neg k1]
  have last : k ≠ 2 → k ≠ 3 → k ≠ 4 → (match (v.length : Int) == 1 with
    | true => (0 ≤ (0 : Int) ∧ (0 : Int) < (v.length : Int)) ∧ D.val (Value.bool (decide (v.getD 0 0 ≤ 1))) = bl (if k = 2 ∨ k = 3 then decide (v.length ≤ 32) else if k = 4 then decide (v.length ≤ 64) else decide (v.length = 1 ∧ v.getD 0 0 ≤ 1))
    | false => D.val (Value.bool false) = bl (if k = 2 ∨ k = 3 then decide (v.length ≤ 32) else if k = 4 then decide (v.length ≤ 64) else decide (v.length = 1 ∧ v.getD 0 0 ≤ 1))) := by
   intro k2 k3 k4
   rw [if_neg (by omega), if_neg k4]
   split
   ·rename_i h2
    have h2 := n1 h2
    refine ⟨by omega, ?_⟩
    congr 2
    rw [decide_eq_decide]
    exact ⟨fun a => ⟨h2, a⟩, fun a => a.2⟩
   ·rename_i h2
    rw [decide_eq_false (fun a => by rw [a.1] at h2; exact absurd h2 (by decide))]
  split
  ·rename_i h2
   rw [if_pos (.inl (eq_of_beq h2))]
   split
   ·congr 2
    rw [decide_eq_decide]; omega
   ·rename_i h3; cases h3
  ·rename_i h2
   have k2 : k ≠ 2 := fun e => by rw [e] at h2; exact absurd h2 (by decide)
   split
   ·rename_i h3
    rw [if_pos (.inr (eq_of_beq h3))]
    congr 2
    rw [decide_eq_decide]; omega
   ·rename_i h3
    have k3 : k ≠ 3 := fun e => by rw [e] at h3; exact absurd h3 (by decide)
    split
    ·rename_i h4
     rw [if_neg (by omega), if_pos (eq_of_beq h4)]
     congr 2
     rw [decide_eq_decide]; omega
    ·rename_i h4
     have k4 : k ≠ 4 := fun e => by rw [e] at h4; exact absurd h4 (by decide)
     have := last k2 k3 k4
     revert this
     cases (v.length : Int) == 1
     ·exact id
     ·intro this
      exact ⟨this.1.2, this.2⟩
set_option maxRecDepth 100000 in
theorem m27 : Meets Try.prog 27 sp27 := by
 refine meets_of_owed (C := c27) ⟨tab_ok, lkS_ok ⟨m72, trivial⟩⟩ (by kernel_rfl) (by kernel_rfl : Try.prog.funcs[27]? = some Try.f27) (by kernel_rfl) (by kernel_rfl) (by kernel_rfl) _ ?_
 rintro _ ⟨l, rfl, hl⟩
 refine ⟨fun _ => rfl, inv27 l, ?_⟩
 show owed c27 (inv27 l) Try.f27 [.slc 2 l] (i64 (afE l))
 have hl2 := hl.2
 rw [vc27]
 simp (decide := true) only [eq_self, true_and, and_true, ne_eq, not_false_eq_true]
 split
 ·rename_i h
  have h := of_decide_eq_true h
  unfold afE
  rw [if_pos (by omega)]
 ·rename_i h24
  have h24 : ¬ 24 < l.length := by have := of_decide_eq_false h24; omega
  refine ⟨?_, ?_⟩
  ·and_intros <;> first | rfl | exact Nat.zero_le _
  rintro x ⟨hx, h0⟩
  split
  ·rename_i h
   have h : x < l.length := by have := of_decide_eq_true h; omega
   obtain ⟨k, v, e, h1, h2⟩ := el hl h
   have e' : l.getD x default = at_ k v := e
   have ek : kOf (l.getD x default) = k := by rw [e']; rfl
   have ev : vOf (l.getD x default) = v := by rw [e']; rfl
   simp only [Int.toNat_natCast, e, f0_at, f1_at, kO_at, vO_at, wS h hl2]
   have hx2 : (x : Int) < l.length := by omega
   refine ⟨⟨by omega, hx2, trivial⟩, ?_⟩
   split
   ·rename_i h3
    have h3 := of_decide_eq_true h3
    rw [afE_at h h24 h0 (e := 13) (by unfold afI; rw [ek, if_pos (.inl h3)]) (by decide)]
   ·rename_i h3
    have h3 := of_decide_eq_false h3
    split
    ·rename_i h4
     have h4 := of_decide_eq_true h4
     rw [afE_at h h24 h0 (e := 13) (by unfold afI; rw [ek, if_pos (.inr h4)]) (by decide)]
    ·rename_i h4
     have h4 := of_decide_eq_false h4
     obtain ⟨n, rfl⟩ : ∃ n : Nat, k = n := ⟨k.toNat, by omega⟩
     have hn : n < 19 := by omega
     refine ⟨⟨_, _, rfl, h1, h2⟩, ?_⟩
     cases hf : fitB (n : Int) v
     ·simp only [Bool.not_false]
      rw [afE_at h h24 h0 (e := 4) (by unfold afI; rw [ek, ev, if_neg (by omega), hf, if_pos rfl]) (by decide)]
     ·simp only [Bool.not_true, Int.toNat_natCast, hL_get _ hn, hL_len, eq_true (hL_ones _), sk_bl, sk1, ag_bl, boolOf_bl, hL_set, true_and, and_true]
      refine ⟨by omega, ?_⟩
      cases hh : has (n : Int) (l.take x)
      ·simp only
       refine ⟨⟨by omega, by omega⟩, hn, ?_, ⟨h, afN_step h0 ?_⟩, by omega⟩
       ·rw [hT_snoc h ek]
       ·unfold afI
        rw [ek, ev, if_neg (by omega), hf, if_neg (by decide), hh, if_neg (by decide)]
      ·simp only
       rw [afE_at h h24 h0 (e := 1) (by unfold afI; rw [ek, ev, if_neg (by omega), hf, if_neg (by decide), hh, if_pos rfl]) (by decide)]
  ·rename_i h
   have h := of_decide_eq_false h
   obtain rfl : x = l.length := by omega
   unfold afE
   rw [if_neg h24, h0]
set_option maxRecDepth 100000 in
theorem m24 : Meets Try.prog 24 sp24 := by
 refine meets_of_owed (C := c24) ⟨tab_ok, fun f s h => by cases h⟩ (by kernel_rfl) (by kernel_rfl : Try.prog.funcs[24]? = some Try.f24) (by kernel_rfl) (by kernel_rfl) (by kernel_rfl) _ ?_
 rintro _ ⟨l, rfl, hl⟩
 refine ⟨fun _ => rfl, inv24 l, ?_⟩
 show owed c24 (inv24 l) Try.f24 [.slc 2 l] (.st [.st (hL (cH l)), .st (vL (cV l))])
 have hl2 := hl.2
 rw [vc24]
 simp (decide := true) only [eq_self, true_and, and_true, ne_eq, not_false_eq_true]
 refine ⟨?_, ?_⟩
 ·and_intros <;> first | rfl | exact Nat.zero_le _
 intro x hx
 split
 ·rename_i h
  have h : x < l.length := by have := of_decide_eq_true h; omega
  obtain ⟨k, v, e, h1, h2⟩ := el hl h
  have e' : l.getD x default = at_ k v := e
  have ek : kOf (l.getD x default) = k := by rw [e']; rfl
  have ev : vOf (l.getD x default) = v := by rw [e']; rfl
  simp only [Int.toNat_natCast, e, f0_at, f1_at, wS h hl2, eq_true h2, true_and, and_true]
  have hx2 : (x : Int) < l.length := by omega
  have keep : ∀ (hk : ∀ j : Nat, j < 19 → 1 ≤ j → k = j → has j (l.take x) = true), some (Blk.fix (D.st [D.st (hL (cH (l.take x))), D.st (vL (cV (l.take x)))])) = some (Blk.fix (D.st [D.st (hL (cH (l.take (x + 1)))), D.st (vL (cV (l.take (x + 1))))])) :=
   fun hk => by rw [c_keep h (by rw [ek]; exact hk)]
  refine ⟨⟨by omega, hx2⟩, ?_⟩
  split
  ·rename_i h3
   have h3 := of_decide_eq_true h3
   split
   ·rename_i h4
    have h4 := of_decide_eq_true h4
    obtain ⟨n, rfl⟩ : ∃ n : Nat, k = n := ⟨k.toNat, by omega⟩
    have hn : n < 19 := by omega
    simp only [Int.toNat_natCast, hL_get _ hn, vL_get _ hn, hL_len, vL_len, eq_true (hL_ones _), eq_true (vL_ones _), sk_bl, sk_str, sk1, ag_bl, ag_str, boolOf_bl, hL_set, vL_set, true_and, and_true]
    have a1 : (0 : Int) ≤ (n : Int) ∧ (n : Int) < ((19 : Nat) : Int) := by omega
    refine ⟨a1, ?_⟩
    cases hh : cH (l.take x) n
    ·simp only [Bool.not_false]
     refine ⟨a1, hn, ?_⟩
     have := c_snoc h ek (by omega) hh
     rw [ev] at this
     and_intros <;> first | exact a1.1 | exact a1.2 | exact hn | rfl | omega | rw [this]
    ·simp only [Bool.not_true]
     have hb : has (n : Int) (l.take x) = true := by
      unfold cH at hh
      simp only [Bool.and_eq_true, decide_eq_true_iff] at hh
      exact hh.2
     refine ⟨keep fun j _ _ e => by rw [← e]; exact hb, h, by omega⟩
   ·rename_i h4
    have h4 := of_decide_eq_false h4
    refine ⟨keep fun j hj _ e => by omega, h, by omega⟩
  ·rename_i h3
   have h3 := of_decide_eq_false h3
   refine ⟨keep fun j hj _ e => by omega, h, by omega⟩
 ·rename_i h
  have h := of_decide_eq_false h
  obtain rfl : x = l.length := by omega
  rw [List.take_length]
end Go.Proofs.Ytfbaghocbipbiaa
namespace Go.Proofs.Ytfbaghocbipbiaa
open Go Go.Vg
theorem at_eta {x : D} (h : isAt x) : x = at_ (kOf x) (vOf x) := by
 obtain ⟨k, v, rfl, _, _⟩ := h
 rfl
theorem sameB_iff : ∀ {a b : List D}, (∀ x ∈ a, isAt x) → (∀ x ∈ b, isAt x) → (sameB a b = true ↔ a = b)
 | [], [], _, _ => by simp [sameB]
 | [], y :: b, _, _ => by simp [sameB]
 | x :: a, [], _, _ => by simp [sameB]
 | x :: a, y :: b, ha, hb => by
  rw [sameB, Bool.and_eq_true, Bool.and_eq_true, decide_eq_true_iff, decide_eq_true_iff,
   sameB_iff (fun z hz => ha z (List.mem_cons_of_mem _ hz)) (fun z hz => hb z (List.mem_cons_of_mem _ hz)), List.cons.injEq]
  have h1 := at_eta (ha x (List.mem_cons_self ..))
  have h2 := at_eta (hb y (List.mem_cons_self ..))
  constructor
  ·rintro ⟨e1, e2, e3⟩
   exact ⟨by rw [h1, h2, e1, e2], e3⟩
  ·rintro ⟨rfl, e3⟩
   exact ⟨rfl, rfl, e3⟩
theorem at_okL {h : Nat → Bool} {v : Nat → List Int} (hv : ∀ k, k < 19 → okv (v k)) : ∀ x ∈ atL h v, isAt x := by
 intro x hx
 unfold atL atP at hx
 obtain ⟨k, hk, rfl⟩ := List.mem_map.1 hx
 have := List.mem_range.1 (List.mem_filter.1 hk).1
 exact ⟨_, _, rfl, hv k this⟩
theorem at_len (h : Nat → Bool) (v : Nat → List Int) (n : Nat) : (atP h v n).length ≤ n := by
 unfold atP
 rw [List.length_map]
 exact Nat.le_trans (List.length_filter_le _ _) (by rw [List.length_range]; exact Nat.le_refl _)
theorem at_okl {h : Nat → Bool} {v : Nat → List Int} (hv : ∀ k, k < 19 → okv (v k)) : okl (atL h v) :=
 ⟨at_okL hv, by have := at_len h v 19; unfold atL; omega⟩
theorem at_ks (h : Nat → Bool) (v : Nat → List Int) : (atL h v).map kOf = ((List.range 19).filter h).map fun k : Nat => (k : Int) := by
 unfold atL atP
 rw [List.map_map]
 rfl
theorem at_congr {h g : Nat → Bool} {v w : Nat → List Int} (e : ∀ k, k < 19 → h k = g k) (f : ∀ k, k < 19 → h k = true → v k = w k) : atL h v = atL g w := by
 unfold atL atP
 rw [List.filter_congr (q := g) (fun k hk => e k (List.mem_range.1 hk))]
 refine List.map_congr_left fun k hk => ?_
 have h1 := List.mem_range.1 (List.mem_filter.1 hk).1
 have h2 := (List.mem_filter.1 hk).2
 rw [f k h1 (by rw [e k h1]; exact h2)]
theorem at_has {h : Nat → Bool} {v : Nat → List Int} {k : Nat} (hk : k < 19) : has (k : Int) (atL h v) = h k := by
 rw [Bool.eq_iff_iff, has_iff, at_ks, List.mem_map]
 constructor
 ·rintro ⟨n, hn, e⟩
  obtain rfl : n = k := by omega
  exact (List.mem_filter.1 hn).2
 ·intro e
  exact ⟨k, List.mem_filter.2 ⟨List.mem_range.2 hk, e⟩, rfl⟩
theorem nodup_one {l : List D} (h : (l.map kOf).Nodup) {i : Nat} (hi : i < l.length) : has (kOf (l.getD i default)) (l.take i) = false := by
 rw [Bool.eq_false_iff]
 intro hc
 rw [has_iff, List.mem_map] at hc
 obtain ⟨x, hx, e⟩ := hc
 rw [List.mem_take_iff_getElem] at hx
 obtain ⟨j, hj, rfl⟩ := hx
 have hp := List.pairwise_iff_getElem.1 h j i (by rw [List.length_map]; omega) (by rw [List.length_map]; exact hi) (by omega)
 rw [List.getElem_map, List.getElem_map] at hp
 rw [List.getD_eq_getElem?_getD, List.getElem?_eq_getElem hi] at e
 exact hp e
theorem at_nodup (h : Nat → Bool) (v : Nat → List Int) : ((atL h v).map kOf).Nodup := by
 rw [at_ks]
 have : ((List.range 19).filter h).Nodup := List.Nodup.sublist List.filter_sublist List.nodup_range
 refine List.Pairwise.map _ (fun a b hab => ?_) this
 intro e
 exact hab (by omega)
theorem at_get {h : Nat → Bool} {v : Nat → List Int} {i : Nat} (hi : i < (atL h v).length) : ∃ k, k < 19 ∧ h k = true ∧ (atL h v).getD i default = at_ (k : Int) (v k) := by
 have hm : (atL h v).getD i default ∈ atL h v := by
  rw [List.getD_eq_getElem?_getD, List.getElem?_eq_getElem hi]
  exact List.getElem_mem hi
 have hx : (atL h v).getD i default ∈ atP h v 19 := hm
 unfold atP at hx
 obtain ⟨k, hk, e⟩ := List.mem_map.1 hx
 exact ⟨k, List.mem_range.1 (List.mem_filter.1 hk).1, (List.mem_filter.1 hk).2, e.symm⟩
theorem at_fine {h : Nat → Bool} {v : Nat → List Int} (h0 : h 0 = false) (hf : ∀ k, k < 19 → h k = true → fitB (k : Int) (v k) = true) : Fine (atL h v) := by
 refine ⟨fun i hi => ?_, fun i hi => ?_, fun i hi => nodup_one (at_nodup h v) hi, ?_⟩
 ·obtain ⟨k, h1, h2, e⟩ := at_get hi
  rw [e]
  show 1 ≤ (k : Int) ∧ (k : Int) ≤ 18
  have : k ≠ 0 := by rintro rfl; rw [h0] at h2; cases h2
  omega
 ·obtain ⟨k, h1, h2, e⟩ := at_get hi
  rw [e]
  exact hf k h1 h2
 ·have := at_len h v 19
  unfold atL; omega
theorem at_vl {h : Nat → Bool} {v : Nat → List Int} {k : Nat} (hk : k < 19) (hh : h k = true) : vl (k : Int) (atL h v) = v k := by
 have hb : has (k : Int) (atL h v) = true := by rw [at_has hk]; exact hh
 have hf : fi (k : Int) (atL h v) < (atL h v).length := of_decide_eq_true hb
 have h1 := fi_lt hf
 obtain ⟨n, hn, _, e⟩ := at_get hf
 unfold vl
 rw [if_pos hf]
 rw [e] at h1 ⊢
 have h1 : (n : Int) = k := h1
 obtain rfl : n = k := by omega
 rfl
theorem belN_iff {h : Nat → Bool} {c : Int} : ∀ {n : Nat}, belN h c n = true ↔ ∀ k, 1 ≤ k → k ≤ n → h k = belB c k
 | 0 => by
  refine ⟨fun _ k h1 h2 => by omega, fun _ => rfl⟩
 | n + 1 => by
  rw [belN, Bool.and_eq_true, belN_iff, decide_eq_true_iff]
  constructor
  ·rintro ⟨h1, h2⟩ k h3 h4
   by_cases e : k = n + 1
   ·subst e; exact h2
   ·exact h1 k h3 (by omega)
  ·intro h1
   exact ⟨fun k h3 h4 => h1 k h3 (by omega), h1 _ (by omega) (by omega)⟩
theorem c14 {c : Int} (h : 1 ≤ c ∧ c ≤ 4) : c = 1 ∨ c = 2 ∨ c = 3 ∨ c = 4 := by omega
theorem kd_filter {c : Int} (h : 1 ≤ c ∧ c ≤ 4) : kdL c = ((List.range 19).filter (dH c)).map fun k : Nat => (k : Int) := by
 rcases c14 h with rfl | rfl | rfl | rfl <;> decide
theorem kd_none {c : Int} (h : ¬(1 ≤ c ∧ c ≤ 4)) : kdL c = [] := by
 unfold kdL lastK
 rw [if_neg (by omega), if_neg (by omega), if_neg (by omega), if_neg (by omega), if_neg (by omega)]; rfl
theorem kd_mem {c : Int} (h : 1 ≤ c ∧ c ≤ 4) {k : Nat} (hk : k < 19) : (k : Int) ∈ kdL c ↔ dH c k = true := by
 rw [kd_filter h, List.mem_map]
 constructor
 ·rintro ⟨n, hn, e⟩
  obtain rfl : n = k := by omega
  exact (List.mem_filter.1 hn).2
 ·intro e
  exact ⟨k, List.mem_filter.2 ⟨List.mem_range.2 hk, e⟩, rfl⟩
theorem fine_class {l : List D} (h : Fine l) (h1 : has 1 l = true) : 1 ≤ clP l ∧ clP l ≤ 4 := by
 have hf : fi 1 l < l.length := of_decide_eq_true h1
 have hk := fi_lt hf
 have hv := h.fit _ hf
 have e : vl 1 l = vOf (l.getD (fi 1 l) default) := by unfold vl; rw [if_pos hf]
 rw [hk] at hv
 unfold fitB at hv
 rw [if_pos rfl] at hv
 have hv := of_decide_eq_true hv
 unfold clP clV
 rw [e, if_pos hv.1]
 exact hv.2
theorem class_has {l : List D} (h : clP l ≠ 0) : has 1 l = true := by
 cases e : has 1 l
 ·exact absurd (by unfold clP clV; rw [nil1 1 l e]; rfl) h
 ·rfl
theorem szPR {c : Int} (h : 1 ≤ c ∧ c ≤ 4) (n : Nat) : szP c n = szR c n := by
 unfold szP szR
 rcases c14 h with rfl | rfl | rfl | rfl
 ·rfl
 ·rw [if_pos rfl, Bool.eq_iff_iff]
  simp
  omega
 ·rw [if_neg (by decide), if_pos (by decide)]
  simp
 ·rw [if_neg (by decide), if_pos (by decide)]
  simp
theorem cV_eq (l : List D) {k : Nat} (hk : 1 ≤ k) : cV l k = vl k l := by
 unfold cV cH
 rw [decide_eq_true hk, Bool.true_and]
 cases e : has (k : Int) l
 ·rw [nil1 _ _ e]; rfl
 ·rfl
theorem one_isb (l : List D) {k : Nat} (hk : 1 ≤ k) : oneV (cV l) k = isb k l := by
 unfold oneV
 rw [cV_eq l hk, isb_eq]
theorem flg_snd (l : List D) : flgB (cV l) = sndB l := by
 unfold flgB sndB
 rw [one_isb l (k := 10) (by decide), one_isb l (k := 8) (by decide), one_isb l (k := 11) (by decide), one_isb l (k := 9) (by decide), one_isb l (k := 16) (by decide), one_isb l (k := 17) (by decide), one_isb l (k := 13) (by decide), one_isb l (k := 14) (by decide), one_isb l (k := 15) (by decide)]
 show ((!isb 10 l || isb 8 l) && ((!isb 11 l || !isb 9 l) && !((isb 16 l || isb 17 l) && (isb 13 l || (isb 14 l || isb 15 l))))) = _
 cases isb 10 l <;> cases isb 8 l <;> cases isb 11 l <;> cases isb 9 l <;> rfl
def pvB (l : List D) : Bool :=
 decide (afE l = 0) && (decide (l.map kOf = kdL (clP l)) && (decide (l.length ≠ 0) && (szP (clP l) (vl 4 l).length && sndB l)))
theorem cl_cV (l : List D) : clV (cV l 1) = clP l := by
 rw [cV_eq l (Nat.le_refl 1)]; rfl
theorem cV_ok {l : List D} (h : okl l) (k : Nat) : okv (cV l k) := by
 unfold cV
 split
 ·exact vl_ok h _
 ·exact ⟨by decide, fun x hx => by cases hx⟩
theorem eta_map {l : List D} (hl : okl l) (h : Fine l) : l = (l.map kOf).map fun k => at_ k (vl k l) := by
 rw [List.map_map]
 refine List.ext_getElem (by simp) fun i h1 h2 => ?_
 rw [List.getElem_map]
 have e : l[i] = l.getD i default := by rw [List.getD_eq_getElem?_getD, List.getElem?_eq_getElem h1]; rfl
 show l[i] = at_ (kOf l[i]) (vl (kOf l[i]) l)
 rw [e, (fine_vl h h1).1, ← e]
 exact at_eta (hl.1 _ (List.getElem_mem h1))
theorem valid_eq {l : List D} (hl : okl l) : pvB l = valB l := by
 unfold pvB valB
 by_cases h0 : afE l = 0
 ·rw [decide_eq_true h0, Bool.true_and, Bool.true_and]
  have hf := fine_of h0
  unfold objB
  rw [cl_cV, cV_eq l (k := 4) (by decide), flg_snd, Bool.eq_iff_iff]
  simp only [Bool.and_eq_true, decide_eq_true_iff, sameB_iff hl.1 (at_okL fun k _ => cV_ok hl k), belN_iff]
  constructor
  ·rintro ⟨h1, h2, h3, h4⟩
   have hc : 1 ≤ clP l ∧ clP l ≤ 4 := by
    refine Decidable.byContradiction fun hc => h2 ?_
    rw [kd_none hc] at h1
    have := congrArg List.length h1
    rwa [List.length_map] at this
   have hh : ∀ k, k < 19 → cH l k = dH (clP l) k := by
    intro k hk
    rw [Bool.eq_iff_iff, ← kd_mem hc hk, ← h1, ← has_iff]
    unfold cH
    by_cases e : 1 ≤ k
    ·rw [decide_eq_true e, Bool.true_and]
    ·obtain rfl : k = 0 := by omega
     refine ⟨fun h => by simp at h, fun h => ?_⟩
     rw [has_iff, h1, kd_mem hc (k := 0) (by decide)] at h
     cases h
   refine ⟨?_, ?_, ?_, ?_, h4⟩
   ·have e := eta_map hl hf
    rw [h1, kd_filter hc, List.map_map] at e
    refine e.trans ?_
    rw [at_congr hh (w := fun k => vl k l) (fun k _ hh => by unfold cV; rw [if_pos hh])]
    rfl
   ·intro k k1 k2
    rw [hh k (by omega)]
    unfold dH
    rw [decide_eq_true k1, Bool.true_and]
   ·rw [hh 1 (by decide)]
    rcases c14 hc with e | e | e | e <;> rw [e] <;> rfl
   ·rw [← szPR hc]; exact h3
  ·rintro ⟨h1, h2, h3, h4, h5⟩
   have h31 : has 1 l = true := by
    unfold cH at h3
    rw [decide_eq_true (Nat.le_refl 1), Bool.true_and] at h3
    exact h3
   have hc := fine_class hf h31
   have hh : ∀ k, k < 19 → cH l k = dH (clP l) k := by
    intro k hk
    by_cases e : 1 ≤ k
    ·rw [h2 k e (by omega)]
     unfold dH
     rw [decide_eq_true e, Bool.true_and]
    ·obtain rfl : k = 0 := by omega
     rfl
   refine ⟨?_, ?_, ?_, h5⟩
   ·rw [kd_filter hc, ← List.filter_congr (fun k hk => hh k (List.mem_range.1 hk)), ← at_ks (cH l) (cV l), ← h1]
   ·rintro e
    rw [List.eq_nil_of_length_eq_zero e] at h31
    cases h31
   ·rw [szPR hc]; exact h4
 ·rw [decide_eq_false h0, Bool.false_and, Bool.false_and]
end Go.Proofs.Ytfbaghocbipbiaa
namespace Go.Proofs.Ytfbaghocbipbiaa
open Go Go.Vg
def stO (d : D) : List D := match d with | .st l => l | _ => []
def hO (hs : List D) (k : Nat) : Bool := boolOf (hs.getD k default)
def vO (vs : List D) (k : Nat) : List Int := strOf (vs.getD k default)
def cd0 (d : D) : List D := stO (fldOf d 0)
def cd1 (d : D) : List D := stO (fldOf d 1)
def atX (hs vs : List D) : List D := atL (hO hs) (vO vs)
def oneX (vs : List D) (k : Int) : Bool := oneV (vO vs) k.toNat
def clX (vs : List D) : Int := clV (vO vs 1)
def objX (hs vs : List D) : Bool := objB (hO hs) (vO vs)
def uHX (hs gs : List D) : List D := hL (upH (hO hs) (hO gs))
def uVX (gs vs ws : List D) : List D := vL (upV (hO gs) (vO vs) (vO ws))
abbrev cdL (h : Nat → Bool) (v : Nat → List Int) : D := .st [.st (hL h), .st (vL v)]
def okc (v : Nat → List Int) : Prop := ∀ k, k < 19 → okv (v k)
theorem hO_eq (h : Nat → Bool) {k : Nat} (hk : k < 19) : hO (hL h) k = h k := by unfold hO; rw [hL_get h hk]; rfl
theorem vO_eq (v : Nat → List Int) {k : Nat} (hk : k < 19) : vO (vL v) k = v k := by unfold vO; rw [vL_get v hk]; rfl
theorem atX_eq (h : Nat → Bool) (v : Nat → List Int) : atX (hL h) (vL v) = atL h v := at_congr (fun _ hk => hO_eq h hk) (fun _ hk _ => vO_eq v hk)
theorem oneX_eq (v : Nat → List Int) {k : Nat} (hk : k < 19) : oneX (vL v) k = oneV v k := by
 unfold oneX oneV; rw [Int.toNat_natCast, vO_eq v hk]
theorem clX_eq (v : Nat → List Int) : clX (vL v) = clV (v 1) := by unfold clX; rw [vO_eq v (by decide)]
theorem belN_cg {h g : Nat → Bool} {c : Int} (e : ∀ k, k < 19 → h k = g k) : belN h c 18 = belN g c 18 := by
 rw [Bool.eq_iff_iff, belN_iff, belN_iff]
 exact ⟨fun x k h1 h2 => by rw [← e k (by omega)]; exact x k h1 h2, fun x k h1 h2 => by rw [e k (by omega)]; exact x k h1 h2⟩
theorem objX_eq (h : Nat → Bool) (v : Nat → List Int) : objX (hL h) (vL v) = objB h v := by
 unfold objX objB flgB oneV
 rw [belN_cg (fun k hk => hO_eq h hk), hO_eq h (by decide), vO_eq v (k := 1) (by decide), vO_eq v (k := 4) (by decide), vO_eq v (k := 8) (by decide), vO_eq v (k := 9) (by decide), vO_eq v (k := 10) (by decide), vO_eq v (k := 11) (by decide),
  vO_eq v (k := 13) (by decide), vO_eq v (k := 14) (by decide), vO_eq v (k := 15) (by decide), vO_eq v (k := 16) (by decide), vO_eq v (k := 17) (by decide)]
theorem uHX_eq (h g : Nat → Bool) : uHX (hL h) (hL g) = hL (upH h g) := hL_congr fun k hk => by unfold upH; rw [hO_eq h hk, hO_eq g hk]
theorem uVX_eq (g : Nat → Bool) (v w : Nat → List Int) : uVX (hL g) (vL v) (vL w) = vL (upV g v w) := vL_congr fun k hk => by unfold upV; rw [hO_eq g hk, vO_eq v hk, vO_eq w hk]
def sp21 : Go.Vg.Spec := ⟨fun ds => ∃ h v, ds = [cdL h v] ∧ okc v, fun ds => .slc 2 (atX (cd0 (ds.headD default)) (cd1 (ds.headD default))), false, [40]⟩
def sp64 : Go.Vg.Spec := ⟨fun ds => ∃ h v, ∃ k : Int, ds = [cdL h v, i64 k] ∧ (0 ≤ k ∧ k < 19), fun ds => bl (oneX (cd1 (ds.headD default)) (numOf (ds.getD 1 default))), true, [40, 3]⟩
def sp61 : Go.Vg.Spec := ⟨fun ds => ∃ h v, ds = [cdL h v] ∧ okc v, fun ds => i64 (clX (cd1 (ds.headD default))), true, [40]⟩
def sp62 : Go.Vg.Spec := ⟨fun ds => ∃ c : Int, ∃ n : Nat, ds = [i64 c, i64 n], fun ds => bl (szR (numOf (ds.headD default)) (numOf (ds.getD 1 default)).toNat), true, [3, 3]⟩
def sp11 : Go.Vg.Spec := ⟨fun ds => ∃ c k, ds = [i64 c, i64 k], fun ds => bl (belB (numOf (ds.headD default)) (numOf (ds.getD 1 default))), true, [3, 3]⟩
def sp65 : Go.Vg.Spec := ⟨fun ds => ∃ h v, ds = [cdL h v] ∧ okc v, fun ds => bl (objX (cd0 (ds.headD default)) (cd1 (ds.headD default))), true, [40]⟩
def sp20 : Go.Vg.Spec := ⟨fun ds => ∃ a b, ds = [.slc 2 a, .slc 2 b] ∧ okl a ∧ okl b, fun ds => bl (sameB (xsOf (ds.headD default)) (xsOf (ds.getD 1 default))), true, [32, 32]⟩
def sp17 : Go.Vg.Spec := ⟨fun ds => ∃ l, ds = [.slc 2 l] ∧ okl l, fun ds => bl (valB (xsOf (ds.headD default))), true, [32]⟩
def sp36 : Go.Vg.Spec := ⟨fun ds => ∃ h v g w, ds = [cdL h v, cdL g w], fun ds => .st [.st (uHX (cd0 (ds.headD default)) (cd0 (ds.getD 1 default))), .st (uVX (cd0 (ds.getD 1 default)) (cd1 (ds.headD default)) (cd1 (ds.getD 1 default)))], true, [40, 40]⟩
def c21 : Ctx := ⟨tab, fun _ => none, [3], []⟩
def c65 : Ctx := ⟨tab, lkS [(61, sp61), (11, sp11), (62, sp62), (64, sp64)], [], []⟩
def c17 : Ctx := ⟨tab, lkS [(24, sp24), (22, sp22), (21, sp21), (20, sp20), (65, sp65)], [], []⟩
def c36 : Ctx := ⟨tab, fun _ => none, [], [20003003, 20016003, 20017003, 20002002, 20020002, 20022002]⟩
def upHi (h g : Nat → Bool) (i k : Nat) : Bool := if k < i then upH h g k else h k
def upVi (g : Nat → Bool) (v w : Nat → List Int) (i k : Nat) : List Int := if k < i then upV g v w k else v k
def inv21 (h : Nat → Bool) (v : Nat → List Int) : Nat → Option Inv
 | 3 => some ⟨Nat, fun i => [(5, .d (i64 i)), (3, .row 3)], fun i => [(3, .row 83 (.slc 2 (atP h v i)))], fun s => (slotN s 5).toNat, fun _ i => i ≤ 19, fun i => 19 - i⟩
 | _ => none
def inv65 (h : Nat → Bool) (v : Nat → List Int) : Nat → Option Inv
 | 3 => some ⟨Nat, fun i => [(4, .d (i64 (i + 1 : Nat)))], fun _ => [], fun s => (slotN s 4).toNat - 1, fun _ i => i ≤ 18 ∧ belN h (clV (v 1)) i = true, fun i => 18 - i⟩
 | _ => none
def inv20 (a b : List D) : Nat → Option Inv
 | 4 => some ⟨Nat, fun i => [(13, .d (i64 i))], fun _ => [], fun s => (slotN s 13).toNat, fun _ i => i ≤ a.length ∧ sameB (a.drop i) (b.drop i) = sameB a b, fun i => a.length - i⟩
 | _ => none
def inv36 (h : Nat → Bool) (v : Nat → List Int) (g : Nat → Bool) (w : Nat → List Int) : Nat → Option Inv
 | 2 => some ⟨Nat, fun i => [(6, .d (i64 i))], fun i => [(2, .fix (cdL (upHi h g i) (upVi g v w i)))], fun s => (slotN s 6).toNat, fun _ i => i ≤ 19, fun i => 19 - i⟩
 | _ => none
--KEEP Go.Vg.eqB isAt okl fi fx kOf vOf vl has isb hid fitB afI afN afE hL vL cH cV atP atL sameB clV clP belB szR oneV flgB belN objB valB kdP lastK kdL szP sndB msL ouV ouL tkI tkN mkF mkE mkL flg d0V dH upH upV d1H d1V setV d2V mdE mdH mdV okv Go.Vg.ones okc atX oneX clX objX uHX uVX upHi upVi
set_option maxRecDepth 100000 in
theorem vc21  (h : Nat → Bool) (v : Nat → List Int) (F : D)  :
    (owed c21 (inv21 h v) Try.f21 [cdL h v] F) = (
 (True ∧ false = false) ∧
 True ∧
 (2 : Nat) ≠ (0 : Nat) ∧
 True ∧
 (((AV.d (D.val (Value.int IntKind.i64 (0 : Int))) = AV.d (D.val (Value.int IntKind.i64 (↑(Int.toNat (0 : Int)) : Int))) ∧ sm (AV.row (3 : Nat)) ∧ True) ∧ (sm (some (Blk.fix (D.st [D.st (hL h), D.st (vL v)]))) ∧ some (Blk.row (83 : TypeId) (D.slc (2 : Nat) [])) = some (Blk.row (83 : TypeId) (D.slc (2 : Nat) (atP h v (Int.toNat (0 : Int))))) ∧ True) ∧ true = true) ∧
 Int.toNat (0 : Int) ≤ (19 : Nat)) ∧
 ∀ (x : Nat),
 x ≤ (19 : Nat) →
 true = true ∧
 True ∧
 match decide ((↑x : Int) < (19 : Int)) with
 | true =>
  True ∧
  True ∧
  True ∧
  (sm (sk (tg c21.tab (40 : Nat)).zero) ∧ (0 : Nat) < (2 : Nat)) ∧
  ((0 : Int) ≤ (↑x : Int) ∧ (↑x : Int) < (↑(19 : Nat) : Int) ∧ (hL h).length = (19 : Nat) ∧ ones (hL h) ∧ (1 : Nat) = (1 : Nat)) ∧
  (((1 : Nat) ≠ (0 : Nat) ∧ (sk ((hL h).getD (↑x : Int).toNat (D.val (Value.bool false)))).size = (1 : Nat) ∧ ((hL h).getD (↑x : Int).toNat (D.val (Value.bool false))).isAgg = false) ∧ D.val (Value.bool (boolOf ((hL h).getD (↑x : Int).toNat (D.val (Value.bool false))))) = (hL h).getD (↑x : Int).toNat (D.val (Value.bool false))) ∧
  match boolOf ((hL h).getD (↑x : Int).toNat (D.val (Value.bool false))) with
  | true =>
   True ∧
   True ∧
   True ∧
   (sm (sk (tg c21.tab (40 : Nat)).zero) ∧ (1 : Nat) < (2 : Nat)) ∧
   ((0 : Int) ≤ (↑x : Int) ∧ (↑x : Int) < (↑(19 : Nat) : Int) ∧ (vL v).length = (19 : Nat) ∧ ones (vL v) ∧ (1 : Nat) = (1 : Nat)) ∧
   (((1 : Nat) ≠ (0 : Nat) ∧ (sk ((vL v).getD (↑x : Int).toNat (D.val (Value.bool false)))).size = (1 : Nat) ∧ ((vL v).getD (↑x : Int).toNat (D.val (Value.bool false))).isAgg = false) ∧ D.str (strOf ((vL v).getD (↑x : Int).toNat (D.val (Value.bool false)))) = (vL v).getD (↑x : Int).toNat (D.val (Value.bool false))) ∧
   True ∧
   (false = false ∧ ((0 : Nat) < (2 : Nat) ∧ Sk.one = Sk.one) ∧ false = false ∧ ((1 : Nat) < (2 : Nat) ∧ sm (sk (D.ints IntKind.u8 []))) ∧ True) ∧
   ((1 : Nat) ≤ (4096 : Nat) ∧ (2 : Nat) ≤ (256 : Nat) ∧ (2 : Nat) ≠ (0 : Nat)) ∧
   ((83 : TypeId) = (83 : TypeId) ∧
   (32 : Nat) = (32 : Nat) ∧
   true = true ∧
   (atP h v x ++ [D.st [D.val (Value.int IntKind.i64 (↑x : Int)), D.ints IntKind.u8 (strOf ((vL v).getD (↑x : Int).toNat (D.val (Value.bool false))))]]).length ≤ (140737488355328 : Nat) ∧
   (atP h v x ++ [D.st [D.val (Value.int IntKind.i64 (↑x : Int)), D.ints IntKind.u8 (strOf ((vL v).getD (↑x : Int).toNat (D.val (Value.bool false))))]]).length * (32 : Nat) ≤ (140737488355328 : Nat) ∧ (2 : Nat) ≠ (0 : Nat) ∧ (2 : Nat) = (2 : Nat)) ∧
   True ∧
   True ∧
   True ∧
   ((AV.d (D.val (Value.int IntKind.i64 (IntKind.i64.wrap ((↑x : Int) + (1 : Int))))) = AV.d (D.val (Value.int IntKind.i64 (↑(IntKind.i64.wrap ((↑x : Int) + (1 : Int))).toNat : Int))) ∧ sm (AV.row (3 : Nat)) ∧ True) ∧
   (sm (some (Blk.fix (D.st [D.st (hL h), D.st (vL v)]))) ∧
   some (Blk.row (83 : TypeId) (D.slc (2 : Nat) (atP h v x ++ [D.st [D.val (Value.int IntKind.i64 (↑x : Int)), D.ints IntKind.u8 (strOf ((vL v).getD (↑x : Int).toNat (D.val (Value.bool false))))]]))) = some (Blk.row (83 : TypeId) (D.slc (2 : Nat) (atP h v (IntKind.i64.wrap ((↑x : Int) + (1 : Int))).toNat))) ∧ True) ∧
   true = true) ∧
   (IntKind.i64.wrap ((↑x : Int) + (1 : Int))).toNat ≤ (19 : Nat) ∧ (19 : Nat) - (IntKind.i64.wrap ((↑x : Int) + (1 : Int))).toNat < (19 : Nat) - x
  | false =>
   True ∧
   True ∧
   ((AV.d (D.val (Value.int IntKind.i64 (IntKind.i64.wrap ((↑x : Int) + (1 : Int))))) = AV.d (D.val (Value.int IntKind.i64 (↑(IntKind.i64.wrap ((↑x : Int) + (1 : Int))).toNat : Int))) ∧ sm (AV.row (3 : Nat)) ∧ True) ∧
   (sm (some (Blk.fix (D.st [D.st (hL h), D.st (vL v)]))) ∧ some (Blk.row (83 : TypeId) (D.slc (2 : Nat) (atP h v x))) = some (Blk.row (83 : TypeId) (D.slc (2 : Nat) (atP h v (IntKind.i64.wrap ((↑x : Int) + (1 : Int))).toNat))) ∧ True) ∧ true = true) ∧
   (IntKind.i64.wrap ((↑x : Int) + (1 : Int))).toNat ≤ (19 : Nat) ∧ (19 : Nat) - (IntKind.i64.wrap ((↑x : Int) + (1 : Int))).toNat < (19 : Nat) - x
 | false => True ∧ True ∧ (false = false ∧ True) ∧ D.slc (2 : Nat) (atP h v x) = F) := by kernel_rfl
set_option maxRecDepth 100000 in
theorem vc64  (h : Nat → Bool) (v : Nat → List Int) (k : Int) (F : D)  :
    (owed c0 (fun _ => none) Try.f64 [cdL h v, i64 k] F) = (
 (True ∧ false = false) ∧
 True ∧
 True ∧
 (sm (sk (tg c0.tab (40 : Nat)).zero) ∧ (1 : Nat) < (2 : Nat)) ∧
 ((0 : Int) ≤ k ∧ k < (↑(19 : Nat) : Int) ∧ (vL v).length = (19 : Nat) ∧ ones (vL v) ∧ (1 : Nat) = (1 : Nat)) ∧
 (((1 : Nat) ≠ (0 : Nat) ∧ (sk ((vL v).getD k.toNat (D.val (Value.bool false)))).size = (1 : Nat) ∧ ((vL v).getD k.toNat (D.val (Value.bool false))).isAgg = false) ∧ D.str (strOf ((vL v).getD k.toNat (D.val (Value.bool false)))) = (vL v).getD k.toNat (D.val (Value.bool false))) ∧
 True ∧ True ∧ (false = false ∧ True) ∧ D.val (Value.bool (eqB (strOf ((vL v).getD k.toNat (D.val (Value.bool false)))) (ints { data := { toList := [(1 : UInt8)] } }))) = F) := by kernel_rfl
set_option maxRecDepth 100000 in
theorem vc61  (h : Nat → Bool) (v : Nat → List Int) (F : D)  :
    (owed c0 (fun _ => none) Try.f61 [cdL h v] F) = (
 (True ∧ false = false) ∧
 True ∧
 (sm (sk (tg c0.tab (40 : Nat)).zero) ∧ (1 : Nat) < (2 : Nat)) ∧
 ((0 : Int) ≤ (1 : Int) ∧ (1 : Int) < (↑(19 : Nat) : Int) ∧ (vL v).length = (19 : Nat) ∧ ones (vL v) ∧ (1 : Nat) = (1 : Nat)) ∧
 (((1 : Nat) ≠ (0 : Nat) ∧ (1 : Nat) = (1 : Nat) ∧ false = false) ∧ D.str (v (1 : Nat)) = (vL v).getD (1 : Nat) (D.val (Value.bool false))) ∧
 True ∧
 True ∧
 match (↑(v (1 : Nat)).length : Int) != (1 : Int) with
 | true => True ∧ (false = false ∧ True) ∧ D.val (Value.int IntKind.i64 (0 : Int)) = F
 | false =>
  (sm (sk (tg c0.tab (40 : Nat)).zero) ∧ (1 : Nat) < (2 : Nat)) ∧
  ((0 : Int) ≤ (1 : Int) ∧ (1 : Int) < (↑(19 : Nat) : Int) ∧ (vL v).length = (19 : Nat) ∧ ones (vL v) ∧ (1 : Nat) = (1 : Nat)) ∧
  (((1 : Nat) ≠ (0 : Nat) ∧ (1 : Nat) = (1 : Nat) ∧ false = false) ∧ D.str (v (1 : Nat)) = (vL v).getD (1 : Nat) (D.val (Value.bool false))) ∧ ((0 : Int) ≤ (0 : Int) ∧ (0 : Int) < (↑(v (1 : Nat)).length : Int)) ∧ True ∧ True ∧ (false = false ∧ True) ∧ D.val (Value.int IntKind.i64 (IntKind.i64.wrap ((v (1 : Nat)).getD (0 : Nat) (0 : Int)))) = F) := by kernel_rfl
set_option maxRecDepth 100000 in
theorem vc62  (c : Int) (n : Nat) (F : D)  :
    (owed c0 (fun _ => none) Try.f62 [i64 c, i64 n] F) = (
 True ∧
 True ∧
 True ∧
 True ∧
 match c == (1 : Int) with
 | true => True ∧ True ∧ True ∧ True ∧ (false = false ∧ True) ∧ D.val (Value.bool true) = F
 | false =>
  True ∧
  True ∧
  True ∧
  True ∧
  match (↑n : Int) == (32 : Int) with
  | true => True ∧ True ∧ (false = false ∧ True) ∧ D.val (Value.bool true) = F
  | false =>
   True ∧
   True ∧
   True ∧
   match c == (2 : Int) with
   | true =>
    True ∧
    True ∧
    True ∧
    match (↑n : Int) == (16 : Int) with
    | true => True ∧ True ∧ True ∧ True ∧ (false = false ∧ True) ∧ D.val (Value.bool true) = F
    | false => True ∧ True ∧ True ∧ True ∧ True ∧ True ∧ (false = false ∧ True) ∧ D.val (Value.bool ((↑n : Int) == (24 : Int))) = F
   | false => True ∧ True ∧ True ∧ (false = false ∧ True) ∧ D.val (Value.bool false) = F) := by kernel_rfl
set_option maxRecDepth 100000 in
theorem vc11  (c k : Int) (F : D)  :
    (owed c0 (fun _ => none) Try.f11 [i64 c, i64 k] F) = (
 True ∧
 True ∧
 True ∧
 True ∧
 match c == (1 : Int) with
 | true =>
  True ∧
  True ∧
  True ∧
  match decide (k ≥ (1 : Int)) with
  | true => True ∧ True ∧ True ∧ True ∧ (false = false ∧ True) ∧ D.val (Value.bool (decide (k ≤ (7 : Int)))) = F
  | false => True ∧ True ∧ (false = false ∧ True) ∧ D.val (Value.bool false) = F
 | false =>
  True ∧
  True ∧
  match c == (2 : Int) with
  | true =>
   True ∧
   True ∧
   True ∧
   match decide (k ≥ (1 : Int)) with
   | true => True ∧ True ∧ True ∧ True ∧ (false = false ∧ True) ∧ D.val (Value.bool (decide (k ≤ (17 : Int)))) = F
   | false => True ∧ True ∧ (false = false ∧ True) ∧ D.val (Value.bool false) = F
  | false =>
   True ∧
   True ∧
   match c == (3 : Int) with
   | true =>
    True ∧
    True ∧
    True ∧
    match decide (k ≥ (1 : Int)) with
    | true =>
     True ∧
     True ∧
     True ∧
     True ∧
     match decide (k ≤ (7 : Int)) with
     | true => True ∧ True ∧ (false = false ∧ True) ∧ D.val (Value.bool true) = F
     | false => True ∧ True ∧ True ∧ True ∧ (false = false ∧ True) ∧ D.val (Value.bool (k == (14 : Int))) = F
    | false => True ∧ True ∧ True ∧ True ∧ True ∧ True ∧ (false = false ∧ True) ∧ D.val (Value.bool (k == (14 : Int))) = F
   | false =>
    True ∧
    True ∧
    match c == (4 : Int) with
    | true =>
     True ∧
     True ∧
     True ∧
     match decide (k ≥ (1 : Int)) with
     | true =>
      True ∧
      True ∧
      True ∧
      True ∧
      match decide (k ≤ (13 : Int)) with
      | true => True ∧ True ∧ (false = false ∧ True) ∧ D.val (Value.bool true) = F
      | false => True ∧ True ∧ True ∧ True ∧ (false = false ∧ True) ∧ D.val (Value.bool (k == (18 : Int))) = F
     | false => True ∧ True ∧ True ∧ True ∧ True ∧ True ∧ (false = false ∧ True) ∧ D.val (Value.bool (k == (18 : Int))) = F
    | false => True ∧ (false = false ∧ True) ∧ D.val (Value.bool false) = F) := by kernel_rfl
set_option maxRecDepth 100000 in
theorem vc65  (h : Nat → Bool) (v : Nat → List Int) (F : D)  :
    (owed c65 (inv65 h v) Try.f65 [cdL h v] F) = (
 (True ∧ false = false) ∧
 True ∧
 ((38 : Nat) ≠ (0 : Nat) ∧ (38 : Nat) = (38 : Nat) ∧ true = true) ∧
 (∃ (h_1 : Nat → Bool), ∃ (v_1 : Nat → List Int), [D.st [D.st (hL h), D.st (vL v)]] = [D.st [D.st (hL h_1), D.st (vL v_1)]] ∧ okc v_1) ∧
 True ∧
 True ∧
 (((AV.d (D.val (Value.int IntKind.i64 (1 : Int))) = AV.d (D.val (Value.int IntKind.i64 (↑(1 : Nat) : Int))) ∧ True) ∧ (sm (some (Blk.fix (D.st [D.st (hL h), D.st (vL v)]))) ∧ True) ∧ true = true) ∧ (1 : Nat) - (1 : Nat) ≤ (18 : Nat) ∧ belN h (clV (v (1 : Nat))) ((1 : Nat) - (1 : Nat)) = true) ∧
 ∀ (x : Nat),
 x ≤ (18 : Nat) ∧ belN h (clV (v (1 : Nat))) x = true →
 true = true ∧
 True ∧
 True ∧
 match decide ((↑(x + (1 : Nat)) : Int) ≤ (18 : Int)) with
 | true =>
  True ∧
  (sm (sk (tg c65.tab (40 : Nat)).zero) ∧ (0 : Nat) < (2 : Nat)) ∧
  ((0 : Int) ≤ (↑(x + (1 : Nat)) : Int) ∧ (↑(x + (1 : Nat)) : Int) < (↑(19 : Nat) : Int) ∧ (hL h).length = (19 : Nat) ∧ ones (hL h) ∧ (1 : Nat) = (1 : Nat)) ∧
  (((1 : Nat) ≠ (0 : Nat) ∧ (sk ((hL h).getD (↑(x + (1 : Nat)) : Int).toNat (D.val (Value.bool false)))).size = (1 : Nat) ∧ ((hL h).getD (↑(x + (1 : Nat)) : Int).toNat (D.val (Value.bool false))).isAgg = false) ∧
  D.val (Value.bool (boolOf ((hL h).getD (↑(x + (1 : Nat)) : Int).toNat (D.val (Value.bool false))))) = (hL h).getD (↑(x + (1 : Nat)) : Int).toNat (D.val (Value.bool false))) ∧
  True ∧
  True ∧
  (∃ (c : Int), ∃ (k : Int), [D.val (Value.int IntKind.i64 (clX (vL v))), D.val (Value.int IntKind.i64 (↑(x + (1 : Nat)) : Int))] = [D.val (Value.int IntKind.i64 c), D.val (Value.int IntKind.i64 k)]) ∧
  True ∧
  match !boolOf ((hL h).getD (↑(x + (1 : Nat)) : Int).toNat (D.val (Value.bool false))) == belB (clX (vL v)) (↑(x + (1 : Nat)) : Int) with
  | true => True ∧ (false = false ∧ True) ∧ D.val (Value.bool false) = F
  | false =>
   True ∧
   True ∧
   True ∧
   ((AV.d (D.val (Value.int IntKind.i64 (IntKind.i64.wrap ((↑(x + (1 : Nat)) : Int) + (1 : Int))))) = AV.d (D.val (Value.int IntKind.i64 (↑((IntKind.i64.wrap ((↑(x + (1 : Nat)) : Int) + (1 : Int))).toNat - (1 : Nat) + (1 : Nat)) : Int))) ∧ True) ∧ (sm (some (Blk.fix (D.st [D.st (hL h), D.st (vL v)]))) ∧ True) ∧ true = true) ∧
   ((IntKind.i64.wrap ((↑(x + (1 : Nat)) : Int) + (1 : Int))).toNat - (1 : Nat) ≤ (18 : Nat) ∧ belN h (clV (v (1 : Nat))) ((IntKind.i64.wrap ((↑(x + (1 : Nat)) : Int) + (1 : Int))).toNat - (1 : Nat)) = true) ∧ (18 : Nat) - ((IntKind.i64.wrap ((↑(x + (1 : Nat)) : Int) + (1 : Int))).toNat - (1 : Nat)) < (18 : Nat) - x
 | false =>
  (sm (sk (tg c65.tab (40 : Nat)).zero) ∧ (0 : Nat) < (2 : Nat)) ∧
  ((0 : Int) ≤ (1 : Int) ∧ (1 : Int) < (↑(19 : Nat) : Int) ∧ (hL h).length = (19 : Nat) ∧ ones (hL h) ∧ (1 : Nat) = (1 : Nat)) ∧
  (((1 : Nat) ≠ (0 : Nat) ∧ (1 : Nat) = (1 : Nat) ∧ false = false) ∧ D.val (Value.bool (h (1 : Nat))) = (hL h).getD (1 : Nat) (D.val (Value.bool false))) ∧
  True ∧
  True ∧
  match !h (1 : Nat) with
  | true => True ∧ True ∧ (false = false ∧ True) ∧ D.val (Value.bool false) = F
  | false =>
   True ∧
   (sm (sk (tg c65.tab (40 : Nat)).zero) ∧ (1 : Nat) < (2 : Nat)) ∧
   ((0 : Int) ≤ (4 : Int) ∧ (4 : Int) < (↑(19 : Nat) : Int) ∧ (vL v).length = (19 : Nat) ∧ ones (vL v) ∧ (1 : Nat) = (1 : Nat)) ∧
   (((1 : Nat) ≠ (0 : Nat) ∧ (1 : Nat) = (1 : Nat) ∧ false = false) ∧ D.str (v (4 : Nat)) = (vL v).getD (4 : Nat) (D.val (Value.bool false))) ∧
   True ∧
   (∃ (c : Int), ∃ (n : Nat), [D.val (Value.int IntKind.i64 (clX (vL v))), D.val (Value.int IntKind.i64 (↑(v (4 : Nat)).length : Int))] = [D.val (Value.int IntKind.i64 c), D.val (Value.int IntKind.i64 (↑n : Int))]) ∧
   True ∧
   True ∧
   match !szR (clX (vL v)) (↑(v (4 : Nat)).length : Int).toNat with
   | true => True ∧ (false = false ∧ True) ∧ D.val (Value.bool false) = F
   | false =>
    ((38 : Nat) ≠ (0 : Nat) ∧ (38 : Nat) = (38 : Nat) ∧ true = true) ∧
    (∃ (h_1 : Nat → Bool), ∃ (v_1 : Nat → List Int), ∃ (k : Int), [D.st [D.st (hL h), D.st (vL v)], D.val (Value.int IntKind.i64 (16 : Int))] = [D.st [D.st (hL h_1), D.st (vL v_1)], D.val (Value.int IntKind.i64 k)] ∧ (0 : Int) ≤ k ∧ k < (19 : Int)) ∧
    True ∧
    match oneX (vL v) (16 : Int) with
    | true =>
     True ∧
     True ∧
     ((38 : Nat) ≠ (0 : Nat) ∧ (38 : Nat) = (38 : Nat) ∧ true = true) ∧
     (∃ (h_1 : Nat → Bool), ∃ (v_1 : Nat → List Int), ∃ (k : Int), [D.st [D.st (hL h), D.st (vL v)], D.val (Value.int IntKind.i64 (13 : Int))] = [D.st [D.st (hL h_1), D.st (vL v_1)], D.val (Value.int IntKind.i64 k)] ∧ (0 : Int) ≤ k ∧ k < (19 : Int)) ∧
     True ∧
     match oneX (vL v) (13 : Int) with
     | true =>
      True ∧
      True ∧
      True ∧
      True ∧
      ((38 : Nat) ≠ (0 : Nat) ∧ (38 : Nat) = (38 : Nat) ∧ true = true) ∧
      (∃ (h_1 : Nat → Bool), ∃ (v_1 : Nat → List Int), ∃ (k : Int), [D.st [D.st (hL h), D.st (vL v)], D.val (Value.int IntKind.i64 (10 : Int))] = [D.st [D.st (hL h_1), D.st (vL v_1)], D.val (Value.int IntKind.i64 k)] ∧ (0 : Int) ≤ k ∧ k < (19 : Int)) ∧
      True ∧
      True ∧
      match !oneX (vL v) (10 : Int) with
      | true =>
       True ∧
       True ∧
       ((38 : Nat) ≠ (0 : Nat) ∧ (38 : Nat) = (38 : Nat) ∧ true = true) ∧
       (∃ (h_1 : Nat → Bool), ∃ (v_1 : Nat → List Int), ∃ (k : Int), [D.st [D.st (hL h), D.st (vL v)], D.val (Value.int IntKind.i64 (11 : Int))] = [D.st [D.st (hL h_1), D.st (vL v_1)], D.val (Value.int IntKind.i64 k)] ∧ (0 : Int) ≤ k ∧ k < (19 : Int)) ∧
       True ∧
       True ∧
       match !oneX (vL v) (11 : Int) with
       | true => True ∧ True ∧ True ∧ True ∧ True ∧ True ∧ True ∧ True ∧ True ∧ True ∧ (false = false ∧ True) ∧ D.val (Value.bool false) = F
       | false =>
        ((38 : Nat) ≠ (0 : Nat) ∧ (38 : Nat) = (38 : Nat) ∧ true = true) ∧
        (∃ (h_1 : Nat → Bool), ∃ (v_1 : Nat → List Int), ∃ (k : Int), [D.st [D.st (hL h), D.st (vL v)], D.val (Value.int IntKind.i64 (9 : Int))] = [D.st [D.st (hL h_1), D.st (vL v_1)], D.val (Value.int IntKind.i64 k)] ∧ (0 : Int) ≤ k ∧ k < (19 : Int)) ∧
        True ∧
        True ∧
        True ∧
        True ∧
        match !oneX (vL v) (9 : Int) with
        | true => True ∧ True ∧ True ∧ True ∧ True ∧ True ∧ True ∧ (false = false ∧ True) ∧ D.val (Value.bool false) = F
        | false => True ∧ True ∧ (false = false ∧ True) ∧ D.val (Value.bool false) = F
      | false =>
       ((38 : Nat) ≠ (0 : Nat) ∧ (38 : Nat) = (38 : Nat) ∧ true = true) ∧
       (∃ (h_1 : Nat → Bool), ∃ (v_1 : Nat → List Int), ∃ (k : Int), [D.st [D.st (hL h), D.st (vL v)], D.val (Value.int IntKind.i64 (8 : Int))] = [D.st [D.st (hL h_1), D.st (vL v_1)], D.val (Value.int IntKind.i64 k)] ∧ (0 : Int) ≤ k ∧ k < (19 : Int)) ∧
       True ∧
       True ∧
       match oneX (vL v) (8 : Int) with
       | true =>
        ((38 : Nat) ≠ (0 : Nat) ∧ (38 : Nat) = (38 : Nat) ∧ true = true) ∧
        (∃ (h_1 : Nat → Bool), ∃ (v_1 : Nat → List Int), ∃ (k : Int), [D.st [D.st (hL h), D.st (vL v)], D.val (Value.int IntKind.i64 (11 : Int))] = [D.st [D.st (hL h_1), D.st (vL v_1)], D.val (Value.int IntKind.i64 k)] ∧ (0 : Int) ≤ k ∧ k < (19 : Int)) ∧
        True ∧
        True ∧
        match !oneX (vL v) (11 : Int) with
        | true => True ∧ True ∧ True ∧ True ∧ True ∧ True ∧ True ∧ True ∧ True ∧ True ∧ (false = false ∧ True) ∧ D.val (Value.bool false) = F
        | false =>
         ((38 : Nat) ≠ (0 : Nat) ∧ (38 : Nat) = (38 : Nat) ∧ true = true) ∧
         (∃ (h_1 : Nat → Bool), ∃ (v_1 : Nat → List Int), ∃ (k : Int), [D.st [D.st (hL h), D.st (vL v)], D.val (Value.int IntKind.i64 (9 : Int))] = [D.st [D.st (hL h_1), D.st (vL v_1)], D.val (Value.int IntKind.i64 k)] ∧ (0 : Int) ≤ k ∧ k < (19 : Int)) ∧
         True ∧
         True ∧
         True ∧
         True ∧
         match !oneX (vL v) (9 : Int) with
         | true => True ∧ True ∧ True ∧ True ∧ True ∧ True ∧ True ∧ (false = false ∧ True) ∧ D.val (Value.bool false) = F
         | false => True ∧ True ∧ (false = false ∧ True) ∧ D.val (Value.bool false) = F
       | false => True ∧ True ∧ True ∧ True ∧ (false = false ∧ True) ∧ D.val (Value.bool false) = F
     | false =>
      ((38 : Nat) ≠ (0 : Nat) ∧ (38 : Nat) = (38 : Nat) ∧ true = true) ∧
      (∃ (h_1 : Nat → Bool), ∃ (v_1 : Nat → List Int), ∃ (k : Int), [D.st [D.st (hL h), D.st (vL v)], D.val (Value.int IntKind.i64 (14 : Int))] = [D.st [D.st (hL h_1), D.st (vL v_1)], D.val (Value.int IntKind.i64 k)] ∧ (0 : Int) ≤ k ∧ k < (19 : Int)) ∧
      True ∧
      True ∧
      match oneX (vL v) (14 : Int) with
      | true =>
       True ∧
       True ∧
       ((38 : Nat) ≠ (0 : Nat) ∧ (38 : Nat) = (38 : Nat) ∧ true = true) ∧
       (∃ (h_1 : Nat → Bool), ∃ (v_1 : Nat → List Int), ∃ (k : Int), [D.st [D.st (hL h), D.st (vL v)], D.val (Value.int IntKind.i64 (10 : Int))] = [D.st [D.st (hL h_1), D.st (vL v_1)], D.val (Value.int IntKind.i64 k)] ∧ (0 : Int) ≤ k ∧ k < (19 : Int)) ∧
       True ∧
       True ∧
       match !oneX (vL v) (10 : Int) with
       | true =>
        True ∧
        True ∧
        ((38 : Nat) ≠ (0 : Nat) ∧ (38 : Nat) = (38 : Nat) ∧ true = true) ∧
        (∃ (h_1 : Nat → Bool), ∃ (v_1 : Nat → List Int), ∃ (k : Int), [D.st [D.st (hL h), D.st (vL v)], D.val (Value.int IntKind.i64 (11 : Int))] = [D.st [D.st (hL h_1), D.st (vL v_1)], D.val (Value.int IntKind.i64 k)] ∧ (0 : Int) ≤ k ∧ k < (19 : Int)) ∧
        True ∧
        True ∧
        match !oneX (vL v) (11 : Int) with
        | true => True ∧ True ∧ True ∧ True ∧ True ∧ True ∧ True ∧ True ∧ True ∧ True ∧ (false = false ∧ True) ∧ D.val (Value.bool false) = F
        | false =>
         ((38 : Nat) ≠ (0 : Nat) ∧ (38 : Nat) = (38 : Nat) ∧ true = true) ∧
         (∃ (h_1 : Nat → Bool), ∃ (v_1 : Nat → List Int), ∃ (k : Int), [D.st [D.st (hL h), D.st (vL v)], D.val (Value.int IntKind.i64 (9 : Int))] = [D.st [D.st (hL h_1), D.st (vL v_1)], D.val (Value.int IntKind.i64 k)] ∧ (0 : Int) ≤ k ∧ k < (19 : Int)) ∧
         True ∧
         True ∧
         True ∧
         True ∧
         match !oneX (vL v) (9 : Int) with
         | true => True ∧ True ∧ True ∧ True ∧ True ∧ True ∧ True ∧ (false = false ∧ True) ∧ D.val (Value.bool false) = F
         | false => True ∧ True ∧ (false = false ∧ True) ∧ D.val (Value.bool false) = F
       | false =>
        ((38 : Nat) ≠ (0 : Nat) ∧ (38 : Nat) = (38 : Nat) ∧ true = true) ∧
        (∃ (h_1 : Nat → Bool), ∃ (v_1 : Nat → List Int), ∃ (k : Int), [D.st [D.st (hL h), D.st (vL v)], D.val (Value.int IntKind.i64 (8 : Int))] = [D.st [D.st (hL h_1), D.st (vL v_1)], D.val (Value.int IntKind.i64 k)] ∧ (0 : Int) ≤ k ∧ k < (19 : Int)) ∧
        True ∧
        True ∧
        match oneX (vL v) (8 : Int) with
        | true =>
         ((38 : Nat) ≠ (0 : Nat) ∧ (38 : Nat) = (38 : Nat) ∧ true = true) ∧
         (∃ (h_1 : Nat → Bool), ∃ (v_1 : Nat → List Int), ∃ (k : Int), [D.st [D.st (hL h), D.st (vL v)], D.val (Value.int IntKind.i64 (11 : Int))] = [D.st [D.st (hL h_1), D.st (vL v_1)], D.val (Value.int IntKind.i64 k)] ∧ (0 : Int) ≤ k ∧ k < (19 : Int)) ∧
         True ∧
         True ∧
         match !oneX (vL v) (11 : Int) with
         | true => True ∧ True ∧ True ∧ True ∧ True ∧ True ∧ True ∧ True ∧ True ∧ True ∧ (false = false ∧ True) ∧ D.val (Value.bool false) = F
         | false =>
          ((38 : Nat) ≠ (0 : Nat) ∧ (38 : Nat) = (38 : Nat) ∧ true = true) ∧
          (∃ (h_1 : Nat → Bool), ∃ (v_1 : Nat → List Int), ∃ (k : Int), [D.st [D.st (hL h), D.st (vL v)], D.val (Value.int IntKind.i64 (9 : Int))] = [D.st [D.st (hL h_1), D.st (vL v_1)], D.val (Value.int IntKind.i64 k)] ∧ (0 : Int) ≤ k ∧ k < (19 : Int)) ∧
          True ∧
          True ∧
          True ∧
          True ∧
          match !oneX (vL v) (9 : Int) with
          | true => True ∧ True ∧ True ∧ True ∧ True ∧ True ∧ True ∧ (false = false ∧ True) ∧ D.val (Value.bool false) = F
          | false => True ∧ True ∧ (false = false ∧ True) ∧ D.val (Value.bool false) = F
        | false => True ∧ True ∧ True ∧ True ∧ (false = false ∧ True) ∧ D.val (Value.bool false) = F
      | false =>
       ((38 : Nat) ≠ (0 : Nat) ∧ (38 : Nat) = (38 : Nat) ∧ true = true) ∧
       (∃ (h_1 : Nat → Bool), ∃ (v_1 : Nat → List Int), ∃ (k : Int), [D.st [D.st (hL h), D.st (vL v)], D.val (Value.int IntKind.i64 (15 : Int))] = [D.st [D.st (hL h_1), D.st (vL v_1)], D.val (Value.int IntKind.i64 k)] ∧ (0 : Int) ≤ k ∧ k < (19 : Int)) ∧
       True ∧
       True ∧
       ((38 : Nat) ≠ (0 : Nat) ∧ (38 : Nat) = (38 : Nat) ∧ true = true) ∧
       (∃ (h_1 : Nat → Bool), ∃ (v_1 : Nat → List Int), ∃ (k : Int), [D.st [D.st (hL h), D.st (vL v)], D.val (Value.int IntKind.i64 (10 : Int))] = [D.st [D.st (hL h_1), D.st (vL v_1)], D.val (Value.int IntKind.i64 k)] ∧ (0 : Int) ≤ k ∧ k < (19 : Int)) ∧
       True ∧
       True ∧
       match !oneX (vL v) (10 : Int) with
       | true =>
        True ∧
        True ∧
        ((38 : Nat) ≠ (0 : Nat) ∧ (38 : Nat) = (38 : Nat) ∧ true = true) ∧
        (∃ (h_1 : Nat → Bool), ∃ (v_1 : Nat → List Int), ∃ (k : Int), [D.st [D.st (hL h), D.st (vL v)], D.val (Value.int IntKind.i64 (11 : Int))] = [D.st [D.st (hL h_1), D.st (vL v_1)], D.val (Value.int IntKind.i64 k)] ∧ (0 : Int) ≤ k ∧ k < (19 : Int)) ∧
        True ∧
        True ∧
        match !oneX (vL v) (11 : Int) with
        | true => True ∧ True ∧ True ∧ True ∧ True ∧ True ∧ True ∧ True ∧ True ∧ True ∧ (false = false ∧ True) ∧ D.val (Value.bool !oneX (vL v) (15 : Int)) = F
        | false =>
         ((38 : Nat) ≠ (0 : Nat) ∧ (38 : Nat) = (38 : Nat) ∧ true = true) ∧
         (∃ (h_1 : Nat → Bool), ∃ (v_1 : Nat → List Int), ∃ (k : Int), [D.st [D.st (hL h), D.st (vL v)], D.val (Value.int IntKind.i64 (9 : Int))] = [D.st [D.st (hL h_1), D.st (vL v_1)], D.val (Value.int IntKind.i64 k)] ∧ (0 : Int) ≤ k ∧ k < (19 : Int)) ∧
         True ∧
         True ∧
         True ∧
         True ∧
         match !oneX (vL v) (9 : Int) with
         | true => True ∧ True ∧ True ∧ True ∧ True ∧ True ∧ True ∧ (false = false ∧ True) ∧ D.val (Value.bool !oneX (vL v) (15 : Int)) = F
         | false => True ∧ True ∧ (false = false ∧ True) ∧ D.val (Value.bool false) = F
       | false =>
        ((38 : Nat) ≠ (0 : Nat) ∧ (38 : Nat) = (38 : Nat) ∧ true = true) ∧
        (∃ (h_1 : Nat → Bool), ∃ (v_1 : Nat → List Int), ∃ (k : Int), [D.st [D.st (hL h), D.st (vL v)], D.val (Value.int IntKind.i64 (8 : Int))] = [D.st [D.st (hL h_1), D.st (vL v_1)], D.val (Value.int IntKind.i64 k)] ∧ (0 : Int) ≤ k ∧ k < (19 : Int)) ∧
        True ∧
        True ∧
        match oneX (vL v) (8 : Int) with
        | true =>
         ((38 : Nat) ≠ (0 : Nat) ∧ (38 : Nat) = (38 : Nat) ∧ true = true) ∧
         (∃ (h_1 : Nat → Bool), ∃ (v_1 : Nat → List Int), ∃ (k : Int), [D.st [D.st (hL h), D.st (vL v)], D.val (Value.int IntKind.i64 (11 : Int))] = [D.st [D.st (hL h_1), D.st (vL v_1)], D.val (Value.int IntKind.i64 k)] ∧ (0 : Int) ≤ k ∧ k < (19 : Int)) ∧
         True ∧
         True ∧
         match !oneX (vL v) (11 : Int) with
         | true => True ∧ True ∧ True ∧ True ∧ True ∧ True ∧ True ∧ True ∧ True ∧ True ∧ (false = false ∧ True) ∧ D.val (Value.bool !oneX (vL v) (15 : Int)) = F
         | false =>
          ((38 : Nat) ≠ (0 : Nat) ∧ (38 : Nat) = (38 : Nat) ∧ true = true) ∧
          (∃ (h_1 : Nat → Bool), ∃ (v_1 : Nat → List Int), ∃ (k : Int), [D.st [D.st (hL h), D.st (vL v)], D.val (Value.int IntKind.i64 (9 : Int))] = [D.st [D.st (hL h_1), D.st (vL v_1)], D.val (Value.int IntKind.i64 k)] ∧ (0 : Int) ≤ k ∧ k < (19 : Int)) ∧
          True ∧
          True ∧
          True ∧
          True ∧
          match !oneX (vL v) (9 : Int) with
          | true => True ∧ True ∧ True ∧ True ∧ True ∧ True ∧ True ∧ (false = false ∧ True) ∧ D.val (Value.bool !oneX (vL v) (15 : Int)) = F
          | false => True ∧ True ∧ (false = false ∧ True) ∧ D.val (Value.bool false) = F
        | false => True ∧ True ∧ True ∧ True ∧ (false = false ∧ True) ∧ D.val (Value.bool false) = F
    | false =>
     ((38 : Nat) ≠ (0 : Nat) ∧ (38 : Nat) = (38 : Nat) ∧ true = true) ∧
     (∃ (h_1 : Nat → Bool), ∃ (v_1 : Nat → List Int), ∃ (k : Int), [D.st [D.st (hL h), D.st (vL v)], D.val (Value.int IntKind.i64 (17 : Int))] = [D.st [D.st (hL h_1), D.st (vL v_1)], D.val (Value.int IntKind.i64 k)] ∧ (0 : Int) ≤ k ∧ k < (19 : Int)) ∧
     True ∧
     True ∧
     ((38 : Nat) ≠ (0 : Nat) ∧ (38 : Nat) = (38 : Nat) ∧ true = true) ∧
     (∃ (h_1 : Nat → Bool), ∃ (v_1 : Nat → List Int), ∃ (k : Int), [D.st [D.st (hL h), D.st (vL v)], D.val (Value.int IntKind.i64 (13 : Int))] = [D.st [D.st (hL h_1), D.st (vL v_1)], D.val (Value.int IntKind.i64 k)] ∧ (0 : Int) ≤ k ∧ k < (19 : Int)) ∧
     True ∧
     match oneX (vL v) (13 : Int) with
     | true =>
      True ∧
      True ∧
      True ∧
      True ∧
      ((38 : Nat) ≠ (0 : Nat) ∧ (38 : Nat) = (38 : Nat) ∧ true = true) ∧
      (∃ (h_1 : Nat → Bool), ∃ (v_1 : Nat → List Int), ∃ (k : Int), [D.st [D.st (hL h), D.st (vL v)], D.val (Value.int IntKind.i64 (10 : Int))] = [D.st [D.st (hL h_1), D.st (vL v_1)], D.val (Value.int IntKind.i64 k)] ∧ (0 : Int) ≤ k ∧ k < (19 : Int)) ∧
      True ∧
      True ∧
      match !oneX (vL v) (10 : Int) with
      | true =>
       True ∧
       True ∧
       ((38 : Nat) ≠ (0 : Nat) ∧ (38 : Nat) = (38 : Nat) ∧ true = true) ∧
       (∃ (h_1 : Nat → Bool), ∃ (v_1 : Nat → List Int), ∃ (k : Int), [D.st [D.st (hL h), D.st (vL v)], D.val (Value.int IntKind.i64 (11 : Int))] = [D.st [D.st (hL h_1), D.st (vL v_1)], D.val (Value.int IntKind.i64 k)] ∧ (0 : Int) ≤ k ∧ k < (19 : Int)) ∧
       True ∧
       True ∧
       match !oneX (vL v) (11 : Int) with
       | true =>
        True ∧
        True ∧
        True ∧
        True ∧
        True ∧
        match oneX (vL v) (17 : Int) with
        | true => True ∧ True ∧ True ∧ True ∧ True ∧ (false = false ∧ True) ∧ D.val (Value.bool false) = F
        | false => True ∧ True ∧ True ∧ True ∧ (false = false ∧ True) ∧ D.val (Value.bool true) = F
       | false =>
        ((38 : Nat) ≠ (0 : Nat) ∧ (38 : Nat) = (38 : Nat) ∧ true = true) ∧
        (∃ (h_1 : Nat → Bool), ∃ (v_1 : Nat → List Int), ∃ (k : Int), [D.st [D.st (hL h), D.st (vL v)], D.val (Value.int IntKind.i64 (9 : Int))] = [D.st [D.st (hL h_1), D.st (vL v_1)], D.val (Value.int IntKind.i64 k)] ∧ (0 : Int) ≤ k ∧ k < (19 : Int)) ∧
        True ∧
        True ∧
        True ∧
        True ∧
        match !oneX (vL v) (9 : Int) with
        | true =>
         True ∧
         True ∧
         match oneX (vL v) (17 : Int) with
         | true => True ∧ True ∧ True ∧ True ∧ True ∧ (false = false ∧ True) ∧ D.val (Value.bool false) = F
         | false => True ∧ True ∧ True ∧ True ∧ (false = false ∧ True) ∧ D.val (Value.bool true) = F
        | false => True ∧ True ∧ (false = false ∧ True) ∧ D.val (Value.bool false) = F
      | false =>
       ((38 : Nat) ≠ (0 : Nat) ∧ (38 : Nat) = (38 : Nat) ∧ true = true) ∧
       (∃ (h_1 : Nat → Bool), ∃ (v_1 : Nat → List Int), ∃ (k : Int), [D.st [D.st (hL h), D.st (vL v)], D.val (Value.int IntKind.i64 (8 : Int))] = [D.st [D.st (hL h_1), D.st (vL v_1)], D.val (Value.int IntKind.i64 k)] ∧ (0 : Int) ≤ k ∧ k < (19 : Int)) ∧
       True ∧
       True ∧
       match oneX (vL v) (8 : Int) with
       | true =>
        ((38 : Nat) ≠ (0 : Nat) ∧ (38 : Nat) = (38 : Nat) ∧ true = true) ∧
        (∃ (h_1 : Nat → Bool), ∃ (v_1 : Nat → List Int), ∃ (k : Int), [D.st [D.st (hL h), D.st (vL v)], D.val (Value.int IntKind.i64 (11 : Int))] = [D.st [D.st (hL h_1), D.st (vL v_1)], D.val (Value.int IntKind.i64 k)] ∧ (0 : Int) ≤ k ∧ k < (19 : Int)) ∧
        True ∧
        True ∧
        match !oneX (vL v) (11 : Int) with
        | true =>
         True ∧
         True ∧
         True ∧
         True ∧
         True ∧
         match oneX (vL v) (17 : Int) with
         | true => True ∧ True ∧ True ∧ True ∧ True ∧ (false = false ∧ True) ∧ D.val (Value.bool false) = F
         | false => True ∧ True ∧ True ∧ True ∧ (false = false ∧ True) ∧ D.val (Value.bool true) = F
        | false =>
         ((38 : Nat) ≠ (0 : Nat) ∧ (38 : Nat) = (38 : Nat) ∧ true = true) ∧
         (∃ (h_1 : Nat → Bool), ∃ (v_1 : Nat → List Int), ∃ (k : Int), [D.st [D.st (hL h), D.st (vL v)], D.val (Value.int IntKind.i64 (9 : Int))] = [D.st [D.st (hL h_1), D.st (vL v_1)], D.val (Value.int IntKind.i64 k)] ∧ (0 : Int) ≤ k ∧ k < (19 : Int)) ∧
         True ∧
         True ∧
         True ∧
         True ∧
         match !oneX (vL v) (9 : Int) with
         | true =>
          True ∧
          True ∧
          match oneX (vL v) (17 : Int) with
          | true => True ∧ True ∧ True ∧ True ∧ True ∧ (false = false ∧ True) ∧ D.val (Value.bool false) = F
          | false => True ∧ True ∧ True ∧ True ∧ (false = false ∧ True) ∧ D.val (Value.bool true) = F
         | false => True ∧ True ∧ (false = false ∧ True) ∧ D.val (Value.bool false) = F
       | false => True ∧ True ∧ True ∧ True ∧ (false = false ∧ True) ∧ D.val (Value.bool false) = F
     | false =>
      ((38 : Nat) ≠ (0 : Nat) ∧ (38 : Nat) = (38 : Nat) ∧ true = true) ∧
      (∃ (h_1 : Nat → Bool), ∃ (v_1 : Nat → List Int), ∃ (k : Int), [D.st [D.st (hL h), D.st (vL v)], D.val (Value.int IntKind.i64 (14 : Int))] = [D.st [D.st (hL h_1), D.st (vL v_1)], D.val (Value.int IntKind.i64 k)] ∧ (0 : Int) ≤ k ∧ k < (19 : Int)) ∧
      True ∧
      True ∧
      match oneX (vL v) (14 : Int) with
      | true =>
       True ∧
       True ∧
       ((38 : Nat) ≠ (0 : Nat) ∧ (38 : Nat) = (38 : Nat) ∧ true = true) ∧
       (∃ (h_1 : Nat → Bool), ∃ (v_1 : Nat → List Int), ∃ (k : Int), [D.st [D.st (hL h), D.st (vL v)], D.val (Value.int IntKind.i64 (10 : Int))] = [D.st [D.st (hL h_1), D.st (vL v_1)], D.val (Value.int IntKind.i64 k)] ∧ (0 : Int) ≤ k ∧ k < (19 : Int)) ∧
       True ∧
       True ∧
       match !oneX (vL v) (10 : Int) with
       | true =>
        True ∧
        True ∧
        ((38 : Nat) ≠ (0 : Nat) ∧ (38 : Nat) = (38 : Nat) ∧ true = true) ∧
        (∃ (h_1 : Nat → Bool), ∃ (v_1 : Nat → List Int), ∃ (k : Int), [D.st [D.st (hL h), D.st (vL v)], D.val (Value.int IntKind.i64 (11 : Int))] = [D.st [D.st (hL h_1), D.st (vL v_1)], D.val (Value.int IntKind.i64 k)] ∧ (0 : Int) ≤ k ∧ k < (19 : Int)) ∧
        True ∧
        True ∧
        match !oneX (vL v) (11 : Int) with
        | true =>
         True ∧
         True ∧
         True ∧
         True ∧
         True ∧
         match oneX (vL v) (17 : Int) with
         | true => True ∧ True ∧ True ∧ True ∧ True ∧ (false = false ∧ True) ∧ D.val (Value.bool false) = F
         | false => True ∧ True ∧ True ∧ True ∧ (false = false ∧ True) ∧ D.val (Value.bool true) = F
        | false =>
         ((38 : Nat) ≠ (0 : Nat) ∧ (38 : Nat) = (38 : Nat) ∧ true = true) ∧
         (∃ (h_1 : Nat → Bool), ∃ (v_1 : Nat → List Int), ∃ (k : Int), [D.st [D.st (hL h), D.st (vL v)], D.val (Value.int IntKind.i64 (9 : Int))] = [D.st [D.st (hL h_1), D.st (vL v_1)], D.val (Value.int IntKind.i64 k)] ∧ (0 : Int) ≤ k ∧ k < (19 : Int)) ∧
         True ∧
         True ∧
         True ∧
         True ∧
         match !oneX (vL v) (9 : Int) with
         | true =>
          True ∧
          True ∧
          match oneX (vL v) (17 : Int) with
          | true => True ∧ True ∧ True ∧ True ∧ True ∧ (false = false ∧ True) ∧ D.val (Value.bool false) = F
          | false => True ∧ True ∧ True ∧ True ∧ (false = false ∧ True) ∧ D.val (Value.bool true) = F
         | false => True ∧ True ∧ (false = false ∧ True) ∧ D.val (Value.bool false) = F
       | false =>
        ((38 : Nat) ≠ (0 : Nat) ∧ (38 : Nat) = (38 : Nat) ∧ true = true) ∧
        (∃ (h_1 : Nat → Bool), ∃ (v_1 : Nat → List Int), ∃ (k : Int), [D.st [D.st (hL h), D.st (vL v)], D.val (Value.int IntKind.i64 (8 : Int))] = [D.st [D.st (hL h_1), D.st (vL v_1)], D.val (Value.int IntKind.i64 k)] ∧ (0 : Int) ≤ k ∧ k < (19 : Int)) ∧
        True ∧
        True ∧
        match oneX (vL v) (8 : Int) with
        | true =>
         ((38 : Nat) ≠ (0 : Nat) ∧ (38 : Nat) = (38 : Nat) ∧ true = true) ∧
         (∃ (h_1 : Nat → Bool), ∃ (v_1 : Nat → List Int), ∃ (k : Int), [D.st [D.st (hL h), D.st (vL v)], D.val (Value.int IntKind.i64 (11 : Int))] = [D.st [D.st (hL h_1), D.st (vL v_1)], D.val (Value.int IntKind.i64 k)] ∧ (0 : Int) ≤ k ∧ k < (19 : Int)) ∧
         True ∧
         True ∧
         match !oneX (vL v) (11 : Int) with
         | true =>
          True ∧
          True ∧
          True ∧
          True ∧
          True ∧
          match oneX (vL v) (17 : Int) with
          | true => True ∧ True ∧ True ∧ True ∧ True ∧ (false = false ∧ True) ∧ D.val (Value.bool false) = F
          | false => True ∧ True ∧ True ∧ True ∧ (false = false ∧ True) ∧ D.val (Value.bool true) = F
         | false =>
          ((38 : Nat) ≠ (0 : Nat) ∧ (38 : Nat) = (38 : Nat) ∧ true = true) ∧
          (∃ (h_1 : Nat → Bool), ∃ (v_1 : Nat → List Int), ∃ (k : Int), [D.st [D.st (hL h), D.st (vL v)], D.val (Value.int IntKind.i64 (9 : Int))] = [D.st [D.st (hL h_1), D.st (vL v_1)], D.val (Value.int IntKind.i64 k)] ∧ (0 : Int) ≤ k ∧ k < (19 : Int)) ∧
          True ∧
          True ∧
          True ∧
          True ∧
          match !oneX (vL v) (9 : Int) with
          | true =>
           True ∧
           True ∧
           match oneX (vL v) (17 : Int) with
           | true => True ∧ True ∧ True ∧ True ∧ True ∧ (false = false ∧ True) ∧ D.val (Value.bool false) = F
           | false => True ∧ True ∧ True ∧ True ∧ (false = false ∧ True) ∧ D.val (Value.bool true) = F
          | false => True ∧ True ∧ (false = false ∧ True) ∧ D.val (Value.bool false) = F
        | false => True ∧ True ∧ True ∧ True ∧ (false = false ∧ True) ∧ D.val (Value.bool false) = F
      | false =>
       ((38 : Nat) ≠ (0 : Nat) ∧ (38 : Nat) = (38 : Nat) ∧ true = true) ∧
       (∃ (h_1 : Nat → Bool), ∃ (v_1 : Nat → List Int), ∃ (k : Int), [D.st [D.st (hL h), D.st (vL v)], D.val (Value.int IntKind.i64 (15 : Int))] = [D.st [D.st (hL h_1), D.st (vL v_1)], D.val (Value.int IntKind.i64 k)] ∧ (0 : Int) ≤ k ∧ k < (19 : Int)) ∧
       True ∧
       True ∧
       ((38 : Nat) ≠ (0 : Nat) ∧ (38 : Nat) = (38 : Nat) ∧ true = true) ∧
       (∃ (h_1 : Nat → Bool), ∃ (v_1 : Nat → List Int), ∃ (k : Int), [D.st [D.st (hL h), D.st (vL v)], D.val (Value.int IntKind.i64 (10 : Int))] = [D.st [D.st (hL h_1), D.st (vL v_1)], D.val (Value.int IntKind.i64 k)] ∧ (0 : Int) ≤ k ∧ k < (19 : Int)) ∧
       True ∧
       True ∧
       match !oneX (vL v) (10 : Int) with
       | true =>
        True ∧
        True ∧
        ((38 : Nat) ≠ (0 : Nat) ∧ (38 : Nat) = (38 : Nat) ∧ true = true) ∧
        (∃ (h_1 : Nat → Bool), ∃ (v_1 : Nat → List Int), ∃ (k : Int), [D.st [D.st (hL h), D.st (vL v)], D.val (Value.int IntKind.i64 (11 : Int))] = [D.st [D.st (hL h_1), D.st (vL v_1)], D.val (Value.int IntKind.i64 k)] ∧ (0 : Int) ≤ k ∧ k < (19 : Int)) ∧
        True ∧
        True ∧
        match !oneX (vL v) (11 : Int) with
        | true =>
         True ∧
         True ∧
         True ∧
         True ∧
         True ∧
         match oneX (vL v) (17 : Int) with
         | true => True ∧ True ∧ True ∧ True ∧ True ∧ (false = false ∧ True) ∧ D.val (Value.bool !oneX (vL v) (15 : Int)) = F
         | false => True ∧ True ∧ True ∧ True ∧ (false = false ∧ True) ∧ D.val (Value.bool true) = F
        | false =>
         ((38 : Nat) ≠ (0 : Nat) ∧ (38 : Nat) = (38 : Nat) ∧ true = true) ∧
         (∃ (h_1 : Nat → Bool), ∃ (v_1 : Nat → List Int), ∃ (k : Int), [D.st [D.st (hL h), D.st (vL v)], D.val (Value.int IntKind.i64 (9 : Int))] = [D.st [D.st (hL h_1), D.st (vL v_1)], D.val (Value.int IntKind.i64 k)] ∧ (0 : Int) ≤ k ∧ k < (19 : Int)) ∧
         True ∧
         True ∧
         True ∧
         True ∧
         match !oneX (vL v) (9 : Int) with
         | true =>
          True ∧
          True ∧
          match oneX (vL v) (17 : Int) with
          | true => True ∧ True ∧ True ∧ True ∧ True ∧ (false = false ∧ True) ∧ D.val (Value.bool !oneX (vL v) (15 : Int)) = F
          | false => True ∧ True ∧ True ∧ True ∧ (false = false ∧ True) ∧ D.val (Value.bool true) = F
         | false => True ∧ True ∧ (false = false ∧ True) ∧ D.val (Value.bool false) = F
       | false =>
        ((38 : Nat) ≠ (0 : Nat) ∧ (38 : Nat) = (38 : Nat) ∧ true = true) ∧
        (∃ (h_1 : Nat → Bool), ∃ (v_1 : Nat → List Int), ∃ (k : Int), [D.st [D.st (hL h), D.st (vL v)], D.val (Value.int IntKind.i64 (8 : Int))] = [D.st [D.st (hL h_1), D.st (vL v_1)], D.val (Value.int IntKind.i64 k)] ∧ (0 : Int) ≤ k ∧ k < (19 : Int)) ∧
        True ∧
        True ∧
        match oneX (vL v) (8 : Int) with
        | true =>
         ((38 : Nat) ≠ (0 : Nat) ∧ (38 : Nat) = (38 : Nat) ∧ true = true) ∧
         (∃ (h_1 : Nat → Bool), ∃ (v_1 : Nat → List Int), ∃ (k : Int), [D.st [D.st (hL h), D.st (vL v)], D.val (Value.int IntKind.i64 (11 : Int))] = [D.st [D.st (hL h_1), D.st (vL v_1)], D.val (Value.int IntKind.i64 k)] ∧ (0 : Int) ≤ k ∧ k < (19 : Int)) ∧
         True ∧
         True ∧
         match !oneX (vL v) (11 : Int) with
         | true =>
          True ∧
          True ∧
          True ∧
          True ∧
          True ∧
          match oneX (vL v) (17 : Int) with
          | true => True ∧ True ∧ True ∧ True ∧ True ∧ (false = false ∧ True) ∧ D.val (Value.bool !oneX (vL v) (15 : Int)) = F
          | false => True ∧ True ∧ True ∧ True ∧ (false = false ∧ True) ∧ D.val (Value.bool true) = F
         | false =>
          ((38 : Nat) ≠ (0 : Nat) ∧ (38 : Nat) = (38 : Nat) ∧ true = true) ∧
          (∃ (h_1 : Nat → Bool), ∃ (v_1 : Nat → List Int), ∃ (k : Int), [D.st [D.st (hL h), D.st (vL v)], D.val (Value.int IntKind.i64 (9 : Int))] = [D.st [D.st (hL h_1), D.st (vL v_1)], D.val (Value.int IntKind.i64 k)] ∧ (0 : Int) ≤ k ∧ k < (19 : Int)) ∧
          True ∧
          True ∧
          True ∧
          True ∧
          match !oneX (vL v) (9 : Int) with
          | true =>
           True ∧
           True ∧
           match oneX (vL v) (17 : Int) with
           | true => True ∧ True ∧ True ∧ True ∧ True ∧ (false = false ∧ True) ∧ D.val (Value.bool !oneX (vL v) (15 : Int)) = F
           | false => True ∧ True ∧ True ∧ True ∧ (false = false ∧ True) ∧ D.val (Value.bool true) = F
          | false => True ∧ True ∧ (false = false ∧ True) ∧ D.val (Value.bool false) = F
        | false => True ∧ True ∧ True ∧ True ∧ (false = false ∧ True) ∧ D.val (Value.bool false) = F) := by kernel_rfl
set_option maxRecDepth 100000 in
theorem vc20  (a b : List D) (F : D)  :
    (owed c0 (inv20 a b) Try.f20 [.slc 2 a, .slc 2 b] F) = (
 True ∧
 True ∧
 True ∧
 True ∧
 True ∧
 True ∧
 match (↑a.length : Int) != (↑b.length : Int) with
 | true => True ∧ (false = false ∧ True) ∧ D.val (Value.bool false) = F
 | false =>
  True ∧
  True ∧
  True ∧
  (((AV.d (D.val (Value.int IntKind.i64 (0 : Int))) = AV.d (D.val (Value.int IntKind.i64 (↑(Int.toNat (0 : Int)) : Int))) ∧ True) ∧ True ∧ true = true) ∧ Int.toNat (0 : Int) ≤ a.length ∧ sameB (List.drop (Int.toNat (0 : Int)) a) (List.drop (Int.toNat (0 : Int)) b) = sameB a b) ∧
  ∀ (x : Nat),
  x ≤ a.length ∧ sameB (List.drop x a) (List.drop x b) = sameB a b →
  true = true ∧
  True ∧
  match decide ((↑x : Int) < (↑a.length : Int)) with
  | true =>
   True ∧
   True ∧
   True ∧
   True ∧
   ((0 : Int) ≤ (↑x : Int) ∧
   (↑x : Int) < (↑a.length : Int) ∧ (2 : Nat) ≠ (0 : Nat) ∧ (2 : Nat) = (2 : Nat) ∧ D.st [D.val (Value.int IntKind.i64 (numOf (fldOf (a.getD (↑x : Int).toNat (D.val (Value.bool false))) (0 : Nat)))), D.ints IntKind.u8 (intsOf (fldOf (a.getD (↑x : Int).toNat (D.val (Value.bool false))) (1 : Nat)))] = a.getD (↑x : Int).toNat (D.val (Value.bool false))) ∧
   (Sk.st [Sk.one, Sk.one] = Sk.st [Sk.one, Sk.one] ∧ (0 : Nat) < (2 : Nat)) ∧
   ((1 : Nat) ≠ (0 : Nat) ∧ (1 : Nat) = (1 : Nat) ∧ false = false) ∧
   True ∧
   True ∧
   ((0 : Int) ≤ (↑x : Int) ∧
   (↑x : Int) < (↑b.length : Int) ∧
   (2 : Nat) ≠ (0 : Nat) ∧ (2 : Nat) = (2 : Nat) ∧ D.st [D.val (Value.int IntKind.i64 (numOf (fldOf (b.getD (↑x : Int).toNat (D.val (Value.bool false))) (0 : Nat)))), D.ints IntKind.u8 (intsOf (fldOf (b.getD (↑x : Int).toNat (D.val (Value.bool false))) (1 : Nat)))] = b.getD (↑x : Int).toNat (D.val (Value.bool false))) ∧
   (Sk.st [Sk.one, Sk.one] = Sk.st [Sk.one, Sk.one] ∧ (0 : Nat) < (2 : Nat)) ∧
   ((1 : Nat) ≠ (0 : Nat) ∧ (1 : Nat) = (1 : Nat) ∧ false = false) ∧
   True ∧
   True ∧
   match numOf (fldOf (a.getD (↑x : Int).toNat (D.val (Value.bool false))) (0 : Nat)) != numOf (fldOf (b.getD (↑x : Int).toNat (D.val (Value.bool false))) (0 : Nat)) with
   | true => True ∧ True ∧ (false = false ∧ True) ∧ D.val (Value.bool false) = F
   | false =>
    True ∧
    True ∧
    ((0 : Int) ≤ (↑x : Int) ∧
    (↑x : Int) < (↑a.length : Int) ∧
    (2 : Nat) ≠ (0 : Nat) ∧ (2 : Nat) = (2 : Nat) ∧ D.st [D.val (Value.int IntKind.i64 (numOf (fldOf (a.getD (↑x : Int).toNat (D.val (Value.bool false))) (0 : Nat)))), D.ints IntKind.u8 (intsOf (fldOf (a.getD (↑x : Int).toNat (D.val (Value.bool false))) (1 : Nat)))] = a.getD (↑x : Int).toNat (D.val (Value.bool false))) ∧
    (Sk.st [Sk.one, Sk.one] = Sk.st [Sk.one, Sk.one] ∧ (1 : Nat) < (2 : Nat)) ∧
    ((1 : Nat) ≠ (0 : Nat) ∧ (1 : Nat) = (1 : Nat) ∧ false = false) ∧
    isBytes (intsOf (fldOf (a.getD (↑x : Int).toNat (D.val (Value.bool false))) (1 : Nat))) ∧
    True ∧
    True ∧
    ((0 : Int) ≤ (↑x : Int) ∧
    (↑x : Int) < (↑b.length : Int) ∧
    (2 : Nat) ≠ (0 : Nat) ∧
    (2 : Nat) = (2 : Nat) ∧ D.st [D.val (Value.int IntKind.i64 (numOf (fldOf (b.getD (↑x : Int).toNat (D.val (Value.bool false))) (0 : Nat)))), D.ints IntKind.u8 (intsOf (fldOf (b.getD (↑x : Int).toNat (D.val (Value.bool false))) (1 : Nat)))] = b.getD (↑x : Int).toNat (D.val (Value.bool false))) ∧
    (Sk.st [Sk.one, Sk.one] = Sk.st [Sk.one, Sk.one] ∧ (1 : Nat) < (2 : Nat)) ∧
    ((1 : Nat) ≠ (0 : Nat) ∧ (1 : Nat) = (1 : Nat) ∧ false = false) ∧
    isBytes (intsOf (fldOf (b.getD (↑x : Int).toNat (D.val (Value.bool false))) (1 : Nat))) ∧
    True ∧
    True ∧
    match !eqB (intsOf (fldOf (a.getD (↑x : Int).toNat (D.val (Value.bool false))) (1 : Nat))) (intsOf (fldOf (b.getD (↑x : Int).toNat (D.val (Value.bool false))) (1 : Nat))) with
    | true => True ∧ (false = false ∧ True) ∧ D.val (Value.bool false) = F
    | false =>
     True ∧
     True ∧
     ((AV.d (D.val (Value.int IntKind.i64 (IntKind.i64.wrap ((↑x : Int) + (1 : Int))))) = AV.d (D.val (Value.int IntKind.i64 (↑(IntKind.i64.wrap ((↑x : Int) + (1 : Int))).toNat : Int))) ∧ True) ∧ True ∧ true = true) ∧
     ((IntKind.i64.wrap ((↑x : Int) + (1 : Int))).toNat ≤ a.length ∧ sameB (List.drop (IntKind.i64.wrap ((↑x : Int) + (1 : Int))).toNat a) (List.drop (IntKind.i64.wrap ((↑x : Int) + (1 : Int))).toNat b) = sameB a b) ∧ a.length - (IntKind.i64.wrap ((↑x : Int) + (1 : Int))).toNat < a.length - x
  | false => True ∧ (false = false ∧ True) ∧ D.val (Value.bool true) = F) := by kernel_rfl
set_option maxRecDepth 100000 in
theorem vc17  (l : List D) (F : D)  :
    (owed c17 (fun _ => none) Try.f17 [.slc 2 l] F) = (
 True ∧
 True ∧
 (∃ (l_1 : List D), [D.slc (2 : Nat) l] = [D.slc (2 : Nat) l_1] ∧ okl l_1) ∧
 (True ∧ (38 : Nat) ≠ (0 : Nat)) ∧
 (sm
 (sk
 (D.st
 [D.st
 [D.val (Value.bool false), D.val (Value.bool false), D.val (Value.bool false), D.val (Value.bool false), D.val (Value.bool false), D.val (Value.bool false), D.val (Value.bool false), D.val (Value.bool false), D.val (Value.bool false), D.val (Value.bool false), D.val (Value.bool false), D.val (Value.bool false), D.val (Value.bool false), D.val (Value.bool false),
 D.val (Value.bool false), D.val (Value.bool false), D.val (Value.bool false), D.val (Value.bool false), D.val (Value.bool false)],
 D.st [D.str [], D.str [], D.str [], D.str [], D.str [], D.str [], D.str [], D.str [], D.str [], D.str [], D.str [], D.str [], D.str [], D.str [], D.str [], D.str [], D.str [], D.str [], D.str []]])) ∧
 (38 : Nat) ≠ (0 : Nat) ∧ (38 : Nat) = (38 : Nat) ∧ false = false) ∧
 True ∧
 (∃ (l_1 : List D), [D.slc (2 : Nat) l] = [D.slc (2 : Nat) l_1] ∧ okl l_1) ∧
 True ∧
 True ∧
 match afE l == (0 : Int) with
 | true =>
  True ∧
  ((38 : Nat) ≠ (0 : Nat) ∧ (38 : Nat) = (38 : Nat) ∧ true = true) ∧
  (∃ (h : Nat → Bool), ∃ (v : Nat → List Int), [D.st [D.st (hL (cH l)), D.st (vL (cV l))]] = [D.st [D.st (hL h), D.st (vL v)]] ∧ okc v) ∧
  (∃ (a : List D), ∃ (b : List D), [D.slc (2 : Nat) l, D.slc (2 : Nat) (atX (hL (cH l)) (vL (cV l)))] = [D.slc (2 : Nat) a, D.slc (2 : Nat) b] ∧ okl a ∧ okl b) ∧
  True ∧
  True ∧
  match sameB l (atX (hL (cH l)) (vL (cV l))) with
  | true => ((38 : Nat) ≠ (0 : Nat) ∧ (38 : Nat) = (38 : Nat) ∧ true = true) ∧ (∃ (h : Nat → Bool), ∃ (v : Nat → List Int), [D.st [D.st (hL (cH l)), D.st (vL (cV l))]] = [D.st [D.st (hL h), D.st (vL v)]] ∧ okc v) ∧ True ∧ True ∧ (false = false ∧ True) ∧ D.val (Value.bool (objX (hL (cH l)) (vL (cV l)))) = F
  | false => True ∧ True ∧ (false = false ∧ True) ∧ D.val (Value.bool false) = F
 | false => True ∧ True ∧ True ∧ True ∧ (false = false ∧ True) ∧ D.val (Value.bool false) = F) := by kernel_rfl
set_option maxRecDepth 100000 in
theorem vc36  (h : Nat → Bool) (v : Nat → List Int) (g : Nat → Bool) (w : Nat → List Int) (F : D)  :
    (owed c36 (inv36 h v g w) Try.f36 [cdL h v, cdL g w] F) = (
 (True ∧ false = false) ∧
 (True ∧ false = false) ∧
 (True ∧ (38 : Nat) ≠ (0 : Nat)) ∧
 True ∧
 (((AV.d (D.val (Value.int IntKind.i64 (0 : Int))) = AV.d (D.val (Value.int IntKind.i64 (↑(Int.toNat (0 : Int)) : Int))) ∧ True) ∧
 (some (Blk.fix (D.st [D.st (hL h), D.st (vL v)])) = some (Blk.fix (D.st [D.st (hL (upHi h g (Int.toNat (0 : Int)))), D.st (vL (upVi g v w (Int.toNat (0 : Int))))])) ∧
 sm (some (Blk.fix (D.st [D.st (hL g), D.st (vL w)]))) ∧
 sm
 (some
 (Blk.fix
 (D.st
 [D.st
 [D.val (Value.bool false), D.val (Value.bool false), D.val (Value.bool false), D.val (Value.bool false), D.val (Value.bool false), D.val (Value.bool false), D.val (Value.bool false), D.val (Value.bool false), D.val (Value.bool false), D.val (Value.bool false), D.val (Value.bool false), D.val (Value.bool false), D.val (Value.bool false), D.val (Value.bool false),
 D.val (Value.bool false), D.val (Value.bool false), D.val (Value.bool false), D.val (Value.bool false), D.val (Value.bool false)],
 D.st [D.str [], D.str [], D.str [], D.str [], D.str [], D.str [], D.str [], D.str [], D.str [], D.str [], D.str [], D.str [], D.str [], D.str [], D.str [], D.str [], D.str [], D.str [], D.str []]]))) ∧
 True) ∧
 true = true) ∧
 Int.toNat (0 : Int) ≤ (19 : Nat)) ∧
 ∀ (x : Nat),
 x ≤ (19 : Nat) →
 true = true ∧
 True ∧
 match decide ((↑x : Int) < (19 : Int)) with
 | true =>
  True ∧
  True ∧
  True ∧
  (Nat.beq (3 : Nat) (3 : Nat) = true ∧ sm (sk (tg c36.tab (40 : Nat)).zero) ∧ (0 : Nat) < (2 : Nat)) ∧
  ((0 : Int) ≤ (↑x : Int) ∧ (↑x : Int) < (↑(19 : Nat) : Int) ∧ (hL g).length = (19 : Nat) ∧ ones (hL g) ∧ (1 : Nat) = (1 : Nat)) ∧
  (((1 : Nat) ≠ (0 : Nat) ∧ (sk ((hL g).getD (↑x : Int).toNat (D.val (Value.bool false)))).size = (1 : Nat) ∧ ((hL g).getD (↑x : Int).toNat (D.val (Value.bool false))).isAgg = false) ∧ D.val (Value.bool (boolOf ((hL g).getD (↑x : Int).toNat (D.val (Value.bool false))))) = (hL g).getD (↑x : Int).toNat (D.val (Value.bool false))) ∧
  match boolOf ((hL g).getD (↑x : Int).toNat (D.val (Value.bool false))) with
  | true =>
   True ∧
   True ∧
   True ∧
   (Nat.beq (3 : Nat) (3 : Nat) = true ∧ sm (sk (tg c36.tab (40 : Nat)).zero) ∧ (1 : Nat) < (2 : Nat)) ∧
   (Nat.beq (3 : Nat) (3 : Nat) = true ∧ (0 : Int) ≤ (↑x : Int) ∧ (↑x : Int) < (↑(19 : Nat) : Int) ∧ (vL w).length = (19 : Nat) ∧ ones (vL w) ∧ (1 : Nat) = (1 : Nat)) ∧
   (Nat.beq (3 : Nat) (3 : Nat) = true ∧ ((1 : Nat) ≠ (0 : Nat) ∧ (sk ((vL w).getD (↑x : Int).toNat (D.val (Value.bool false)))).size = (1 : Nat) ∧ ((vL w).getD (↑x : Int).toNat (D.val (Value.bool false))).isAgg = false) ∧ D.str (strOf ((vL w).getD (↑x : Int).toNat (D.val (Value.bool false)))) = (vL w).getD (↑x : Int).toNat (D.val (Value.bool false))) ∧
   (Nat.beq (2 : Nat) (2 : Nat) = true ∧ sm (sk (tg c36.tab (40 : Nat)).zero) ∧ (0 : Nat) < (2 : Nat)) ∧
   ((0 : Int) ≤ (↑x : Int) ∧ (↑x : Int) < (↑(19 : Nat) : Int) ∧ (hL (upHi h g x)).length = (19 : Nat) ∧ ones (hL (upHi h g x)) ∧ (1 : Nat) = (1 : Nat)) ∧
   (Nat.beq (2 : Nat) (2 : Nat) = true ∧ ((0 : Nat) < (2 : Nat) ∧ (↑x : Int).toNat < (hL (upHi h g x)).length ∧ Sk.one = sk ((hL (upHi h g x)).getD (↑x : Int).toNat (D.val (Value.bool false)))) ∧ (1 : Nat) ≠ (0 : Nat) ∧ (1 : Nat) = (1 : Nat) ∧ false = false) ∧
   (Nat.beq (2 : Nat) (2 : Nat) = true ∧
   Sk.st [Sk.st (sks ((hL (upHi h g x)).set (↑x : Int).toNat (D.val (Value.bool true)))), Sk.st [Sk.one, Sk.one, Sk.one, Sk.one, Sk.one, Sk.one, Sk.one, Sk.one, Sk.one, Sk.one, Sk.one, Sk.one, Sk.one, Sk.one, Sk.one, Sk.one, Sk.one, Sk.one, Sk.one]] =
   Sk.st [Sk.st [Sk.one, Sk.one, Sk.one, Sk.one, Sk.one, Sk.one, Sk.one, Sk.one, Sk.one, Sk.one, Sk.one, Sk.one, Sk.one, Sk.one, Sk.one, Sk.one, Sk.one, Sk.one, Sk.one], Sk.st [Sk.one, Sk.one, Sk.one, Sk.one, Sk.one, Sk.one, Sk.one, Sk.one, Sk.one, Sk.one, Sk.one, Sk.one, Sk.one, Sk.one, Sk.one, Sk.one, Sk.one, Sk.one, Sk.one]] ∧
   (1 : Nat) < (2 : Nat)) ∧
   ((0 : Int) ≤ (↑x : Int) ∧ (↑x : Int) < (↑(19 : Nat) : Int) ∧ (vL (upVi g v w x)).length = (19 : Nat) ∧ ones (vL (upVi g v w x)) ∧ (1 : Nat) = (1 : Nat)) ∧
   (Nat.beq (2 : Nat) (2 : Nat) = true ∧ ((1 : Nat) < (2 : Nat) ∧ (↑x : Int).toNat < (vL (upVi g v w x)).length ∧ Sk.one = sk ((vL (upVi g v w x)).getD (↑x : Int).toNat (D.val (Value.bool false)))) ∧ (1 : Nat) ≠ (0 : Nat) ∧ (1 : Nat) = (1 : Nat) ∧ false = false) ∧
   True ∧
   True ∧
   ((AV.d (D.val (Value.int IntKind.i64 (IntKind.i64.wrap ((↑x : Int) + (1 : Int))))) = AV.d (D.val (Value.int IntKind.i64 (↑(IntKind.i64.wrap ((↑x : Int) + (1 : Int))).toNat : Int))) ∧ True) ∧
   (some (Blk.fix (D.st [D.st ((hL (upHi h g x)).set (↑x : Int).toNat (D.val (Value.bool true))), D.st ((vL (upVi g v w x)).set (↑x : Int).toNat (D.str (strOf ((vL w).getD (↑x : Int).toNat (D.val (Value.bool false))))))])) =
   some (Blk.fix (D.st [D.st (hL (upHi h g (IntKind.i64.wrap ((↑x : Int) + (1 : Int))).toNat)), D.st (vL (upVi g v w (IntKind.i64.wrap ((↑x : Int) + (1 : Int))).toNat))])) ∧
   sm (some (Blk.fix (D.st [D.st (hL g), D.st (vL w)]))) ∧
   sm
   (some
   (Blk.fix
   (D.st
   [D.st
   [D.val (Value.bool false), D.val (Value.bool false), D.val (Value.bool false), D.val (Value.bool false), D.val (Value.bool false), D.val (Value.bool false), D.val (Value.bool false), D.val (Value.bool false), D.val (Value.bool false), D.val (Value.bool false), D.val (Value.bool false), D.val (Value.bool false),
   D.val (Value.bool false), D.val (Value.bool false), D.val (Value.bool false), D.val (Value.bool false), D.val (Value.bool false), D.val (Value.bool false), D.val (Value.bool false)],
   D.st [D.str [], D.str [], D.str [], D.str [], D.str [], D.str [], D.str [], D.str [], D.str [], D.str [], D.str [], D.str [], D.str [], D.str [], D.str [], D.str [], D.str [], D.str [], D.str []]]))) ∧
   True) ∧
   true = true) ∧
   (IntKind.i64.wrap ((↑x : Int) + (1 : Int))).toNat ≤ (19 : Nat) ∧ (19 : Nat) - (IntKind.i64.wrap ((↑x : Int) + (1 : Int))).toNat < (19 : Nat) - x
  | false =>
   True ∧
   True ∧
   ((AV.d (D.val (Value.int IntKind.i64 (IntKind.i64.wrap ((↑x : Int) + (1 : Int))))) = AV.d (D.val (Value.int IntKind.i64 (↑(IntKind.i64.wrap ((↑x : Int) + (1 : Int))).toNat : Int))) ∧ True) ∧
   (some (Blk.fix (D.st [D.st (hL (upHi h g x)), D.st (vL (upVi g v w x))])) = some (Blk.fix (D.st [D.st (hL (upHi h g (IntKind.i64.wrap ((↑x : Int) + (1 : Int))).toNat)), D.st (vL (upVi g v w (IntKind.i64.wrap ((↑x : Int) + (1 : Int))).toNat))])) ∧
   sm (some (Blk.fix (D.st [D.st (hL g), D.st (vL w)]))) ∧
   sm
   (some
   (Blk.fix
   (D.st
   [D.st
   [D.val (Value.bool false), D.val (Value.bool false), D.val (Value.bool false), D.val (Value.bool false), D.val (Value.bool false), D.val (Value.bool false), D.val (Value.bool false), D.val (Value.bool false), D.val (Value.bool false), D.val (Value.bool false), D.val (Value.bool false), D.val (Value.bool false),
   D.val (Value.bool false), D.val (Value.bool false), D.val (Value.bool false), D.val (Value.bool false), D.val (Value.bool false), D.val (Value.bool false), D.val (Value.bool false)],
   D.st [D.str [], D.str [], D.str [], D.str [], D.str [], D.str [], D.str [], D.str [], D.str [], D.str [], D.str [], D.str [], D.str [], D.str [], D.str [], D.str [], D.str [], D.str [], D.str []]]))) ∧
   True) ∧
   true = true) ∧
   (IntKind.i64.wrap ((↑x : Int) + (1 : Int))).toNat ≤ (19 : Nat) ∧ (19 : Nat) - (IntKind.i64.wrap ((↑x : Int) + (1 : Int))).toNat < (19 : Nat) - x
 | false =>
  (Nat.beq (2 : Nat) (2 : Nat) = true ∧ (38 : Nat) ≠ (0 : Nat) ∧ (38 : Nat) = (38 : Nat) ∧ true = true) ∧
  (sm
  (sk
  (D.st
  [D.st
  [D.val (Value.bool false), D.val (Value.bool false), D.val (Value.bool false), D.val (Value.bool false), D.val (Value.bool false), D.val (Value.bool false), D.val (Value.bool false), D.val (Value.bool false), D.val (Value.bool false), D.val (Value.bool false), D.val (Value.bool false), D.val (Value.bool false), D.val (Value.bool false),
  D.val (Value.bool false), D.val (Value.bool false), D.val (Value.bool false), D.val (Value.bool false), D.val (Value.bool false), D.val (Value.bool false)],
  D.st [D.str [], D.str [], D.str [], D.str [], D.str [], D.str [], D.str [], D.str [], D.str [], D.str [], D.str [], D.str [], D.str [], D.str [], D.str [], D.str [], D.str [], D.str [], D.str []]])) ∧
  (38 : Nat) ≠ (0 : Nat) ∧ (38 : Nat) = (38 : Nat) ∧ false = false) ∧
  (((38 : Nat) ≠ (0 : Nat) ∧ (38 : Nat) = (38 : Nat) ∧ true = true) ∧ True) ∧ D.st [D.st (hL (upHi h g x)), D.st (vL (upVi g v w x))] = F) := by kernel_rfl
theorem atP_step (h : Nat → Bool) (v : Nat → List Int) (i : Nat) : atP h v (i + 1) = if h i = true then atP h v i ++ [at_ (i : Int) (v i)] else atP h v i := by
 unfold atP
 rw [List.range_succ, List.filter_append, List.map_append]
 cases e : h i
 ·rw [if_neg (by decide)]
  simp [e]
 ·rw [if_pos rfl]
  simp [e]
theorem sks_hL (g : Nat → Bool) : sks (hL g) = List.replicate 19 .one := rfl
theorem upHi_step (h g : Nat → Bool) (i : Nat) (hg : g i = true) : (hL fun j => if j = i then true else upHi h g i j) = hL (upHi h g (i + 1)) := by
 refine hL_congr fun j _ => ?_
 unfold upHi upH
 by_cases e : j = i
 ·subst e
  rw [if_pos rfl, if_pos (by omega), hg]; rfl
 ·rw [if_neg e]
  by_cases e2 : j < i
  ·rw [if_pos e2, if_pos (by omega)]
  ·rw [if_neg e2, if_neg (by omega)]
theorem upVi_step (g : Nat → Bool) (v w : Nat → List Int) (i : Nat) (hg : g i = true) : vL (setV (upVi g v w i) i (w i)) = vL (upVi g v w (i + 1)) := by
 refine vL_congr fun j _ => ?_
 unfold setV upVi
 by_cases e : j = i
 ·subst e
  rw [if_pos rfl, if_pos (by omega)]
  unfold upV
  rw [hg, if_pos rfl]
 ·rw [if_neg e]
  by_cases e2 : j < i
  ·rw [if_pos e2, if_pos (by omega)]
  ·rw [if_neg e2, if_neg (by omega)]
theorem up_keep (h g : Nat → Bool) (v w : Nat → List Int) (i : Nat) (hg : g i = false) : hL (upHi h g i) = hL (upHi h g (i + 1)) ∧ vL (upVi g v w i) = vL (upVi g v w (i + 1)) := by
 constructor
 ·refine hL_congr fun j _ => ?_
  unfold upHi upH
  by_cases e : j = i
  ·subst e
   rw [if_neg (by omega), if_pos (by omega), hg]; rfl
  ·by_cases e2 : j < i
   ·rw [if_pos e2, if_pos (by omega)]
   ·rw [if_neg e2, if_neg (by omega)]
 ·refine vL_congr fun j _ => ?_
  unfold upVi
  by_cases e : j = i
  ·subst e
   rw [if_neg (by omega), if_pos (by omega)]
   unfold upV
   rw [hg]; rfl
  ·by_cases e2 : j < i
   ·rw [if_pos e2, if_pos (by omega)]
   ·rw [if_neg e2, if_neg (by omega)]
theorem up_end (h g : Nat → Bool) (v w : Nat → List Int) : hL (upHi h g 19) = hL (upH h g) ∧ vL (upVi g v w 19) = vL (upV g v w) :=
 ⟨hL_congr fun j hj => by unfold upHi; rw [if_pos hj], vL_congr fun j hj => by unfold upVi; rw [if_pos hj]⟩
theorem sameB_len : ∀ {a b : List D}, sameB a b = true → a.length = b.length
 | [], [], _ => rfl
 | [], _ :: _, h => by cases h
 | _ :: _, [], h => by cases h
 | x :: a, y :: b, h => by
  rw [sameB, Bool.and_eq_true, Bool.and_eq_true] at h
  rw [List.length_cons, List.length_cons, sameB_len h.2.2]
theorem drop_cons {l : List D} {i : Nat} (h : i < l.length) : l.drop i = l.getD i default :: l.drop (i + 1) := by
 rw [List.drop_eq_getElem_cons h, List.getD_eq_getElem?_getD, List.getElem?_eq_getElem h]; rfl
set_option maxRecDepth 100000 in
theorem m21 : Meets Try.prog 21 sp21 := by
 refine meets_of_owed (C := c21) ⟨tab_ok, fun f s h => by cases h⟩ (by kernel_rfl) (by kernel_rfl : Try.prog.funcs[21]? = some Try.f21) (by kernel_rfl) (by kernel_rfl) (by kernel_rfl) _ ?_
 rintro _ ⟨h, v, rfl, hv⟩
 refine ⟨(fun h => by cases h), inv21 h v, ?_⟩
 show owed c21 (inv21 h v) Try.f21 [cdL h v] (.slc 2 (atX (hL h) (vL v)))
 rw [vc21, atX_eq]
 simp (decide := true) only [eq_self, true_and, and_true, ne_eq, not_false_eq_true]
 refine ⟨?_, fun x hx => ?_⟩
 ·and_intros <;> first | rfl | omega
 split
 ·rename_i hl
  have hl : x < 19 := by have := of_decide_eq_true hl; omega
  have a1 : (0 : Int) ≤ (x : Int) ∧ (x : Int) < ((19 : Nat) : Int) := by omega
  have hs := atP_step h v x
  simp only [Int.toNat_natCast, hL_get _ hl, vL_get _ hl, hL_len, vL_len, eq_true (hL_ones _), eq_true (vL_ones _), sk_bl, sk_str, sk1, ag_bl, ag_str, boolOf_bl, strOf_str, true_and, and_true, wS hl (by omega)]
  refine ⟨a1, ?_⟩
  cases e : h x
  ·rw [e, if_neg (by decide)] at hs
   simp only [hs]
   and_intros <;> first | rfl | omega | trivial
  ·rw [e, if_pos rfl] at hs
   have hal : (atP h v x ++ [D.st [D.val (Value.int IntKind.i64 (x : Int)), D.ints IntKind.u8 (v x)]]).length ≤ 20 := by
    have := at_len h v x
    rw [List.length_append, List.length_singleton]; omega
   simp only [hs]
   and_intros <;> first | rfl | omega | trivial | exact a1.1 | exact a1.2
 ·rename_i hl
  have hl := of_decide_eq_false hl
  obtain rfl : x = 19 := by omega
  rfl
set_option maxRecDepth 100000 in
theorem m64 : Meets Try.prog 64 sp64 := by
 refine meets_of_owed (C := c0) ⟨tab_ok, fun f s h => by cases h⟩ (by kernel_rfl) (by kernel_rfl : Try.prog.funcs[64]? = some Try.f64) (by kernel_rfl) (by kernel_rfl) (by kernel_rfl) _ ?_
 rintro _ ⟨h, v, k, rfl, hk⟩
 refine ⟨fun _ => rfl, fun _ => none, ?_⟩
 show owed c0 (fun _ => none) Try.f64 [cdL h v, i64 k] (bl (oneX (vL v) k))
 obtain ⟨n, rfl⟩ : ∃ n : Nat, k = n := ⟨k.toNat, by omega⟩
 have hn : n < 19 := by omega
 rw [vc64, oneX_eq v hn]
 have a1 : (0 : Int) ≤ (n : Int) ∧ (n : Int) < ((19 : Nat) : Int) := by omega
 simp only [Int.toNat_natCast, hL_get _ hn, vL_get _ hn, hL_len, vL_len, eq_true (hL_ones _), eq_true (vL_ones _), sk_bl, sk_str, sk1, ag_bl, ag_str, boolOf_bl, strOf_str, eq_self, true_and, and_true, eqB_eq, show ints { data := { toList := [(1 : UInt8)] } } = [1] from rfl]
 and_intros <;> first | rfl | omega | trivial | exact a1.1 | exact a1.2 | decide
set_option maxRecDepth 100000 in
theorem m61 : Meets Try.prog 61 sp61 := by
 refine meets_of_owed (C := c0) ⟨tab_ok, fun f s h => by cases h⟩ (by kernel_rfl) (by kernel_rfl : Try.prog.funcs[61]? = some Try.f61) (by kernel_rfl) (by kernel_rfl) (by kernel_rfl) _ ?_
 rintro _ ⟨h, v, rfl, hv⟩
 refine ⟨fun _ => rfl, fun _ => none, ?_⟩
 show owed c0 (fun _ => none) Try.f61 [cdL h v] (i64 (clX (vL v)))
 rw [vc61, clX_eq]
 have g1 : (vL v).getD 1 (D.val (Value.bool false)) = .str (v 1) := vL_get v (by decide) _
 simp (decide := true) only [g1, vL_len, eq_true (vL_ones _), eq_self, true_and, and_true, ne_eq, not_false_eq_true]
 have hb := (hv 1 (by decide)).2
 generalize v 1 = u at *
 unfold clV
 split
 ·rename_i e
  rw [if_neg (fun a => by rw [a] at e; exact absurd e (by decide))]
 ·rename_i e
  have e : u.length = 1 := by
   have := bne_eq_false_iff_eq.1 e
   omega
  rw [if_pos e]
  obtain ⟨a, rfl⟩ := List.length_eq_one_iff.1 e
  have := hb a (List.mem_singleton.2 rfl)
  refine ⟨by simp, ?_⟩
  have hw : IntKind.i64.wrap a = a := wi (by omega) (by omega)
  exact congrArg (fun z => i64 z) hw
set_option maxRecDepth 100000 in
theorem m62 : Meets Try.prog 62 sp62 := by
 refine meets_of_owed (C := c0) ⟨tab_ok, fun f s h => by cases h⟩ (by kernel_rfl) (by kernel_rfl : Try.prog.funcs[62]? = some Try.f62) (by kernel_rfl) (by kernel_rfl) (by kernel_rfl) _ ?_
 rintro _ ⟨c, n, rfl⟩
 refine ⟨fun _ => rfl, fun _ => none, ?_⟩
 show owed c0 (fun _ => none) Try.f62 [i64 c, i64 n] (bl (szR c (n : Int).toNat))
 rw [vc62, Int.toNat_natCast]
 simp (decide := true) only [eq_self, true_and, and_true, ne_eq, not_false_eq_true]
 unfold szR
 have e1 : (c == 1) = decide (c = 1) := rfl
 have e2 : (c == 2) = decide (c = 2) := rfl
 have n0 : ∀ m : Nat, ((n : Int) == (m : Int)) = decide (n = m) := fun m => by
  rw [Bool.eq_iff_iff, beq_iff_eq, decide_eq_true_iff]; omega
 have n1 := n0 32
 have n2 := n0 16
 have n3 := n0 24
 rw [e1, e2, show ((n : Int) == 32) = decide (n = 32) from n1, show ((n : Int) == 16) = decide (n = 16) from n2, show ((n : Int) == 24) = decide (n = 24) from n3]
 cases decide (c = 1) <;> cases decide (n = 32) <;> cases decide (c = 2) <;> cases decide (n = 16) <;> rfl
set_option maxRecDepth 100000 in
theorem m11 : Meets Try.prog 11 sp11 := by
 refine meets_of_owed (C := c0) ⟨tab_ok, fun f s h => by cases h⟩ (by kernel_rfl) (by kernel_rfl : Try.prog.funcs[11]? = some Try.f11) (by kernel_rfl) (by kernel_rfl) (by kernel_rfl) _ ?_
 rintro _ ⟨c, k, rfl⟩
 refine ⟨fun _ => rfl, fun _ => none, ?_⟩
 show owed c0 (fun _ => none) Try.f11 [i64 c, i64 k] (bl (belB c k))
 rw [vc11]
 simp (decide := true) only [eq_self, true_and, and_true, ne_eq, not_false_eq_true]
 have nb : ∀ {a b : Int}, (a == b) = false → a ≠ b := fun h e => by rw [e] at h; simp at h
 unfold belB
 split
 ·rename_i h
  rw [if_pos (eq_of_beq h)]
  split
  ·rename_i h2; have h2 := of_decide_eq_true h2; congr 2; rw [decide_eq_decide]; omega
  ·rename_i h2; have h2 := of_decide_eq_false h2; rw [decide_eq_false (by omega)]
 ·rename_i h
  rw [if_neg (nb h)]
  split
  ·rename_i h
   rw [if_pos (eq_of_beq h)]
   split
   ·rename_i h2; have h2 := of_decide_eq_true h2; congr 2; rw [decide_eq_decide]; omega
   ·rename_i h2; have h2 := of_decide_eq_false h2; rw [decide_eq_false (by omega)]
  ·rename_i h
   rw [if_neg (nb h)]
   split
   ·rename_i h
    rw [if_pos (eq_of_beq h)]
    split
    ·rename_i h2
     have h2 := of_decide_eq_true h2
     split
     ·rename_i h3; have h3 := of_decide_eq_true h3; rw [decide_eq_true (by omega)]
     ·rename_i h3; have h3 := of_decide_eq_false h3; congr 2; rw [Bool.eq_iff_iff, beq_iff_eq, decide_eq_true_iff]; omega
    ·rename_i h2
     have h2 := of_decide_eq_false h2
     congr 2; rw [Bool.eq_iff_iff, beq_iff_eq, decide_eq_true_iff]; omega
   ·rename_i h
    rw [if_neg (nb h)]
    split
    ·rename_i h
     rw [if_pos (eq_of_beq h)]
     split
     ·rename_i h2
      have h2 := of_decide_eq_true h2
      split
      ·rename_i h3; have h3 := of_decide_eq_true h3; rw [decide_eq_true (by omega)]
      ·rename_i h3; have h3 := of_decide_eq_false h3; congr 2; rw [Bool.eq_iff_iff, beq_iff_eq, decide_eq_true_iff]; omega
     ·rename_i h2
      have h2 := of_decide_eq_false h2
      congr 2; rw [Bool.eq_iff_iff, beq_iff_eq, decide_eq_true_iff]; omega
    ·rename_i h
     rw [if_neg (nb h)]
set_option maxRecDepth 100000 in
theorem m20 : Meets Try.prog 20 sp20 := by
 refine meets_of_owed (C := c0) ⟨tab_ok, fun f s h => by cases h⟩ (by kernel_rfl) (by kernel_rfl : Try.prog.funcs[20]? = some Try.f20) (by kernel_rfl) (by kernel_rfl) (by kernel_rfl) _ ?_
 rintro _ ⟨a, b, rfl, ha, hb⟩
 refine ⟨fun _ => rfl, inv20 a b, ?_⟩
 show owed c0 (inv20 a b) Try.f20 [.slc 2 a, .slc 2 b] (bl (sameB a b))
 rw [vc20]
 have ha2 := ha.2
 simp (decide := true) only [eq_self, true_and, and_true, ne_eq, not_false_eq_true]
 split
 ·rename_i h
  have h := bne_iff_ne.1 h
  cases e : sameB a b
  ·rfl
  ·exact absurd (congrArg Int.ofNat (sameB_len e)) h
 ·rename_i h
  have h := bne_eq_false_iff_eq.1 h
  have hab : a.length = b.length := by omega
  refine ⟨?_, ?_⟩
  ·and_intros <;> first | rfl | exact Nat.zero_le _
  rintro x ⟨hx, h0⟩
  split
  ·rename_i hl
   have hl : x < a.length := by have := of_decide_eq_true hl; omega
   have hlb : x < b.length := by omega
   obtain ⟨k, v, e, h1, h2⟩ := el ha hl
   obtain ⟨k', v', e', h1', h2'⟩ := el hb hlb
   have hs : sameB (a.drop x) (b.drop x) = (decide (k = k') && (decide (v = v') && sameB (a.drop (x + 1)) (b.drop (x + 1)))) := by
    rw [drop_cons hl, drop_cons hlb, show a.getD x default = at_ k v from e, show b.getD x default = at_ k' v' from e']
    rfl
   rw [h0] at hs
   simp only [Int.toNat_natCast, e, e', f0_at, f1_at, wS hl ha2, eq_true h2, eq_true h2', eqB_eq, true_and, and_true]
   have a1 : (0 : Int) ≤ (x : Int) ∧ (x : Int) < (a.length : Int) := by omega
   have a2 : (0 : Int) ≤ (x : Int) ∧ (x : Int) < (b.length : Int) := by omega
   refine ⟨a1, a2, ?_⟩
   split
   ·rename_i hk
    have hk := bne_iff_ne.1 hk
    rw [hs, decide_eq_false hk, Bool.false_and]
   ·rename_i hk
    have hk := bne_eq_false_iff_eq.1 hk
    rw [decide_eq_true hk, Bool.true_and] at hs
    refine ⟨a1, a2, ?_⟩
    cases hvv : decide (v = v')
    ·simp only [Bool.not_false]
     rw [hvv, Bool.false_and] at hs
     rw [hs]
    ·simp only [Bool.not_true]
     rw [hvv, Bool.true_and] at hs
     exact ⟨⟨hl, hs.symm⟩, by omega⟩
  ·rename_i hl
   have hl := of_decide_eq_false hl
   obtain rfl : x = a.length := by omega
   rw [← h0, List.drop_length, hab, List.drop_length]; rfl
set_option maxRecDepth 100000 in
theorem m36 : Meets Try.prog 36 sp36 := by
 refine meets_of_owed (C := c36) ⟨tab_ok, fun f s h => by cases h⟩ (by kernel_rfl) (by kernel_rfl : Try.prog.funcs[36]? = some Try.f36) (by kernel_rfl) (by kernel_rfl) (by kernel_rfl) _ ?_
 rintro _ ⟨h, v, g, w, rfl⟩
 refine ⟨fun _ => rfl, inv36 h v g w, ?_⟩
 show owed c36 (inv36 h v g w) Try.f36 [cdL h v, cdL g w] (.st [.st (uHX (hL h) (hL g)), .st (uVX (hL g) (vL v) (vL w))])
 rw [vc36, uHX_eq, uVX_eq]
 simp (decide := true) only [eq_self, true_and, and_true, ne_eq, not_false_eq_true]
 refine ⟨?_, fun x hx => ?_⟩
 ·and_intros <;> first | rfl | omega | trivial
 split
 ·rename_i hl
  have hl : x < 19 := by have := of_decide_eq_true hl; omega
  have a1 : (0 : Int) ≤ (x : Int) ∧ (x : Int) < ((19 : Nat) : Int) := by omega
  simp only [Int.toNat_natCast, hL_get _ hl, vL_get _ hl, hL_len, vL_len, eq_true (hL_ones _), eq_true (vL_ones _), sk_bl, sk_str, sk1, ag_bl, ag_str, boolOf_bl, strOf_str, hL_set, vL_set, true_and, and_true, wS hl (show (19 : Nat) ≤ 140737488351232 by omega)]
  refine ⟨a1, ?_⟩
  cases e : g x
  ·obtain ⟨k1, k2⟩ := up_keep h g v w x e
   simp only [k1, k2]
   and_intros <;> first | rfl | omega | trivial
  ·simp only [upHi_step h g x e, upVi_step g v w x e]
   and_intros <;> first | rfl | omega | trivial | exact a1.1 | exact a1.2
 ·rename_i hl
  have hl := of_decide_eq_false hl
  obtain rfl : x = 19 := by omega
  obtain ⟨k1, k2⟩ := up_end h g v w
  rw [k1, k2]
end Go.Proofs.Ytfbaghocbipbiaa
