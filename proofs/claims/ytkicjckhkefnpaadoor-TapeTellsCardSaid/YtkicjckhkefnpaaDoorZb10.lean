/- Vg, part X: functions without a body, for which the model has an entry. -/
import Derived.Test.YtkicjckhkefnpaaDoorZb9
import Derived.Laws.Externs
namespace Go.Vg
open Go Go.RowKit
end Go.Vg
namespace Go.Vg
open Go Go.RowKit
abbrev W := BitVec 32
abbrev wd (x : W) : D := .val (.int .u32 (x.toNat : Int))
def toW (d : D) : W := BitVec.ofInt 32 (numOf d)
theorem ltW (x : W) : x.toNat < kb .u32 := x.isLt
theorem toW_wd (x : W) : toW (wd x) = x := by
 show BitVec.ofInt 32 (x.toNat : Int) = x
 rw [BitVec.ofInt_natCast, BitVec.ofNat_toNat, BitVec.setWidth_eq]
theorem addW (x y : W) : IntKind.u32.wrap ((x.toNat : Int) + (y.toNat : Int)) = ((x + y).toNat : Int) := by
 rw [w32, BitVec.toNat_add]
 omega
theorem andW (x y : W) : iand .u32 (x.toNat : Int) (y.toNat : Int) = ((x &&& y).toNat : Int) := by
 rw [iandN _ (ltW x) (ltW y), BitVec.toNat_and]
theorem orW (x y : W) : ior .u32 (x.toNat : Int) (y.toNat : Int) = ((x ||| y).toNat : Int) := by
 rw [iorN _ (ltW x) (ltW y), BitVec.toNat_or]
theorem xorW (x y : W) : ixor .u32 (x.toNat : Int) (y.toNat : Int) = ((x ^^^ y).toNat : Int) := by
 rw [ixorN _ (ltW x) (ltW y), BitVec.toNat_xor]
theorem notW (x : W) : ixor .u32 4294967295 (x.toNat : Int) = ((~~~x).toNat : Int) := by
 have := xorW (BitVec.allOnes 32) x
 rw [BitVec.allOnes_xor] at this
 exact this
theorem shrW (x : W) {n : Nat} (h : n ≤ 32) : ishr .u32 (x.toNat : Int) (n : Int) = ((x >>> n).toNat : Int) := by
 rw [ishrN .u32 (by exact h), BitVec.toNat_ushiftRight, Nat.shiftRight_eq_div_pow]
theorem shlW (x : W) {n : Nat} (h : n ≤ 32) : ishl .u32 (x.toNat : Int) (n : Int) = ((x <<< n).toNat : Int) := by
 rw [ishlN .u32 (by exact h), wN32, BitVec.toNat_shiftLeft, Nat.shiftLeft_eq]
theorem ofW (n : Nat) (h : n < 4294967296) : ((BitVec.ofNat 32 n).toNat : Int) = (n : Int) := by
 rw [BitVec.toNat_ofNat, Nat.mod_eq_of_lt (by simpa using h)]
end Go.Vg
