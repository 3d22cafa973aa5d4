import Derived.Test.YtcdjhhepgkcabaaDoorVgW
import Derived.Test.YtcdjhhepgkcabaaDoorTab
/- package hash and its reference: words. -/
namespace Go.Proofs.YtcdjhhepgkcabaaDoor
open Go Go.Vg

def rr (x : W) (n : Nat) : W := (x >>> n) ||| (x <<< (32 - n))
def sp40 : Go.Vg.Spec := ⟨fun ds => ∃ (x : W) (n : Nat), ds = [wd x, i64 (-(n : Int))] ∧ 1 ≤ n ∧ n ≤ 31, fun ds => wd (rr (toW (ds.headD default)) (-(numOf (ds.getD 1 default))).toNat), true, [24, 3]⟩
def sp34 : Go.Vg.Spec := ⟨fun ds => ∃ (x : W) (n : Nat), ds = [wd x, i64 (n : Int)] ∧ 1 ≤ n ∧ n ≤ 31, fun ds => wd (rr (toW (ds.headD default)) (numOf (ds.getD 1 default)).toNat), true, [24, 3]⟩
def sp35 : Go.Vg.Spec := ⟨fun ds => ∃ (x : W) (n : Nat), ds = [wd x, u64 (n : Int)] ∧ 1 ≤ n ∧ n ≤ 31, fun ds => wd (rr (toW (ds.headD default)) (numOf (ds.getD 1 default)).toNat), true, [24, 56]⟩
def chW (x y z : W) : W := (x &&& y) ^^^ (~~~x &&& z)
def mjW (x y z : W) : W := ((x &&& y) ^^^ (x &&& z)) ^^^ (y &&& z)
def sp36 : Go.Vg.Spec := ⟨fun ds => ∃ (x y z : W), ds = [wd x, wd y, wd z], fun ds => wd (chW (toW (ds.headD default)) (toW (ds.getD 1 default)) (toW (ds.getD 2 default))), true, [24, 24, 24]⟩
def sp37 : Go.Vg.Spec := ⟨fun ds => ∃ (x y z : W), ds = [wd x, wd y, wd z], fun ds => wd (mjW (toW (ds.headD default)) (toW (ds.getD 1 default)) (toW (ds.getD 2 default))), true, [24, 24, 24]⟩
def w4 (a b c d : Int) : W := BitVec.ofNat 32 (a.toNat * 16777216 + b.toNat * 65536 + c.toNat * 256 + d.toNat)
def wat (l : List Int) (i : Nat) : W := w4 (l.getD i 0) (l.getD (i + 1) 0) (l.getD (i + 2) 0) (l.getD (i + 3) 0)
def sp28 : Go.Vg.Spec := ⟨fun ds => ∃ l i, ds = [.ints .u8 l, i64 ((i : Nat) : Int)] ∧ isBytes l ∧ i + 3 < l.length ∧ i < 1000, fun ds => wd (wat (intsOf (ds.headD default)) (numOf (ds.getD 1 default)).toNat), true, [22, 3]⟩
def c0 : Ctx := ⟨tab, fun _ => none, [], []⟩
def c34 : Ctx := ⟨tab, lkS [(40, sp40)], [], []⟩
--KEEP rr Go.Vg.toW chW mjW w4 wat gl0 gl1 BitVec.toNat
set_option maxRecDepth 100000 in
theorem vc40  (x : W) (n : Nat) (F : D)  :
    (owed c0 (fun _ => none) Tryd.f40 [wd x, i64 (-(n : Int))] F) = (
 True ∧
   True ∧
    True ∧
     True ∧
      True ∧
       True ∧
        True ∧
         (0 : Int) ≤ iand IntKind.u64 (IntKind.u64.wrap (-(↑n : Int))) (31 : Int) ∧
          True ∧
           True ∧
            True ∧
             (0 : Int) ≤ IntKind.u64.wrap ((32 : Int) - iand IntKind.u64 (IntKind.u64.wrap (-(↑n : Int))) (31 : Int)) ∧
              True ∧ True ∧ (false = false ∧ True) ∧ D.val (Value.int IntKind.u32 (ior IntKind.u32 (ishl IntKind.u32 (↑(BitVec.toNat x) : Int) (iand IntKind.u64 (IntKind.u64.wrap (-(↑n : Int))) (31 : Int))) (ishr IntKind.u32 (↑(BitVec.toNat x) : Int) (IntKind.u64.wrap ((32 : Int) - iand IntKind.u64 (IntKind.u64.wrap (-(↑n : Int))) (31 : Int)))))) = F) := by kernel_rfl
set_option maxRecDepth 100000 in
theorem vc34  (x : W) (n : Nat) (F : D)  :
    (owed c34 (fun _ => none) Tryd.f34 [wd x, i64 (n : Int)] F) = (
 True ∧
   True ∧
    True ∧
     True ∧
      (∃ (x_1 : W), ∃ (n_1 : Nat), [D.val (Value.int IntKind.u32 (↑(BitVec.toNat x) : Int)), D.val (Value.int IntKind.i64 (IntKind.i64.wrap ((0 : Int) - (↑n : Int))))] = [D.val (Value.int IntKind.u32 (↑(BitVec.toNat x_1) : Int)), D.val (Value.int IntKind.i64 (-(↑n_1 : Int)))] ∧ (1 : Nat) ≤ n_1 ∧ n_1 ≤ (31 : Nat)) ∧
       True ∧ (false = false ∧ True) ∧ D.val (Value.int IntKind.u32 (↑(BitVec.toNat (rr (toW (D.val (Value.int IntKind.u32 (↑(BitVec.toNat x) : Int)))) (-IntKind.i64.wrap ((0 : Int) - (↑n : Int))).toNat)) : Int)) = F) := by kernel_rfl
set_option maxRecDepth 100000 in
theorem vc35  (x : W) (n : Nat) (F : D)  :
    (owed c0 (fun _ => none) Tryd.f35 [wd x, u64 (n : Int)] F) = (
 True ∧ True ∧ True ∧ (0 : Int) ≤ (↑n : Int) ∧ True ∧ True ∧ True ∧ (0 : Int) ≤ IntKind.u64.wrap ((32 : Int) - (↑n : Int)) ∧ True ∧ True ∧ (false = false ∧ True) ∧ D.val (Value.int IntKind.u32 (ior IntKind.u32 (ishr IntKind.u32 (↑(BitVec.toNat x) : Int) (↑n : Int)) (ishl IntKind.u32 (↑(BitVec.toNat x) : Int) (IntKind.u64.wrap ((32 : Int) - (↑n : Int)))))) = F) := by kernel_rfl
set_option maxRecDepth 100000 in
theorem vc36  (x y z : W) (F : D)  :
    (owed c0 (fun _ => none) Tryd.f36 [wd x, wd y, wd z] F) = (
 True ∧ True ∧ True ∧ True ∧ True ∧ True ∧ True ∧ True ∧ True ∧ (false = false ∧ True) ∧ D.val (Value.int IntKind.u32 (ixor IntKind.u32 (↑(BitVec.toNat z) : Int) (iand IntKind.u32 (↑(BitVec.toNat x) : Int) (ixor IntKind.u32 (↑(BitVec.toNat y) : Int) (↑(BitVec.toNat z) : Int))))) = F) := by kernel_rfl
set_option maxRecDepth 100000 in
theorem vc37  (x y z : W) (F : D)  :
    (owed c0 (fun _ => none) Tryd.f37 [wd x, wd y, wd z] F) = (
 True ∧ True ∧ True ∧ True ∧ True ∧ True ∧ True ∧ True ∧ True ∧ True ∧ True ∧ (false = false ∧ True) ∧ D.val (Value.int IntKind.u32 (ior IntKind.u32 (iand IntKind.u32 (↑(BitVec.toNat x) : Int) (↑(BitVec.toNat y) : Int)) (iand IntKind.u32 (↑(BitVec.toNat z) : Int) (ior IntKind.u32 (↑(BitVec.toNat x) : Int) (↑(BitVec.toNat y) : Int))))) = F) := by kernel_rfl
set_option maxRecDepth 100000 in
theorem vc28  (l : List Int) (i : Nat) (F : D)  :
    (owed c0 (fun _ => none) Tryd.f28 [.ints .u8 l, i64 (i : Int)] F) = (
 True ∧
   True ∧
    True ∧
     ((0 : Int) ≤ (↑i : Int) ∧ (↑i : Int) < (↑l.length : Int) ∧ (1 : Nat) = (1 : Nat)) ∧
      ((1 : Nat) ≠ (0 : Nat) ∧ (1 : Nat) = (1 : Nat) ∧ false = false) ∧
       True ∧
        (0 : Int) ≤ (24 : Int) ∧
         True ∧
          True ∧
           True ∧
            ((0 : Int) ≤ IntKind.i64.wrap ((↑i : Int) + (1 : Int)) ∧ IntKind.i64.wrap ((↑i : Int) + (1 : Int)) < (↑l.length : Int) ∧ (1 : Nat) = (1 : Nat)) ∧
             ((1 : Nat) ≠ (0 : Nat) ∧ (1 : Nat) = (1 : Nat) ∧ false = false) ∧
              True ∧
               (0 : Int) ≤ (16 : Int) ∧
                True ∧
                 True ∧
                  True ∧
                   True ∧
                    ((0 : Int) ≤ IntKind.i64.wrap ((↑i : Int) + (2 : Int)) ∧ IntKind.i64.wrap ((↑i : Int) + (2 : Int)) < (↑l.length : Int) ∧ (1 : Nat) = (1 : Nat)) ∧
                     ((1 : Nat) ≠ (0 : Nat) ∧ (1 : Nat) = (1 : Nat) ∧ false = false) ∧
                      True ∧
                       (0 : Int) ≤ (8 : Int) ∧
                        True ∧
                         True ∧
                          True ∧
                           True ∧
                            ((0 : Int) ≤ IntKind.i64.wrap ((↑i : Int) + (3 : Int)) ∧ IntKind.i64.wrap ((↑i : Int) + (3 : Int)) < (↑l.length : Int) ∧ (1 : Nat) = (1 : Nat)) ∧
                             ((1 : Nat) ≠ (0 : Nat) ∧ (1 : Nat) = (1 : Nat) ∧ false = false) ∧
                              True ∧
                               True ∧
                                True ∧
                                 (false = false ∧ True) ∧
                                  D.val
                                    (Value.int IntKind.u32
                                     (ior IntKind.u32
                                      (ior IntKind.u32 (ior IntKind.u32 (ishl IntKind.u32 (IntKind.u32.wrap (l.getD (↑i : Int).toNat (0 : Int))) (24 : Int)) (ishl IntKind.u32 (IntKind.u32.wrap (l.getD (IntKind.i64.wrap ((↑i : Int) + (1 : Int))).toNat (0 : Int))) (16 : Int)))
                                       (ishl IntKind.u32 (IntKind.u32.wrap (l.getD (IntKind.i64.wrap ((↑i : Int) + (2 : Int))).toNat (0 : Int))) (8 : Int)))
                                      (IntKind.u32.wrap (l.getD (IntKind.i64.wrap ((↑i : Int) + (3 : Int))).toNat (0 : Int))))) =
                                   F) := by kernel_rfl

theorem rr_eq (x : W) (n : Nat) : x <<< (32 - n) ||| x >>> n = rr x n := by unfold rr; exact BitVec.or_comm _ _
set_option maxRecDepth 100000 in
theorem m40 : Meets Tryd.prog 40 sp40 := by
  refine meets_of_owed (C := c0) ⟨tab_ok, fun f s h => by cases h⟩ (by kernel_rfl) (by kernel_rfl : Tryd.prog.funcs[40]? = some Tryd.f40) (by kernel_rfl) (by kernel_rfl) (by kernel_rfl) _ ?_
  rintro _ ⟨x, n, rfl, h1, h2⟩
  refine ⟨fun _ => rfl, fun _ => none, ?_⟩
  show owed c0 (fun _ => none) Tryd.f40 [wd x, i64 (-(n : Int))] (wd (rr (toW (wd x)) (-(-(n : Int))).toNat))
  rw [vc40, toW_wd, Int.neg_neg, Int.toNat_natCast]
  have e1 : iand .u64 (IntKind.u64.wrap (-(n : Int))) 31 = ((32 - n : Nat) : Int) := by
    rw [show IntKind.u64.wrap (-(n : Int)) = ((18446744073709551616 - n : Nat) : Int) by rw [w64]; omega, show (31 : Int) = ((31 : Nat) : Int) from rfl, iandN .u64 (show _ < 18446744073709551616 by omega) (show 31 < 18446744073709551616 by decide)]
    congr 1
    rw [show (31 : Nat) = 2 ^ 5 - 1 from rfl, Nat.and_two_pow_sub_one_eq_mod]
    omega
  have e2 : IntKind.u64.wrap (32 - ((32 - n : Nat) : Int)) = (n : Int) := by rw [w64]; omega
  rw [e1, e2, shlW x (by omega), shrW x (by omega), orW, rr_eq]
  and_intros <;> first | rfl | omega | trivial

set_option maxRecDepth 100000 in
theorem m34 : Meets Tryd.prog 34 sp34 := by
  refine meets_of_owed (C := c34) ⟨tab_ok, lkS_ok ⟨m40, trivial⟩⟩ (by kernel_rfl) (by kernel_rfl : Tryd.prog.funcs[34]? = some Tryd.f34) (by kernel_rfl) (by kernel_rfl) (by kernel_rfl) _ ?_
  rintro _ ⟨x, n, rfl, h1, h2⟩
  refine ⟨fun _ => rfl, fun _ => none, ?_⟩
  show owed c34 (fun _ => none) Tryd.f34 [wd x, i64 (n : Int)] (wd (rr (toW (wd x)) ((n : Int)).toNat))
  rw [vc34]
  have e : IntKind.i64.wrap (0 - (n : Int)) = -(n : Int) := by rw [wi (by omega) (by omega)]; omega
  rw [e, Int.neg_neg]
  simp only [true_and, and_true]
  exact ⟨x, n, rfl, h1, h2⟩

set_option maxRecDepth 100000 in
theorem m35 : Meets Tryd.prog 35 sp35 := by
  refine meets_of_owed (C := c0) ⟨tab_ok, fun f s h => by cases h⟩ (by kernel_rfl) (by kernel_rfl : Tryd.prog.funcs[35]? = some Tryd.f35) (by kernel_rfl) (by kernel_rfl) (by kernel_rfl) _ ?_
  rintro _ ⟨x, n, rfl, h1, h2⟩
  refine ⟨fun _ => rfl, fun _ => none, ?_⟩
  show owed c0 (fun _ => none) Tryd.f35 [wd x, u64 (n : Int)] (wd (rr (toW (wd x)) ((n : Int)).toNat))
  rw [vc35, toW_wd, Int.toNat_natCast]
  rw [show IntKind.u64.wrap (32 - (n : Int)) = ((32 - n : Nat) : Int) by rw [w64]; omega, shlW x (by omega), shrW x (by omega), orW, ← rr_eq, BitVec.or_comm]
  and_intros <;> first | rfl | omega | trivial

theorem ch_eq (x y z : W) : z ^^^ (x &&& (y ^^^ z)) = chW x y z := by
  unfold chW
  ext i hi
  simp only [BitVec.getElem_xor, BitVec.getElem_and, BitVec.getElem_not]
  cases x[i] <;> cases y[i] <;> cases z[i] <;> rfl
theorem mj_eq (x y z : W) : (x &&& y) ||| (z &&& (x ||| y)) = mjW x y z := by
  unfold mjW
  ext i hi
  simp only [BitVec.getElem_xor, BitVec.getElem_and, BitVec.getElem_or]
  cases x[i] <;> cases y[i] <;> cases z[i] <;> rfl

set_option maxRecDepth 100000 in
theorem m36 : Meets Tryd.prog 36 sp36 := by
  refine meets_of_owed (C := c0) ⟨tab_ok, fun f s h => by cases h⟩ (by kernel_rfl) (by kernel_rfl : Tryd.prog.funcs[36]? = some Tryd.f36) (by kernel_rfl) (by kernel_rfl) (by kernel_rfl) _ ?_
  rintro _ ⟨x, y, z, rfl⟩
  refine ⟨fun _ => rfl, fun _ => none, ?_⟩
  show owed c0 (fun _ => none) Tryd.f36 [wd x, wd y, wd z] (wd (chW (toW (wd x)) (toW (wd y)) (toW (wd z))))
  rw [vc36, toW_wd, toW_wd, toW_wd, xorW, andW, xorW, ch_eq]
  and_intros <;> first | rfl | omega | trivial

set_option maxRecDepth 100000 in
theorem m37 : Meets Tryd.prog 37 sp37 := by
  refine meets_of_owed (C := c0) ⟨tab_ok, fun f s h => by cases h⟩ (by kernel_rfl) (by kernel_rfl : Tryd.prog.funcs[37]? = some Tryd.f37) (by kernel_rfl) (by kernel_rfl) (by kernel_rfl) _ ?_
  rintro _ ⟨x, y, z, rfl⟩
  refine ⟨fun _ => rfl, fun _ => none, ?_⟩
  show owed c0 (fun _ => none) Tryd.f37 [wd x, wd y, wd z] (wd (mjW (toW (wd x)) (toW (wd y)) (toW (wd z))))
  rw [vc37, toW_wd, toW_wd, toW_wd, orW, andW, andW, orW, mj_eq]
  and_intros <;> first | rfl | omega | trivial

theorem byte_at {l : List Int} (h : isBytes l) {i : Nat} (hi : i < l.length) : ∃ b : Nat, l.getD i 0 = (b : Int) ∧ b < 256 := by
  have := h (l.getD i 0) (by rw [List.getD_eq_getElem?_getD, List.getElem?_eq_getElem hi]; exact List.getElem_mem hi)
  exact ⟨(l.getD i 0).toNat, by omega, by omega⟩
theorem or_add {a b k : Nat} (hb : b < 2 ^ k) (ha : a % 2 ^ k = 0) : a ||| b = a + b := by
  have e : a = 2 ^ k * (a / 2 ^ k) := by have := Nat.div_add_mod a (2 ^ k); omega
  rw [e, Nat.two_pow_add_eq_or_of_lt hb]
theorem w4_eq {a b c d : Nat} (ha : a < 256) (hb : b < 256) (hc : c < 256) (hd : d < 256) :
    ior .u32 (ior .u32 (ior .u32 (ishl .u32 (IntKind.u32.wrap (a : Int)) 24) (ishl .u32 (IntKind.u32.wrap (b : Int)) 16)) (ishl .u32 (IntKind.u32.wrap (c : Int)) 8)) (IntKind.u32.wrap (d : Int)) = ((w4 a b c d).toNat : Int) := by
  have k : kb .u32 = 4294967296 := rfl
  have sh : ∀ (x m : Nat), x < 256 → m ≤ 24 → ishl .u32 (IntKind.u32.wrap (x : Int)) (m : Int) = ((x * 2 ^ m : Nat) : Int) := by
    intro x m hx hm
    have : x * 2 ^ m < 4294967296 := by
      have : 2 ^ m ≤ 2 ^ 24 := Nat.pow_le_pow_right (by decide) hm
      have h2 : x * 2 ^ m ≤ 255 * 2 ^ 24 := Nat.mul_le_mul (by omega) this
      omega
    rw [wrapN .u32 (by rw [k]; omega), ishlN .u32 (by show m ≤ 32; omega), wrapN .u32 (by rw [k]; exact this)]
  rw [show (24 : Int) = ((24 : Nat) : Int) from rfl, show (16 : Int) = ((16 : Nat) : Int) from rfl, show (8 : Int) = ((8 : Nat) : Int) from rfl,
    sh a 24 ha (by decide), sh b 16 hb (by decide), sh c 8 hc (by decide), wrapN .u32 (n := d) (by rw [k]; omega)]
  have o1 : a * 2 ^ 24 ||| b * 2 ^ 16 = a * 2 ^ 24 + b * 2 ^ 16 := or_add (k := 24) (by omega) (by omega)
  have o2 : (a * 2 ^ 24 + b * 2 ^ 16) ||| c * 2 ^ 8 = a * 2 ^ 24 + b * 2 ^ 16 + c * 2 ^ 8 := or_add (k := 16) (by omega) (by omega)
  have o3 : (a * 2 ^ 24 + b * 2 ^ 16 + c * 2 ^ 8) ||| d = a * 2 ^ 24 + b * 2 ^ 16 + c * 2 ^ 8 + d := or_add (k := 8) (by omega) (by omega)
  rw [iorN .u32 (by rw [k]; omega) (by rw [k]; omega), o1, iorN .u32 (by rw [k]; omega) (by rw [k]; omega), o2, iorN .u32 (by rw [k]; omega) (by rw [k]; omega), o3]
  unfold w4
  rw [Int.toNat_natCast, Int.toNat_natCast, Int.toNat_natCast, Int.toNat_natCast, ofW _ (by omega)]

set_option maxRecDepth 100000 in
theorem m28 : Meets Tryd.prog 28 sp28 := by
  refine meets_of_owed (C := c0) ⟨tab_ok, fun f s h => by cases h⟩ (by kernel_rfl) (by kernel_rfl : Tryd.prog.funcs[28]? = some Tryd.f28) (by kernel_rfl) (by kernel_rfl) (by kernel_rfl) _ ?_
  rintro _ ⟨l, i, rfl, hb, hi, hi2⟩
  refine ⟨fun _ => rfl, fun _ => none, ?_⟩
  show owed c0 (fun _ => none) Tryd.f28 [.ints .u8 l, i64 (i : Int)] (wd (wat l ((i : Int)).toNat))
  rw [vc28]
  have e1 : IntKind.i64.wrap ((i : Int) + 1) = ((i + 1 : Nat) : Int) := by rw [wi (by omega) (by omega)]; omega
  have e2 : IntKind.i64.wrap ((i : Int) + 2) = ((i + 2 : Nat) : Int) := by rw [wi (by omega) (by omega)]; omega
  have e3 : IntKind.i64.wrap ((i : Int) + 3) = ((i + 3 : Nat) : Int) := by rw [wi (by omega) (by omega)]; omega
  rw [e1, e2, e3, Int.toNat_natCast, Int.toNat_natCast, Int.toNat_natCast, Int.toNat_natCast]
  unfold wat
  obtain ⟨a, ea, ha⟩ := byte_at hb (i := i) (by omega)
  obtain ⟨b, eb, hbb⟩ := byte_at hb (i := i + 1) (by omega)
  obtain ⟨c, ec, hc⟩ := byte_at hb (i := i + 2) (by omega)
  obtain ⟨d, ed, hd⟩ := byte_at hb (i := i + 3) (by omega)
  rw [ea, eb, ec, ed, w4_eq ha hbb hc hd]
  and_intros <;> first | rfl | omega | trivial

end Go.Proofs.YtcdjhhepgkcabaaDoor
