import Derived.Test.YtcdjhhepgkcabaaNm
/- LimbHalves: what the halves of package limb compute, and the law. -/
namespace Go.Proofs.Ytcdjhhepgkcabaa
open Go Go.Vg

theorem sub_at (c n v x : Nat) (hn : 0 < n) : v / (c ^ n) ^ (x / n) % c ^ n / c ^ (x % n) % c = v / c ^ x % c := by
  have hr : x % n < n := Nat.mod_lt _ hn
  have e1 : c ^ n = c ^ (x % n) * c ^ (n - x % n) := by rw [← Nat.pow_add, show x % n + (n - x % n) = n by omega]
  have e2 : v / (c ^ n) ^ (x / n) / c ^ (x % n) = v / c ^ x := by
    rw [Nat.div_div_eq_div_mul, ← Nat.pow_mul, ← Nat.pow_add, Nat.div_add_mod]
  generalize v / (c ^ n) ^ (x / n) = w at e2 ⊢
  rw [show w % c ^ n = w % (c ^ (x % n) * c ^ (n - x % n)) by rw [← e1], Nat.mod_mul_right_div_self, e2, Nat.mod_mod_of_dvd]
  exact ⟨c ^ (n - x % n - 1), by rw [← Nat.pow_succ']; congr 1; omega⟩

/-- one more part of size c in words of size c ^ k. -/
theorem nB_grow (c k n v i s : Nat) (hc : 0 < c) (hk : 0 < k) (hv : v < c ^ i) (hs : s < c) (hi : i < k * n) :
    nB (c ^ k) n (v + c ^ i * s) = (nB (c ^ k) n v).set (i / k) ((v / (c ^ k) ^ (i / k) % c ^ k + c ^ (i % k) * s : Nat) : Int) ∧ v / (c ^ k) ^ (i / k) % c ^ k < c ^ (i % k) ∧ v / (c ^ k) ^ (i / k) % c ^ k + c ^ (i % k) * s < c ^ (i % k + 1) := by
  have hM : 0 < c ^ k := Nat.pow_pos hc
  have hr : i % k < k := Nat.mod_lt _ hk
  have e0 : c ^ i = (c ^ k) ^ (i / k) * c ^ (i % k) := by rw [← Nat.pow_mul, ← Nat.pow_add, Nat.div_add_mod]
  have hq : v / (c ^ k) ^ (i / k) < c ^ (i % k) := Nat.div_lt_of_lt_mul (by rw [← e0]; exact hv)
  have hlt : c ^ (i % k) ≤ c ^ k := Nat.pow_le_pow_right hc (by omega)
  have hqm : v / (c ^ k) ^ (i / k) % c ^ k = v / (c ^ k) ^ (i / k) := Nat.mod_eq_of_lt (by omega)
  have hsum : v / (c ^ k) ^ (i / k) + c ^ (i % k) * s < c ^ (i % k + 1) := by
    rw [Nat.pow_succ]
    calc v / (c ^ k) ^ (i / k) + c ^ (i % k) * s < c ^ (i % k) + c ^ (i % k) * s := by omega
      _ = c ^ (i % k) * (s + 1) := by rw [Nat.mul_add, Nat.mul_one, Nat.add_comm]
      _ ≤ c ^ (i % k) * c := Nat.mul_le_mul_left _ hs
  refine ⟨?_, by rw [hqm]; exact hq, by rw [hqm]; exact hsum⟩
  apply ext_getD
  · simp [nB_length]
  intro j hj
  rw [nB_length] at hj
  have hin : i / k < n := Nat.div_lt_of_lt_mul hi
  rw [nB_get _ _ _ _ hj, getD_set, nB_length]
  by_cases hjq : i / k = j
  · subst hjq
    rw [if_pos ⟨rfl, hj⟩, hqm, e0, Nat.mul_assoc, Nat.add_mul_div_left _ _ (Nat.pow_pos hM)]
    rw [Nat.mod_eq_of_lt]
    exact Nat.lt_of_lt_of_le hsum (Nat.pow_le_pow_right hc (by omega))
  · rw [if_neg (by omega), nB_get _ _ _ _ hj]
    congr 1
    rcases Nat.lt_or_ge j (i / k) with h | h
    · have e1 : (c ^ k) ^ (i / k) = (c ^ k) ^ j * (c ^ k * (c ^ k) ^ (i / k - j - 1)) := by
        rw [← Nat.pow_succ', ← Nat.pow_add]
        congr 1
        omega
      rw [e0, e1, Nat.mul_assoc, Nat.mul_assoc, Nat.add_mul_div_left _ _ (Nat.pow_pos hM), Nat.mul_assoc, Nat.add_mul_mod_self_left]
    · have h3 : c ^ (i + 1) ≤ (c ^ k) ^ j := by
        rw [← Nat.pow_mul]
        apply Nat.pow_le_pow_right hc
        have h4 := Nat.div_add_mod i k
        have h5 : k * (i / k + 1) ≤ k * j := Nat.mul_le_mul_left _ (by omega)
        rw [Nat.mul_add, Nat.mul_one] at h5
        omega
      have h6 : v + c ^ i * s < c ^ (i + 1) := by
        rw [Nat.pow_succ]
        calc v + c ^ i * s < c ^ i + c ^ i * s := by omega
          _ = c ^ i * (s + 1) := by rw [Nat.mul_add, Nat.mul_one, Nat.add_comm]
          _ ≤ c ^ i * c := Nat.mul_le_mul_left _ hs
      have h7 : v ≤ v + c ^ i * s := Nat.le_add_right _ _
      rw [Nat.div_eq_of_lt (by omega), Nat.div_eq_of_lt (by omega)]

abbrev b32 (l : List Int) : D := .arr .u8 32 l
abbrev wv (l : List Int) : Nat := vB 18446744073709551616 l
abbrev bv (l : List Int) : Nat := vB 256 l
def okb (l : List Int) : Prop := ∀ x ∈ l, 0 ≤ x ∧ x < 256

def sp22 : Go.Vg.Spec := ⟨fun ds => ∃ l m, ds = [num4 l, num4 m] ∧ l.length = 4 ∧ m.length = 4, fun ds => num8 (arrOf (ds.headD default) ++ arrOf (ds.getD 1 default)), true, [42, 42]⟩
def sp23 : Go.Vg.Spec := ⟨fun ds => ∃ l, ds = [num4 l] ∧ okw l ∧ l.length = 4, fun ds => b32 (nB 256 32 (wv (arrOf (ds.headD default)))), true, [42]⟩
def sp24 : Go.Vg.Spec := ⟨fun ds => ∃ l, ds = [b32 l] ∧ okb l ∧ l.length = 32, fun ds => num4 (nB 18446744073709551616 4 (bv (arrOf (ds.headD default)))), true, [43]⟩
def sp28 : Go.Vg.Spec := ⟨fun ds => ∃ l, ds = [num8 l] ∧ l.length = 8, fun ds => num4 ((arrOf (ds.headD default)).take 4), true, [48]⟩
def sp29 : Go.Vg.Spec := ⟨fun ds => ∃ l, ds = [num8 l] ∧ l.length = 8, fun ds => num4 ((arrOf (ds.headD default)).drop 4), true, [48]⟩

def inv23 (l : List Int) : Nat → Option Inv
  | 3 => some ⟨Nat, fun i => [(5, .d (i64 i))], fun i => [(3, .fix (.arr .u8 32 (nB 256 i (wv l) ++ List.replicate (32 - i) 0)))], fun s => (slotN s 5).toNat, fun _ i => i ≤ 32, fun i => 32 - i⟩
  | _ => none
def inv24 (l : List Int) : Nat → Option Inv
  | 3 => some ⟨Nat, fun i => [(7, .d (i64 i))], fun i => [(3, .fix (.arr .u64 4 (nB 18446744073709551616 4 (bv (l.take i)))))], fun s => (slotN s 7).toNat, fun _ i => i ≤ 32, fun i => 32 - i⟩
  | _ => none
--KEEP Go.Vg.eqB dgP Go.Vg.vB Go.Vg.nB Go.Vg.okd Go.Vg.okw okb Go.Vg.dg lenOk lenS
set_option maxRecDepth 100000 in
theorem vc22  (a b c d e f g h : Int) (F : D)  :
    (owed c60 (fun _ => none) Try.f22 [num4 [a, b, c, d], num4 [e, f, g, h]] F) = (
 (True ∧ false = false) ∧
   (True ∧ false = false) ∧
    (True ∧ (8 : Nat) ≠ (0 : Nat)) ∧
     (True ∧ (8 : Nat) ≠ (0 : Nat)) ∧
      ((0 : Int) ≤ (0 : Int) ∧ (0 : Int) ≤ (4 : Int) ∧ (4 : Int) ≤ (↑(8 : Nat) : Int) ∧ (8 : Nat) = (8 : Nat) ∧ (1 : Nat) = (1 : Nat)) ∧
       ((0 : Int) ≤ (0 : Int) ∧ (0 : Int) ≤ (↑(4 : Nat) : Int) ∧ (↑(4 : Nat) : Int) ≤ (↑(4 : Nat) : Int) ∧ (4 : Nat) = (4 : Nat) ∧ (1 : Nat) = (1 : Nat)) ∧
        (IntKind.u64 = IntKind.u64 ∧ (1 : Nat) = (1 : Nat)) ∧
         ((0 : Int) ≤ (4 : Int) ∧ (4 : Int) ≤ (↑(8 : Nat) : Int) ∧ (↑(8 : Nat) : Int) ≤ (↑(8 : Nat) : Int) ∧ (8 : Nat) = (8 : Nat) ∧ (1 : Nat) = (1 : Nat)) ∧
          ((0 : Int) ≤ (0 : Int) ∧ (0 : Int) ≤ (↑(4 : Nat) : Int) ∧ (↑(4 : Nat) : Int) ≤ (↑(4 : Nat) : Int) ∧ (4 : Nat) = (4 : Nat) ∧ (1 : Nat) = (1 : Nat)) ∧
           (IntKind.u64 = IntKind.u64 ∧ (1 : Nat) = (1 : Nat)) ∧
            ((8 : Nat) ≠ (0 : Nat) ∧ (8 : Nat) = (8 : Nat) ∧ true = true) ∧
             (Sk.arr (8 : Nat) = Sk.arr (8 : Nat) ∧ (8 : Nat) ≠ (0 : Nat) ∧ (8 : Nat) = (8 : Nat) ∧ false = false) ∧
              (((8 : Nat) ≠ (0 : Nat) ∧ (8 : Nat) = (8 : Nat) ∧ true = true) ∧ True) ∧
               D.arr IntKind.u64 (8 : Nat)
                 (List.take (4 : Nat)
                    (List.take ((List.take ((↑(4 : Nat) : Int).toNat - (0 : Nat)) [a, b, c, d]).length.min (4 : Nat)) (List.take ((↑(4 : Nat) : Int).toNat - (0 : Nat)) [a, b, c, d]) ++
                     List.drop ((0 : Nat) + (List.take ((↑(4 : Nat) : Int).toNat - (0 : Nat)) [a, b, c, d]).length.min (4 : Nat)) [(0 : Int), (0 : Int), (0 : Int), (0 : Int), (0 : Int), (0 : Int), (0 : Int), (0 : Int)]) ++
                   List.take ((List.take ((↑(4 : Nat) : Int).toNat - (0 : Nat)) [e, f, g, h]).length.min ((↑(8 : Nat) : Int).toNat - (4 : Nat))) (List.take ((↑(4 : Nat) : Int).toNat - (0 : Nat)) [e, f, g, h]) ++
                  List.drop ((4 : Nat) + (List.take ((↑(4 : Nat) : Int).toNat - (0 : Nat)) [e, f, g, h]).length.min ((↑(8 : Nat) : Int).toNat - (4 : Nat)))
                   (List.take ((List.take ((↑(4 : Nat) : Int).toNat - (0 : Nat)) [a, b, c, d]).length.min (4 : Nat)) (List.take ((↑(4 : Nat) : Int).toNat - (0 : Nat)) [a, b, c, d]) ++
                    List.drop ((0 : Nat) + (List.take ((↑(4 : Nat) : Int).toNat - (0 : Nat)) [a, b, c, d]).length.min (4 : Nat)) [(0 : Int), (0 : Int), (0 : Int), (0 : Int), (0 : Int), (0 : Int), (0 : Int), (0 : Int)])) =
                F) := by kernel_rfl
set_option maxRecDepth 100000 in
theorem vc28  (a b c d e f g h : Int) (F : D)  :
    (owed c60 (fun _ => none) Try.f28 [num8 [a, b, c, d, e, f, g, h]] F) = (
 (True ∧ false = false) ∧
   (True ∧ (4 : Nat) ≠ (0 : Nat)) ∧
    ((0 : Int) ≤ (0 : Int) ∧ (0 : Int) < (↑(8 : Nat) : Int) ∧ (8 : Nat) = (8 : Nat) ∧ (1 : Nat) = (1 : Nat)) ∧
     ((1 : Nat) ≠ (0 : Nat) ∧ (1 : Nat) = (1 : Nat) ∧ false = false) ∧
      ((0 : Int) ≤ (1 : Int) ∧ (1 : Int) < (↑(8 : Nat) : Int) ∧ (8 : Nat) = (8 : Nat) ∧ (1 : Nat) = (1 : Nat)) ∧
       ((1 : Nat) ≠ (0 : Nat) ∧ (1 : Nat) = (1 : Nat) ∧ false = false) ∧
        ((0 : Int) ≤ (2 : Int) ∧ (2 : Int) < (↑(8 : Nat) : Int) ∧ (8 : Nat) = (8 : Nat) ∧ (1 : Nat) = (1 : Nat)) ∧
         ((1 : Nat) ≠ (0 : Nat) ∧ (1 : Nat) = (1 : Nat) ∧ false = false) ∧
          ((0 : Int) ≤ (3 : Int) ∧ (3 : Int) < (↑(8 : Nat) : Int) ∧ (8 : Nat) = (8 : Nat) ∧ (1 : Nat) = (1 : Nat)) ∧
           ((1 : Nat) ≠ (0 : Nat) ∧ (1 : Nat) = (1 : Nat) ∧ false = false) ∧
            ((1 : Nat) = (1 : Nat) ∧ false = false ∧ ((0 : Nat) < (4 : Nat) ∧ ([] : List Nat) = [] ∧ true = true) ∧ false = false ∧ ((1 : Nat) < (4 : Nat) ∧ ([] : List Nat) = [] ∧ true = true) ∧ false = false ∧ ((2 : Nat) < (4 : Nat) ∧ ([] : List Nat) = [] ∧ true = true) ∧ false = false ∧ ((3 : Nat) < (4 : Nat) ∧ ([] : List Nat) = [] ∧ true = true) ∧ True) ∧
             (Sk.arr (4 : Nat) = Sk.arr (4 : Nat) ∧ (4 : Nat) ≠ (0 : Nat) ∧ (4 : Nat) = (4 : Nat) ∧ false = false) ∧ (((4 : Nat) ≠ (0 : Nat) ∧ (4 : Nat) = (4 : Nat) ∧ true = true) ∧ True) ∧ D.arr IntKind.u64 (4 : Nat) [a, b, c, d] = F) := by kernel_rfl
set_option maxRecDepth 100000 in
theorem vc29  (a b c d e f g h : Int) (F : D)  :
    (owed c60 (fun _ => none) Try.f29 [num8 [a, b, c, d, e, f, g, h]] F) = (
 (True ∧ false = false) ∧
   (True ∧ (4 : Nat) ≠ (0 : Nat)) ∧
    ((0 : Int) ≤ (4 : Int) ∧ (4 : Int) < (↑(8 : Nat) : Int) ∧ (8 : Nat) = (8 : Nat) ∧ (1 : Nat) = (1 : Nat)) ∧
     ((1 : Nat) ≠ (0 : Nat) ∧ (1 : Nat) = (1 : Nat) ∧ false = false) ∧
      ((0 : Int) ≤ (5 : Int) ∧ (5 : Int) < (↑(8 : Nat) : Int) ∧ (8 : Nat) = (8 : Nat) ∧ (1 : Nat) = (1 : Nat)) ∧
       ((1 : Nat) ≠ (0 : Nat) ∧ (1 : Nat) = (1 : Nat) ∧ false = false) ∧
        ((0 : Int) ≤ (6 : Int) ∧ (6 : Int) < (↑(8 : Nat) : Int) ∧ (8 : Nat) = (8 : Nat) ∧ (1 : Nat) = (1 : Nat)) ∧
         ((1 : Nat) ≠ (0 : Nat) ∧ (1 : Nat) = (1 : Nat) ∧ false = false) ∧
          ((0 : Int) ≤ (7 : Int) ∧ (7 : Int) < (↑(8 : Nat) : Int) ∧ (8 : Nat) = (8 : Nat) ∧ (1 : Nat) = (1 : Nat)) ∧
           ((1 : Nat) ≠ (0 : Nat) ∧ (1 : Nat) = (1 : Nat) ∧ false = false) ∧
            ((1 : Nat) = (1 : Nat) ∧ false = false ∧ ((0 : Nat) < (4 : Nat) ∧ ([] : List Nat) = [] ∧ true = true) ∧ false = false ∧ ((1 : Nat) < (4 : Nat) ∧ ([] : List Nat) = [] ∧ true = true) ∧ false = false ∧ ((2 : Nat) < (4 : Nat) ∧ ([] : List Nat) = [] ∧ true = true) ∧ false = false ∧ ((3 : Nat) < (4 : Nat) ∧ ([] : List Nat) = [] ∧ true = true) ∧ True) ∧
             (Sk.arr (4 : Nat) = Sk.arr (4 : Nat) ∧ (4 : Nat) ≠ (0 : Nat) ∧ (4 : Nat) = (4 : Nat) ∧ false = false) ∧ (((4 : Nat) ≠ (0 : Nat) ∧ (4 : Nat) = (4 : Nat) ∧ true = true) ∧ True) ∧ D.arr IntKind.u64 (4 : Nat) [e, f, g, h] = F) := by kernel_rfl
set_option maxRecDepth 100000 in
theorem vc23  (l : List Int) (F : D)  :
    (owed c60 (inv23 l) Try.f23 [num4 l] F) = (
 (True ∧ false = false) ∧
   (True ∧ (32 : Nat) ≠ (0 : Nat)) ∧
    (True ∧ (32 : Nat) ≠ (0 : Nat)) ∧
     True ∧
      (((AV.d (D.val (Value.int IntKind.i64 (0 : Int))) = AV.d (D.val (Value.int IntKind.i64 (↑(Int.toNat (0 : Int)) : Int))) ∧ True) ∧
         (some (Blk.fix (D.arr IntKind.u64 (4 : Nat) l)) = some (Blk.fix (D.arr IntKind.u64 (4 : Nat) l)) ∧
           some
              (Blk.fix
               (D.arr IntKind.u8 (32 : Nat)
                [(0 : Int), (0 : Int), (0 : Int), (0 : Int), (0 : Int), (0 : Int), (0 : Int), (0 : Int), (0 : Int), (0 : Int), (0 : Int), (0 : Int), (0 : Int), (0 : Int), (0 : Int), (0 : Int), (0 : Int), (0 : Int), (0 : Int), (0 : Int), (0 : Int), (0 : Int), (0 : Int), (0 : Int), (0 : Int), (0 : Int), (0 : Int), (0 : Int), (0 : Int), (0 : Int), (0 : Int), (0 : Int)])) =
             some
              (Blk.fix
               (D.arr IntKind.u8 (32 : Nat)
                [(0 : Int), (0 : Int), (0 : Int), (0 : Int), (0 : Int), (0 : Int), (0 : Int), (0 : Int), (0 : Int), (0 : Int), (0 : Int), (0 : Int), (0 : Int), (0 : Int), (0 : Int), (0 : Int), (0 : Int), (0 : Int), (0 : Int), (0 : Int), (0 : Int), (0 : Int), (0 : Int), (0 : Int), (0 : Int), (0 : Int), (0 : Int), (0 : Int), (0 : Int), (0 : Int), (0 : Int), (0 : Int)])) ∧
            some
               (Blk.fix
                (D.arr IntKind.u8 (32 : Nat)
                 [(0 : Int), (0 : Int), (0 : Int), (0 : Int), (0 : Int), (0 : Int), (0 : Int), (0 : Int), (0 : Int), (0 : Int), (0 : Int), (0 : Int), (0 : Int), (0 : Int), (0 : Int), (0 : Int), (0 : Int), (0 : Int), (0 : Int), (0 : Int), (0 : Int), (0 : Int), (0 : Int), (0 : Int), (0 : Int), (0 : Int), (0 : Int), (0 : Int), (0 : Int), (0 : Int), (0 : Int), (0 : Int)])) =
              some
               (Blk.fix
                (D.arr IntKind.u8 (32 : Nat)
                 (nB (256 : Nat) (Int.toNat (0 : Int)) (vB (18446744073709551616 : Nat) l) ++
                  [(0 : Int), (0 : Int), (0 : Int), (0 : Int), (0 : Int), (0 : Int), (0 : Int), (0 : Int), (0 : Int), (0 : Int), (0 : Int), (0 : Int), (0 : Int), (0 : Int), (0 : Int), (0 : Int), (0 : Int), (0 : Int), (0 : Int), (0 : Int), (0 : Int), (0 : Int), (0 : Int), (0 : Int), (0 : Int), (0 : Int), (0 : Int), (0 : Int), (0 : Int), (0 : Int), (0 : Int), (0 : Int)]))) ∧
             True) ∧
          true = true) ∧
        Int.toNat (0 : Int) ≤ (32 : Nat)) ∧
       ∀ (x : Nat),
        x ≤ (32 : Nat) →
         true = true ∧
          True ∧
           match decide ((↑x : Int) < (32 : Int)) with
           | true =>
            True ∧
             True ∧
              True ∧
               True ∧
                (8 : Int) ≠ (0 : Int) ∧
                 ((0 : Int) ≤ IntKind.i64.wrap ((↑x : Int).tdiv (8 : Int)) ∧ IntKind.i64.wrap ((↑x : Int).tdiv (8 : Int)) < (↑(4 : Nat) : Int) ∧ (4 : Nat) = (4 : Nat) ∧ (1 : Nat) = (1 : Nat)) ∧
                  ((1 : Nat) ≠ (0 : Nat) ∧ (1 : Nat) = (1 : Nat) ∧ false = false) ∧
                   True ∧
                    (8 : Int) ≠ (0 : Int) ∧
                     True ∧
                      True ∧
                       (0 : Int) ≤ IntKind.u64.wrap (IntKind.i64.wrap ((↑x : Int).tmod (8 : Int) * (8 : Int))) ∧
                        True ∧
                         ((0 : Int) ≤ (↑x : Int) ∧ (↑x : Int) < (↑(32 : Nat) : Int) ∧ (32 : Nat) = (32 : Nat) ∧ (1 : Nat) = (1 : Nat)) ∧
                          (((↑x : Int).toNat < (32 : Nat) ∧ ([] : List Nat) = [] ∧ true = true) ∧ (1 : Nat) ≠ (0 : Nat) ∧ (1 : Nat) = (1 : Nat) ∧ false = false) ∧
                           True ∧
                            True ∧
                             ((AV.d (D.val (Value.int IntKind.i64 (IntKind.i64.wrap ((↑x : Int) + (1 : Int))))) = AV.d (D.val (Value.int IntKind.i64 (↑(IntKind.i64.wrap ((↑x : Int) + (1 : Int))).toNat : Int))) ∧ True) ∧
                               (some (Blk.fix (D.arr IntKind.u64 (4 : Nat) l)) = some (Blk.fix (D.arr IntKind.u64 (4 : Nat) l)) ∧
                                 some
                                    (Blk.fix
                                     (D.arr IntKind.u8 (32 : Nat)
                                      [(0 : Int), (0 : Int), (0 : Int), (0 : Int), (0 : Int), (0 : Int), (0 : Int), (0 : Int), (0 : Int), (0 : Int), (0 : Int), (0 : Int), (0 : Int), (0 : Int), (0 : Int), (0 : Int), (0 : Int), (0 : Int), (0 : Int), (0 : Int), (0 : Int), (0 : Int), (0 : Int), (0 : Int), (0 : Int), (0 : Int), (0 : Int), (0 : Int), (0 : Int),
                                       (0 : Int), (0 : Int), (0 : Int)])) =
                                   some
                                    (Blk.fix
                                     (D.arr IntKind.u8 (32 : Nat)
                                      [(0 : Int), (0 : Int), (0 : Int), (0 : Int), (0 : Int), (0 : Int), (0 : Int), (0 : Int), (0 : Int), (0 : Int), (0 : Int), (0 : Int), (0 : Int), (0 : Int), (0 : Int), (0 : Int), (0 : Int), (0 : Int), (0 : Int), (0 : Int), (0 : Int), (0 : Int), (0 : Int), (0 : Int), (0 : Int), (0 : Int), (0 : Int), (0 : Int), (0 : Int),
                                       (0 : Int), (0 : Int), (0 : Int)])) ∧
                                  some
                                     (Blk.fix
                                      (D.arr IntKind.u8 (32 : Nat)
                                       ((nB (256 : Nat) x (vB (18446744073709551616 : Nat) l) ++ List.replicate ((32 : Nat) - x) (0 : Int)).set (↑x : Int).toNat (IntKind.u8.wrap (ishr IntKind.u64 (l.getD (IntKind.i64.wrap ((↑x : Int).tdiv (8 : Int))).toNat (0 : Int)) (IntKind.u64.wrap (IntKind.i64.wrap ((↑x : Int).tmod (8 : Int) * (8 : Int))))))))) =
                                    some (Blk.fix (D.arr IntKind.u8 (32 : Nat) (nB (256 : Nat) (IntKind.i64.wrap ((↑x : Int) + (1 : Int))).toNat (vB (18446744073709551616 : Nat) l) ++ List.replicate ((32 : Nat) - (IntKind.i64.wrap ((↑x : Int) + (1 : Int))).toNat) (0 : Int)))) ∧
                                   True) ∧
                                true = true) ∧
                              (IntKind.i64.wrap ((↑x : Int) + (1 : Int))).toNat ≤ (32 : Nat) ∧ (32 : Nat) - (IntKind.i64.wrap ((↑x : Int) + (1 : Int))).toNat < (32 : Nat) - x
           | false =>
            ((32 : Nat) ≠ (0 : Nat) ∧ (32 : Nat) = (32 : Nat) ∧ true = true) ∧
             (Sk.arr (32 : Nat) = Sk.arr (32 : Nat) ∧ (32 : Nat) ≠ (0 : Nat) ∧ (32 : Nat) = (32 : Nat) ∧ false = false) ∧ (((32 : Nat) ≠ (0 : Nat) ∧ (32 : Nat) = (32 : Nat) ∧ true = true) ∧ True) ∧ D.arr IntKind.u8 (32 : Nat) (nB (256 : Nat) x (vB (18446744073709551616 : Nat) l) ++ List.replicate ((32 : Nat) - x) (0 : Int)) = F) := by kernel_rfl
set_option maxRecDepth 100000 in
theorem vc24  (l : List Int) (F : D)  :
    (owed c60 (inv24 l) Try.f24 [b32 l] F) = (
 (True ∧ false = false) ∧
   (True ∧ (4 : Nat) ≠ (0 : Nat)) ∧
    (True ∧ (4 : Nat) ≠ (0 : Nat)) ∧
     ((32 : Nat) ≠ (0 : Nat) ∧ (32 : Nat) = (32 : Nat) ∧ true = true) ∧
      True ∧
       (((AV.d (D.val (Value.int IntKind.i64 (0 : Int))) = AV.d (D.val (Value.int IntKind.i64 (↑(Int.toNat (0 : Int)) : Int))) ∧ True) ∧
          (some (Blk.fix (D.arr IntKind.u8 (32 : Nat) l)) = some (Blk.fix (D.arr IntKind.u8 (32 : Nat) l)) ∧
            some (Blk.fix (D.arr IntKind.u64 (4 : Nat) [(0 : Int), (0 : Int), (0 : Int), (0 : Int)])) = some (Blk.fix (D.arr IntKind.u64 (4 : Nat) [(0 : Int), (0 : Int), (0 : Int), (0 : Int)])) ∧
             some (Blk.fix (D.arr IntKind.u64 (4 : Nat) [(0 : Int), (0 : Int), (0 : Int), (0 : Int)])) = some (Blk.fix (D.arr IntKind.u64 (4 : Nat) (nB (18446744073709551616 : Nat) (4 : Nat) (vB (256 : Nat) (List.take (Int.toNat (0 : Int)) l))))) ∧ True) ∧
           true = true) ∧
         Int.toNat (0 : Int) ≤ (32 : Nat)) ∧
        ∀ (x : Nat),
         x ≤ (32 : Nat) →
          true = true ∧
           True ∧
            match decide ((↑x : Int) < (32 : Int)) with
            | true =>
             True ∧
              ((0 : Int) ≤ (↑x : Int) ∧ (↑x : Int) < (↑(32 : Nat) : Int) ∧ (32 : Nat) = (32 : Nat) ∧ Ty.int IntKind.u8 = Ty.int IntKind.u8 ∧ (1 : Nat) = (1 : Nat)) ∧
               True ∧
                True ∧
                 True ∧
                  (8 : Int) ≠ (0 : Int) ∧
                   ((0 : Int) ≤ IntKind.i64.wrap ((↑x : Int).tdiv (8 : Int)) ∧ IntKind.i64.wrap ((↑x : Int).tdiv (8 : Int)) < (↑(4 : Nat) : Int) ∧ (4 : Nat) = (4 : Nat) ∧ (1 : Nat) = (1 : Nat)) ∧
                    ((1 : Nat) ≠ (0 : Nat) ∧ (1 : Nat) = (1 : Nat) ∧ false = false) ∧
                     True ∧
                      True ∧
                       True ∧
                        (8 : Int) ≠ (0 : Int) ∧
                         True ∧
                          True ∧
                           (0 : Int) ≤ IntKind.u64.wrap (IntKind.i64.wrap ((↑x : Int).tmod (8 : Int) * (8 : Int))) ∧
                            True ∧
                             ((0 : Int) ≤ IntKind.i64.wrap ((↑x : Int).tdiv (8 : Int)) ∧ IntKind.i64.wrap ((↑x : Int).tdiv (8 : Int)) < (↑(4 : Nat) : Int) ∧ (4 : Nat) = (4 : Nat) ∧ (1 : Nat) = (1 : Nat)) ∧
                              (((IntKind.i64.wrap ((↑x : Int).tdiv (8 : Int))).toNat < (4 : Nat) ∧ ([] : List Nat) = [] ∧ true = true) ∧ (1 : Nat) ≠ (0 : Nat) ∧ (1 : Nat) = (1 : Nat) ∧ false = false) ∧
                               True ∧
                                True ∧
                                 ((AV.d (D.val (Value.int IntKind.i64 (IntKind.i64.wrap ((↑x : Int) + (1 : Int))))) = AV.d (D.val (Value.int IntKind.i64 (↑(IntKind.i64.wrap ((↑x : Int) + (1 : Int))).toNat : Int))) ∧ True) ∧
                                   (some (Blk.fix (D.arr IntKind.u8 (32 : Nat) l)) = some (Blk.fix (D.arr IntKind.u8 (32 : Nat) l)) ∧
                                     some (Blk.fix (D.arr IntKind.u64 (4 : Nat) [(0 : Int), (0 : Int), (0 : Int), (0 : Int)])) = some (Blk.fix (D.arr IntKind.u64 (4 : Nat) [(0 : Int), (0 : Int), (0 : Int), (0 : Int)])) ∧
                                      some
                                         (Blk.fix
                                          (D.arr IntKind.u64 (4 : Nat)
                                           ((nB (18446744073709551616 : Nat) (4 : Nat) (vB (256 : Nat) (List.take x l))).set (IntKind.i64.wrap ((↑x : Int).tdiv (8 : Int))).toNat
                                            (ior IntKind.u64 ((nB (18446744073709551616 : Nat) (4 : Nat) (vB (256 : Nat) (List.take x l))).getD (IntKind.i64.wrap ((↑x : Int).tdiv (8 : Int))).toNat (0 : Int))
                                             (ishl IntKind.u64 (IntKind.u64.wrap (l.getD (↑x : Int).toNat (0 : Int))) (IntKind.u64.wrap (IntKind.i64.wrap ((↑x : Int).tmod (8 : Int) * (8 : Int))))))))) =
                                        some (Blk.fix (D.arr IntKind.u64 (4 : Nat) (nB (18446744073709551616 : Nat) (4 : Nat) (vB (256 : Nat) (List.take (IntKind.i64.wrap ((↑x : Int) + (1 : Int))).toNat l))))) ∧
                                       True) ∧
                                    true = true) ∧
                                  (IntKind.i64.wrap ((↑x : Int) + (1 : Int))).toNat ≤ (32 : Nat) ∧ (32 : Nat) - (IntKind.i64.wrap ((↑x : Int) + (1 : Int))).toNat < (32 : Nat) - x
            | false => ((4 : Nat) ≠ (0 : Nat) ∧ (4 : Nat) = (4 : Nat) ∧ true = true) ∧ (Sk.arr (4 : Nat) = Sk.arr (4 : Nat) ∧ (4 : Nat) ≠ (0 : Nat) ∧ (4 : Nat) = (4 : Nat) ∧ false = false) ∧ (((4 : Nat) ≠ (0 : Nat) ∧ (4 : Nat) = (4 : Nat) ∧ true = true) ∧ True) ∧ D.arr IntKind.u64 (4 : Nat) (nB (18446744073709551616 : Nat) (4 : Nat) (vB (256 : Nat) (List.take x l))) = F) := by kernel_rfl

noncomputable def c6 : Ctx := ⟨tab, lkS [(18, sp18), (19, sp19), (20, sp20), (21, sp21), (22, sp22), (23, sp23), (24, sp24), (25, sp25), (26, sp26), (27, sp27), (28, sp28), (29, sp29)], [], []⟩
def inv6 (l s : List Int) : Nat → Option Inv
  | 3 => some ⟨Nat, fun i => [(17, .d (i64 i))], fun i => [(7, .fix (.arr .u8 32 (nB 256 32 (wv l % 2 ^ i))))], fun s => (slotN s 17).toNat, fun _ i => i ≤ 256, fun i => 256 - i⟩
  | 9 => some ⟨Int, fun i => [(11, .d (i64 i)), (10, .d (dgs (dg (bv (s.drop (i + 1).toNat)))))], fun _ => [], fun s => slotN s 11, fun _ i => -1 ≤ i ∧ i ≤ 31, fun i => (i + 1).toNat⟩
  | _ => none
set_option maxRecDepth 100000 in
theorem vc6  (l m s : List Int)  :
    (owed c6 (inv6 l s) Try.f6 [num4 l, num4 m, b32 s] (bl true)) = (
 (True ∧ false = false) ∧
   (True ∧ false = false) ∧
    (True ∧ false = false) ∧
     True ∧
      (True ∧ (32 : Nat) ≠ (0 : Nat)) ∧
       ((4 : Nat) ≠ (0 : Nat) ∧ (4 : Nat) = (4 : Nat) ∧ true = true) ∧
        (∃ (l_1 : List Int), [D.arr IntKind.u64 (4 : Nat) l] = [D.arr IntKind.u64 (4 : Nat) l_1] ∧ okw l_1 ∧ l_1.length = (4 : Nat)) ∧
         (∃ (l_1 : List Int), ∃ (n : Int), [D.ints IntKind.i64 (dg (vB (18446744073709551616 : Nat) l)), D.val (Value.int IntKind.i64 (256 : Int))] = [D.ints IntKind.i64 l_1, D.val (Value.int IntKind.i64 n)] ∧ okd l_1 ∧ lenOk l_1 ∧ (0 : Int) ≤ n ∧ n ≤ (16777216 : Int)) ∧
          True ∧
           True ∧
            (((AV.d (D.val (Value.int IntKind.i64 (0 : Int))) = AV.d (D.val (Value.int IntKind.i64 (↑(Int.toNat (0 : Int)) : Int))) ∧ True) ∧
               (some (Blk.fix (D.arr IntKind.u64 (4 : Nat) l)) = some (Blk.fix (D.arr IntKind.u64 (4 : Nat) l)) ∧
                 some (Blk.fix (D.arr IntKind.u64 (4 : Nat) m)) = some (Blk.fix (D.arr IntKind.u64 (4 : Nat) m)) ∧
                  some (Blk.fix (D.arr IntKind.u8 (32 : Nat) s)) = some (Blk.fix (D.arr IntKind.u8 (32 : Nat) s)) ∧
                   some
                      (Blk.fix
                       (D.arr IntKind.u8 (32 : Nat)
                        [(0 : Int), (0 : Int), (0 : Int), (0 : Int), (0 : Int), (0 : Int), (0 : Int), (0 : Int), (0 : Int), (0 : Int), (0 : Int), (0 : Int), (0 : Int), (0 : Int), (0 : Int), (0 : Int), (0 : Int), (0 : Int), (0 : Int), (0 : Int), (0 : Int), (0 : Int), (0 : Int), (0 : Int), (0 : Int), (0 : Int), (0 : Int), (0 : Int), (0 : Int), (0 : Int), (0 : Int),
                         (0 : Int)])) =
                     some (Blk.fix (D.arr IntKind.u8 (32 : Nat) (nB (256 : Nat) (32 : Nat) (vB (18446744073709551616 : Nat) l % (1 : Nat))))) ∧
                    True) ∧
                true = true) ∧
              Int.toNat (0 : Int) ≤ (256 : Nat)) ∧
             ∀ (x : Nat),
              x ≤ (256 : Nat) →
               true = true ∧
                True ∧
                 match decide ((↑x : Int) < (↑(nB (2 : Nat) (256 : Nat) (vB (65536 : Nat) (dg (vB (18446744073709551616 : Nat) l)))).length : Int)) with
                 | true =>
                  True ∧
                   ((0 : Int) ≤ (↑x : Int) ∧ (↑x : Int) < (↑(nB (2 : Nat) (256 : Nat) (vB (65536 : Nat) (dg (vB (18446744073709551616 : Nat) l)))).length : Int) ∧ (1 : Nat) = (1 : Nat)) ∧
                    ((1 : Nat) ≠ (0 : Nat) ∧ (1 : Nat) = (1 : Nat) ∧ false = false) ∧
                     True ∧
                      True ∧
                       True ∧
                        (8 : Int) ≠ (0 : Int) ∧
                         ((0 : Int) ≤ IntKind.i64.wrap ((↑x : Int).tdiv (8 : Int)) ∧ IntKind.i64.wrap ((↑x : Int).tdiv (8 : Int)) < (↑(32 : Nat) : Int) ∧ (32 : Nat) = (32 : Nat) ∧ (1 : Nat) = (1 : Nat)) ∧
                          ((1 : Nat) ≠ (0 : Nat) ∧ (1 : Nat) = (1 : Nat) ∧ false = false) ∧
                           True ∧
                            True ∧
                             (8 : Int) ≠ (0 : Int) ∧
                              (0 : Int) ≤ (↑x : Int).tmod (8 : Int) ∧
                               True ∧
                                True ∧
                                 ((0 : Int) ≤ IntKind.i64.wrap ((↑x : Int).tdiv (8 : Int)) ∧ IntKind.i64.wrap ((↑x : Int).tdiv (8 : Int)) < (↑(32 : Nat) : Int) ∧ (32 : Nat) = (32 : Nat) ∧ (1 : Nat) = (1 : Nat)) ∧
                                  (((IntKind.i64.wrap ((↑x : Int).tdiv (8 : Int))).toNat < (32 : Nat) ∧ ([] : List Nat) = [] ∧ true = true) ∧ (1 : Nat) ≠ (0 : Nat) ∧ (1 : Nat) = (1 : Nat) ∧ false = false) ∧
                                   True ∧
                                    True ∧
                                     ((AV.d (D.val (Value.int IntKind.i64 (IntKind.i64.wrap ((↑x : Int) + (1 : Int))))) = AV.d (D.val (Value.int IntKind.i64 (↑(IntKind.i64.wrap ((↑x : Int) + (1 : Int))).toNat : Int))) ∧ True) ∧
                                       (some (Blk.fix (D.arr IntKind.u64 (4 : Nat) l)) = some (Blk.fix (D.arr IntKind.u64 (4 : Nat) l)) ∧
                                         some (Blk.fix (D.arr IntKind.u64 (4 : Nat) m)) = some (Blk.fix (D.arr IntKind.u64 (4 : Nat) m)) ∧
                                          some (Blk.fix (D.arr IntKind.u8 (32 : Nat) s)) = some (Blk.fix (D.arr IntKind.u8 (32 : Nat) s)) ∧
                                           some
                                              (Blk.fix
                                               (D.arr IntKind.u8 (32 : Nat)
                                                ((nB (256 : Nat) (32 : Nat) (vB (18446744073709551616 : Nat) l % (2 : Nat) ^ x)).set (IntKind.i64.wrap ((↑x : Int).tdiv (8 : Int))).toNat
                                                 (IntKind.u8.wrap
                                                  ((nB (256 : Nat) (32 : Nat) (vB (18446744073709551616 : Nat) l % (2 : Nat) ^ x)).getD (IntKind.i64.wrap ((↑x : Int).tdiv (8 : Int))).toNat (0 : Int) +
                                                   IntKind.u8.wrap (ishl IntKind.i64 ((nB (2 : Nat) (256 : Nat) (vB (65536 : Nat) (dg (vB (18446744073709551616 : Nat) l)))).getD (↑x : Int).toNat (0 : Int)) ((↑x : Int).tmod (8 : Int)))))))) =
                                             some (Blk.fix (D.arr IntKind.u8 (32 : Nat) (nB (256 : Nat) (32 : Nat) (vB (18446744073709551616 : Nat) l % (2 : Nat) ^ (IntKind.i64.wrap ((↑x : Int) + (1 : Int))).toNat)))) ∧
                                            True) ∧
                                        true = true) ∧
                                      (IntKind.i64.wrap ((↑x : Int) + (1 : Int))).toNat ≤ (256 : Nat) ∧ (256 : Nat) - (IntKind.i64.wrap ((↑x : Int) + (1 : Int))).toNat < (256 : Nat) - x
                 | false =>
                  True ∧
                   True ∧
                    (((AV.d (D.val (Value.int IntKind.i64 (31 : Int))) = AV.d (D.val (Value.int IntKind.i64 (31 : Int))) ∧ dg (vB (256 : Nat) (List.drop ((31 : Int) + (1 : Int)).toNat s)) = [] ∧ True) ∧
                       (some (Blk.fix (D.arr IntKind.u64 (4 : Nat) l)) = some (Blk.fix (D.arr IntKind.u64 (4 : Nat) l)) ∧
                         some (Blk.fix (D.arr IntKind.u64 (4 : Nat) m)) = some (Blk.fix (D.arr IntKind.u64 (4 : Nat) m)) ∧
                          some (Blk.fix (D.arr IntKind.u8 (32 : Nat) s)) = some (Blk.fix (D.arr IntKind.u8 (32 : Nat) s)) ∧
                           some (Blk.fix (D.arr IntKind.u8 (32 : Nat) (nB (256 : Nat) (32 : Nat) (vB (18446744073709551616 : Nat) l % (2 : Nat) ^ x)))) = some (Blk.fix (D.arr IntKind.u8 (32 : Nat) (nB (256 : Nat) (32 : Nat) (vB (18446744073709551616 : Nat) l % (2 : Nat) ^ x)))) ∧ True) ∧
                        true = true) ∧
                      (-1 : Int) ≤ (31 : Int) ∧ (31 : Int) ≤ (31 : Int)) ∧
                     ∀ (x_1 : Int),
                      (-1 : Int) ≤ x_1 ∧ x_1 ≤ (31 : Int) →
                       true = true ∧
                        True ∧
                         True ∧
                          match decide (x_1 ≥ (0 : Int)) with
                          | true =>
                           True ∧
                            ((1 : Nat) = (1 : Nat) ∧ (1 : Nat) ≤ (4096 : Nat)) ∧
                             (∃ (l : List Int), ∃ (m : List Int), [D.ints IntKind.i64 (dg (vB (256 : Nat) (List.drop (x_1 + (1 : Int)).toNat s))), D.ints IntKind.i64 [(256 : Int)]] = [D.ints IntKind.i64 l, D.ints IntKind.i64 m] ∧ (okd l ∧ lenS l) ∧ okd m ∧ lenS m) ∧
                              True ∧
                               ((0 : Int) ≤ x_1 ∧ x_1 < (↑(32 : Nat) : Int) ∧ (32 : Nat) = (32 : Nat) ∧ (1 : Nat) = (1 : Nat)) ∧
                                ((1 : Nat) ≠ (0 : Nat) ∧ (1 : Nat) = (1 : Nat) ∧ false = false) ∧
                                 True ∧
                                  ((1 : Nat) = (1 : Nat) ∧ (1 : Nat) ≤ (4096 : Nat)) ∧
                                   (∃ (l : List Int), ∃ (m : List Int), [D.ints IntKind.i64 (dg (vB (65536 : Nat) (dg (vB (256 : Nat) (List.drop (x_1 + (1 : Int)).toNat s))) * vB (65536 : Nat) [(256 : Int)])), D.ints IntKind.i64 [IntKind.i64.wrap (s.getD x_1.toNat (0 : Int))]] = [D.ints IntKind.i64 l, D.ints IntKind.i64 m] ∧ (okd l ∧ lenS l) ∧ okd m ∧ lenS m) ∧
                                    True ∧
                                     True ∧
                                      True ∧
                                       True ∧
                                        ((AV.d (D.val (Value.int IntKind.i64 (IntKind.i64.wrap (x_1 - (1 : Int))))) = AV.d (D.val (Value.int IntKind.i64 (IntKind.i64.wrap (x_1 - (1 : Int))))) ∧
                                           AV.d (D.ints IntKind.i64 (dg (vB (65536 : Nat) (dg (vB (65536 : Nat) (dg (vB (256 : Nat) (List.drop (x_1 + (1 : Int)).toNat s))) * vB (65536 : Nat) [(256 : Int)])) + vB (65536 : Nat) [IntKind.i64.wrap (s.getD x_1.toNat (0 : Int))]))) =
                                             AV.d (D.ints IntKind.i64 (dg (vB (256 : Nat) (List.drop (IntKind.i64.wrap (x_1 - (1 : Int)) + (1 : Int)).toNat s)))) ∧
                                            True) ∧
                                          (some (Blk.fix (D.arr IntKind.u64 (4 : Nat) l)) = some (Blk.fix (D.arr IntKind.u64 (4 : Nat) l)) ∧
                                            some (Blk.fix (D.arr IntKind.u64 (4 : Nat) m)) = some (Blk.fix (D.arr IntKind.u64 (4 : Nat) m)) ∧
                                             some (Blk.fix (D.arr IntKind.u8 (32 : Nat) s)) = some (Blk.fix (D.arr IntKind.u8 (32 : Nat) s)) ∧
                                              some (Blk.fix (D.arr IntKind.u8 (32 : Nat) (nB (256 : Nat) (32 : Nat) (vB (18446744073709551616 : Nat) l % (2 : Nat) ^ x)))) = some (Blk.fix (D.arr IntKind.u8 (32 : Nat) (nB (256 : Nat) (32 : Nat) (vB (18446744073709551616 : Nat) l % (2 : Nat) ^ x)))) ∧ True) ∧
                                           true = true) ∧
                                         ((-1 : Int) ≤ IntKind.i64.wrap (x_1 - (1 : Int)) ∧ IntKind.i64.wrap (x_1 - (1 : Int)) ≤ (31 : Int)) ∧ (IntKind.i64.wrap (x_1 - (1 : Int)) + (1 : Int)).toNat < (x_1 + (1 : Int)).toNat
                          | false =>
                           ((4 : Nat) ≠ (0 : Nat) ∧ (4 : Nat) = (4 : Nat) ∧ true = true) ∧
                            ((4 : Nat) ≠ (0 : Nat) ∧ (4 : Nat) = (4 : Nat) ∧ true = true) ∧
                             (∃ (l_1 : List Int), ∃ (m_1 : List Int), [D.arr IntKind.u64 (4 : Nat) l, D.arr IntKind.u64 (4 : Nat) m] = [D.arr IntKind.u64 (4 : Nat) l_1, D.arr IntKind.u64 (4 : Nat) m_1] ∧ l_1.length = (4 : Nat) ∧ m_1.length = (4 : Nat)) ∧
                              (True ∧ (8 : Nat) ≠ (0 : Nat)) ∧
                               (Sk.arr (8 : Nat) = Sk.arr (8 : Nat) ∧ (8 : Nat) ≠ (0 : Nat) ∧ (8 : Nat) = (8 : Nat) ∧ false = false) ∧
                                ((4 : Nat) ≠ (0 : Nat) ∧ (4 : Nat) = (4 : Nat) ∧ true = true) ∧
                                 (∃ (l_1 : List Int), [D.arr IntKind.u64 (4 : Nat) l] = [D.arr IntKind.u64 (4 : Nat) l_1] ∧ okw l_1 ∧ l_1.length = (4 : Nat)) ∧
                                  ((32 : Nat) ≠ (0 : Nat) ∧ (32 : Nat) = (32 : Nat) ∧ true = true) ∧
                                   (IntKind.u8 = IntKind.u8 ∧ IntKind.u8 = IntKind.u8 ∧ (32 : Nat) = (32 : Nat) ∧ (32 : Nat) = (32 : Nat) ∧ (1 : Nat) = (1 : Nat)) ∧
                                    True ∧
                                     match eqB (nB (256 : Nat) (32 : Nat) (vB (18446744073709551616 : Nat) l)) (nB (256 : Nat) (32 : Nat) (vB (18446744073709551616 : Nat) l % (2 : Nat) ^ x)) with
                                     | true =>
                                      ((32 : Nat) ≠ (0 : Nat) ∧ (32 : Nat) = (32 : Nat) ∧ true = true) ∧
                                       (∃ (l : List Int), [D.arr IntKind.u8 (32 : Nat) s] = [D.arr IntKind.u8 (32 : Nat) l] ∧ okb l ∧ l.length = (32 : Nat)) ∧
                                        True ∧
                                         (∃ (l : List Int), [D.ints IntKind.i64 (dg (vB (256 : Nat) (List.drop (x_1 + (1 : Int)).toNat s)))] = [D.ints IntKind.i64 l] ∧ okd l ∧ lenOk l) ∧
                                          (IntKind.u64 = IntKind.u64 ∧ IntKind.u64 = IntKind.u64 ∧ (4 : Nat) = (4 : Nat) ∧ (4 : Nat) = (4 : Nat) ∧ (1 : Nat) = (1 : Nat)) ∧
                                           True ∧
                                            True ∧
                                             match eqB (nB (18446744073709551616 : Nat) (4 : Nat) (vB (256 : Nat) s)) (nB (18446744073709551616 : Nat) (4 : Nat) (vB (65536 : Nat) (dg (vB (256 : Nat) (List.drop (x_1 + (1 : Int)).toNat s))))) with
                                             | true =>
                                              ((8 : Nat) ≠ (0 : Nat) ∧ (8 : Nat) = (8 : Nat) ∧ true = true) ∧
                                               ((4 : Nat) ≠ (0 : Nat) ∧ (4 : Nat) = (4 : Nat) ∧ true = true) ∧
                                                (∃ (l_1 : List Int), [D.arr IntKind.u64 (4 : Nat) l] = [D.arr IntKind.u64 (4 : Nat) l_1] ∧ okw l_1 ∧ l_1.length = (4 : Nat)) ∧
                                                 ((4 : Nat) ≠ (0 : Nat) ∧ (4 : Nat) = (4 : Nat) ∧ true = true) ∧
                                                  (∃ (l : List Int), [D.arr IntKind.u64 (4 : Nat) m] = [D.arr IntKind.u64 (4 : Nat) l] ∧ okw l ∧ l.length = (4 : Nat)) ∧
                                                   (∃ (n : Int), [D.val (Value.int IntKind.i64 (256 : Int))] = [D.val (Value.int IntKind.i64 n)] ∧ (0 : Int) ≤ n ∧ n ≤ (1048576 : Int)) ∧
                                                    (∃ (l : List Int), ∃ (m_1 : List Int), [D.ints IntKind.i64 (dg (vB (18446744073709551616 : Nat) m)), D.ints IntKind.i64 (dgP (256 : Nat))] = [D.ints IntKind.i64 l, D.ints IntKind.i64 m_1] ∧ (okd l ∧ lenS l) ∧ okd m_1 ∧ lenS m_1) ∧
                                                     (∃ (l_1 : List Int),
                                                       ∃ (m_1 : List Int),
                                                        [D.ints IntKind.i64 (dg (vB (18446744073709551616 : Nat) l)), D.ints IntKind.i64 (dg (vB (65536 : Nat) (dg (vB (18446744073709551616 : Nat) m)) * vB (65536 : Nat) (dgP (256 : Nat))))] = [D.ints IntKind.i64 l_1, D.ints IntKind.i64 m_1] ∧ (okd l_1 ∧ lenS l_1) ∧ okd m_1 ∧ lenS m_1) ∧
                                                      (∃ (l_1 : List Int), [D.ints IntKind.i64 (dg (vB (65536 : Nat) (dg (vB (18446744073709551616 : Nat) l)) + vB (65536 : Nat) (dg (vB (65536 : Nat) (dg (vB (18446744073709551616 : Nat) m)) * vB (65536 : Nat) (dgP (256 : Nat))))))] = [D.ints IntKind.i64 l_1] ∧ okd l_1 ∧ lenOk l_1) ∧
                                                       (IntKind.u64 = IntKind.u64 ∧ IntKind.u64 = IntKind.u64 ∧ (8 : Nat) = (8 : Nat) ∧ (8 : Nat) = (8 : Nat) ∧ (1 : Nat) = (1 : Nat)) ∧
                                                        True ∧
                                                         True ∧
                                                          match eqB (l ++ m) (nB (18446744073709551616 : Nat) (8 : Nat) (vB (65536 : Nat) (dg (vB (65536 : Nat) (dg (vB (18446744073709551616 : Nat) l)) + vB (65536 : Nat) (dg (vB (65536 : Nat) (dg (vB (18446744073709551616 : Nat) m)) * vB (65536 : Nat) (dgP (256 : Nat)))))))) with
                                                          | true =>
                                                           ((8 : Nat) ≠ (0 : Nat) ∧ (8 : Nat) = (8 : Nat) ∧ true = true) ∧
                                                            (∃ (l_1 : List Int), [D.arr IntKind.u64 (8 : Nat) (l ++ m)] = [D.arr IntKind.u64 (8 : Nat) l_1] ∧ l_1.length = (8 : Nat)) ∧
                                                             ((4 : Nat) ≠ (0 : Nat) ∧ (4 : Nat) = (4 : Nat) ∧ true = true) ∧
                                                              (IntKind.u64 = IntKind.u64 ∧ IntKind.u64 = IntKind.u64 ∧ (4 : Nat) = (4 : Nat) ∧ (4 : Nat) = (4 : Nat) ∧ (1 : Nat) = (1 : Nat)) ∧
                                                               True ∧
                                                                True ∧
                                                                 match eqB (List.take (4 : Nat) (l ++ m)) l with
                                                                 | true =>
                                                                  ((8 : Nat) ≠ (0 : Nat) ∧ (8 : Nat) = (8 : Nat) ∧ true = true) ∧
                                                                   (∃ (l_1 : List Int), [D.arr IntKind.u64 (8 : Nat) (l ++ m)] = [D.arr IntKind.u64 (8 : Nat) l_1] ∧ l_1.length = (8 : Nat)) ∧
                                                                    ((4 : Nat) ≠ (0 : Nat) ∧ (4 : Nat) = (4 : Nat) ∧ true = true) ∧
                                                                     (IntKind.u64 = IntKind.u64 ∧ IntKind.u64 = IntKind.u64 ∧ (4 : Nat) = (4 : Nat) ∧ (4 : Nat) = (4 : Nat) ∧ (1 : Nat) = (1 : Nat)) ∧ True ∧ True ∧ (false = false ∧ True) ∧ D.val (Value.bool (eqB (List.drop (4 : Nat) (l ++ m)) m)) = D.val (Value.bool true)
                                                                 | false => True ∧ True ∧ (false = false ∧ True) ∧ D.val (Value.bool false) = D.val (Value.bool true)
                                                          | false => True ∧ True ∧ True ∧ True ∧ (false = false ∧ True) ∧ D.val (Value.bool false) = D.val (Value.bool true)
                                             | false => True ∧ True ∧ True ∧ True ∧ True ∧ True ∧ (false = false ∧ True) ∧ D.val (Value.bool false) = D.val (Value.bool true)
                                     | false => True ∧ True ∧ True ∧ True ∧ True ∧ True ∧ True ∧ True ∧ (false = false ∧ True) ∧ D.val (Value.bool false) = D.val (Value.bool true)) := by kernel_rfl

theorem st6 : statOK c6 (bodyOf Try.f6) = true := by kernel_rfl


theorem four {l : List Int} (h : l.length = 4) : ∃ a b c d, l = [a, b, c, d] := by
  match l, h with
  | [a, b, c, d], _ => exact ⟨a, b, c, d, rfl⟩
theorem eight {l : List Int} (h : l.length = 8) : ∃ a b c d e f g i, l = [a, b, c, d, e, f, g, i] := by
  match l, h with
  | [a, b, c, d, e, f, g, i], _ => exact ⟨a, b, c, d, e, f, g, i, rfl⟩

set_option maxRecDepth 100000 in
theorem m22 : Meets Try.prog 22 sp22 := by
  refine meets_of_owed (C := c60) ⟨tab_ok, fun f s h => by cases h⟩ (by kernel_rfl) (by kernel_rfl : Try.prog.funcs[22]? = some Try.f22) (by kernel_rfl) (by kernel_rfl) (by kernel_rfl) _ ?_
  rintro _ ⟨l, m, rfl, hl, hm⟩
  obtain ⟨a, b, c, d, rfl⟩ := four hl
  obtain ⟨e, f, g, i, rfl⟩ := four hm
  refine ⟨fun _ => rfl, fun _ => none, ?_⟩
  show owed c60 (fun _ => none) Try.f22 [num4 [a, b, c, d], num4 [e, f, g, i]] (num8 [a, b, c, d, e, f, g, i])
  rw [vc22]
  and_intros <;> first | decide | rfl

set_option maxRecDepth 100000 in
theorem m28 : Meets Try.prog 28 sp28 := by
  refine meets_of_owed (C := c60) ⟨tab_ok, fun f s h => by cases h⟩ (by kernel_rfl) (by kernel_rfl : Try.prog.funcs[28]? = some Try.f28) (by kernel_rfl) (by kernel_rfl) (by kernel_rfl) _ ?_
  rintro _ ⟨l, rfl, hl⟩
  obtain ⟨a, b, c, d, e, f, g, i, rfl⟩ := eight hl
  refine ⟨fun _ => rfl, fun _ => none, ?_⟩
  show owed c60 (fun _ => none) Try.f28 [num8 [a, b, c, d, e, f, g, i]] (num4 [a, b, c, d])
  rw [vc28]
  and_intros <;> first | decide | rfl

set_option maxRecDepth 100000 in
theorem m29 : Meets Try.prog 29 sp29 := by
  refine meets_of_owed (C := c60) ⟨tab_ok, fun f s h => by cases h⟩ (by kernel_rfl) (by kernel_rfl : Try.prog.funcs[29]? = some Try.f29) (by kernel_rfl) (by kernel_rfl) (by kernel_rfl) _ ?_
  rintro _ ⟨l, rfl, hl⟩
  obtain ⟨a, b, c, d, e, f, g, i, rfl⟩ := eight hl
  refine ⟨fun _ => rfl, fun _ => none, ?_⟩
  show owed c60 (fun _ => none) Try.f29 [num8 [a, b, c, d, e, f, g, i]] (num4 [e, f, g, i])
  rw [vc29]
  and_intros <;> first | decide | rfl


theorem byteI {l : List Int} (h : okw l) (hl : l.length = 4) (x : Nat) (hx : x < 32) :
    IntKind.u8.wrap (ishr IntKind.u64 (l.getD (IntKind.i64.wrap ((x : Int).tdiv 8)).toNat 0) (IntKind.u64.wrap (IntKind.i64.wrap ((x : Int).tmod 8 * 8)))) = ((wv l / 256 ^ x % 256 : Nat) : Int) := by
  have hg := vB_get (b := 18446744073709551616) h (i := x / 8) (by omega)
  have hs := sub_at 256 8 (wv l) x (by decide)
  rw [show (8 : Int) = ((8 : Nat) : Int) from rfl, tdivN, tmodN, wi (by omega) (by omega), Int.toNat_natCast, hg, show ((x % 8 : Nat) : Int) * ((8 : Nat) : Int) = ((x % 8 * 8 : Nat) : Int) by simp, wi (by omega) (by omega), wu (by omega) (by omega), ishr_eq _ _ _ (by simp only [IntKind.bits]; omega), w8]
  rw [show (256 ^ 8 : Nat) = 18446744073709551616 by decide] at hs
  have e : (2 : Int) ^ (x % 8 * 8) = ((256 ^ (x % 8) : Nat) : Int) := by
    rw [Nat.mul_comm, show (256 : Nat) = 2 ^ 8 from rfl, ← Nat.pow_mul]
    simp
  rw [← hs, e]
  simp

set_option maxRecDepth 100000 in
theorem m23 : Meets Try.prog 23 sp23 := by
  refine meets_of_owed (C := c60) ⟨tab_ok, fun f s h => by cases h⟩ (by kernel_rfl) (by kernel_rfl : Try.prog.funcs[23]? = some Try.f23) (by kernel_rfl) (by kernel_rfl) (by kernel_rfl) _ ?_
  rintro _ ⟨l, rfl, hw, hl⟩
  refine ⟨fun _ => rfl, inv23 l, ?_⟩
  show owed c60 (inv23 l) Try.f23 [num4 l] (b32 (nB 256 32 (wv l)))
  rw [vc23]
  simp (decide := true) only [eq_self, true_and, and_true, ne_eq, not_false_eq_true, Int.toNat_natCast, Nat.zero_add, List.drop_zero]
  and_intros <;> try (first | omega | rfl | trivial)
  intro x hx
  rw [show ((x : Int) + 1) = ((x + 1 : Nat) : Int) by omega, wi (n := ((x + 1 : Nat) : Int)) (by omega) (by omega)]
  simp only [Int.toNat_natCast]
  split
  · rename_i h
    have h := of_decide_eq_true h
    rw [byteI hw hl x (by omega), show 32 - x = (32 - (x + 1)) + 1 by omega]
    have e := set_rep (nB 256 x (wv l)) (32 - (x + 1)) ((wv l / 256 ^ x % 256 : Nat) : Int)
    rw [nB_length, ← nB_push] at e
    rw [e]
    have h1 : (x : Int).tdiv 8 = ((x / 8 : Nat) : Int) := tdivN x 8
    have h2 : (x : Int).tmod 8 = ((x % 8 : Nat) : Int) := tmodN x 8
    rw [h1, h2, wi (n := ((x / 8 : Nat) : Int)) (by omega) (by omega), wi (n := ((x % 8 : Nat) : Int) * 8) (by omega) (by omega), wu (by omega) (by omega)]
    and_intros <;> first | omega | rfl | trivial
  · rename_i h
    have h := of_decide_eq_false h
    obtain rfl : x = 32 := by omega
    simp


theorem ior_nat {a b : Nat} (ha : a < 18446744073709551616) (hb : b < 18446744073709551616) : ior .u64 (a : Int) (b : Int) = ((a ||| b : Nat) : Int) := by
  unfold ior
  have h1 : (BitVec.ofInt IntKind.u64.bits (a : Int) ||| BitVec.ofInt IntKind.u64.bits (b : Int)).toNat = a ||| b := by
    rw [BitVec.toNat_or, BitVec.ofInt_natCast, BitVec.ofInt_natCast, BitVec.toNat_ofNat, BitVec.toNat_ofNat]
    show a % 2 ^ 64 ||| b % 2 ^ 64 = a ||| b
    rw [Nat.mod_eq_of_lt (by omega), Nat.mod_eq_of_lt (by omega)]
  rw [h1]
  have := Nat.or_lt_two_pow (n := 64) (x := a) (y := b) (by omega) (by omega)
  exact wu (by omega) (by omega)

theorem wordI {l : List Int} (h : okb l) (hl : l.length = 32) (x : Nat) (hx : x < 32) :
    (nB 18446744073709551616 4 (vB 256 (l.take x))).set (x / 8) (ior IntKind.u64 ((nB 18446744073709551616 4 (vB 256 (l.take x))).getD (x / 8) 0) (ishl IntKind.u64 (l.getD x 0) ((x % 8 * 8 : Nat) : Int))) = nB 18446744073709551616 4 (vB 256 (l.take (x + 1))) := by
  have hs := h _ (getD_mem (l := l) (n := x) (by omega))
  obtain ⟨s, e⟩ := Int.eq_ofNat_of_zero_le hs.1
  have hlt : vB 256 (l.take x) < 256 ^ x := by
    have := vB_lt (b := 256) (l := l.take x) fun y hy => h y (List.mem_of_mem_take hy)
    rwa [List.length_take, show min x l.length = x by omega] at this
  obtain ⟨g1, g2, g3⟩ := nB_grow 256 8 4 (vB 256 (l.take x)) x s (by decide) (by decide) hlt (by omega) (by omega)
  rw [show (256 ^ 8 : Nat) = 18446744073709551616 by decide] at g1 g2 g3
  rw [vB_take1 x (by omega), e, Int.toNat_natCast, g1, nB_get _ _ _ _ (by omega)]
  generalize vB 256 (l.take x) / 18446744073709551616 ^ (x / 8) % 18446744073709551616 = o at g2 g3 ⊢
  have g4 : 256 ^ (x % 8 + 1) ≤ 256 ^ 8 := Nat.pow_le_pow_right (by decide) (by omega)
  rw [show (256 ^ 8 : Nat) = 18446744073709551616 by decide] at g4
  have g5 : o ≤ o + 256 ^ (x % 8) * s := Nat.le_add_right _ _
  have e2 : ishl IntKind.u64 (s : Int) ((x % 8 * 8 : Nat) : Int) = ((256 ^ (x % 8) * s : Nat) : Int) := by
    unfold ishl
    rw [Int.toNat_natCast, show min (x % 8 * 8) IntKind.u64.bits = x % 8 * 8 by simp only [IntKind.bits]; omega]
    have e3 : (s : Int) * 2 ^ (x % 8 * 8) = ((256 ^ (x % 8) * s : Nat) : Int) := by
      rw [show (256 : Nat) = 2 ^ 8 from rfl, ← Nat.pow_mul, Nat.mul_comm 8, Nat.mul_comm _ s]
      simp
    rw [e3]
    generalize 256 ^ (x % 8) * s = q at g3 ⊢
    exact wu (by omega) (by omega)
  rw [e2, ior_nat (by omega) (by omega)]
  congr 2
  have e4 : (256 : Nat) ^ (x % 8) = 2 ^ (8 * (x % 8)) := by rw [show (256 : Nat) = 2 ^ 8 from rfl, ← Nat.pow_mul]
  rw [e4] at g2 ⊢
  rw [Nat.or_comm, ← Nat.two_pow_add_eq_or_of_lt g2, Nat.add_comm]

set_option maxRecDepth 100000 in
theorem m24 : Meets Try.prog 24 sp24 := by
  refine meets_of_owed (C := c60) ⟨tab_ok, fun f s h => by cases h⟩ (by kernel_rfl) (by kernel_rfl : Try.prog.funcs[24]? = some Try.f24) (by kernel_rfl) (by kernel_rfl) (by kernel_rfl) _ ?_
  rintro _ ⟨l, rfl, hb, hl⟩
  refine ⟨fun _ => rfl, inv24 l, ?_⟩
  show owed c60 (inv24 l) Try.f24 [b32 l] (num4 (nB 18446744073709551616 4 (bv l)))
  rw [vc24]
  simp (decide := true) only [eq_self, true_and, and_true, ne_eq, not_false_eq_true, Int.toNat_natCast, Nat.zero_add, List.drop_zero]
  and_intros <;> try (first | omega | rfl | trivial | (simp [vB, nB]; done))
  intro x hx
  rw [show ((x : Int) + 1) = ((x + 1 : Nat) : Int) by omega, wi (n := ((x + 1 : Nat) : Int)) (by omega) (by omega)]
  simp only [Int.toNat_natCast]
  split
  · rename_i h
    have h := of_decide_eq_true h
    have h1 : (x : Int).tdiv 8 = ((x / 8 : Nat) : Int) := tdivN x 8
    have h2 : (x : Int).tmod 8 = ((x % 8 : Nat) : Int) := tmodN x 8
    have hs := hb _ (getD_mem (l := l) (n := x) (by omega))
    rw [h1, h2, wi (n := ((x / 8 : Nat) : Int)) (by omega) (by omega), wi (n := ((x % 8 : Nat) : Int) * 8) (by omega) (by omega), wu (n := ((x % 8 : Nat) : Int) * 8) (by omega) (by omega), wu (n := l.getD x 0) (by omega) (by omega), show ((x % 8 : Nat) : Int) * 8 = ((x % 8 * 8 : Nat) : Int) by omega]
    simp only [Int.toNat_natCast]
    rw [wordI hb hl x (by omega)]
    and_intros <;> first | omega | rfl | trivial
  · rename_i h
    have h := of_decide_eq_false h
    obtain rfl : x = 32 := by omega
    rw [List.take_of_length_le (by omega)]


set_option maxRecDepth 100000 in
theorem ok42  (d : D)  :
    (OkT tab 8 42 d) = (
 ∃ (l : List Int), d = D.arr IntKind.u64 (4 : Nat) l ∧ l.length = (4 : Nat) ∧ ∀ (z : Int), z ∈ l → (0 : Int) ≤ z ∧ z ≤ IntKind.u64.max) := by kernel_rfl
set_option maxRecDepth 100000 in
theorem ok43  (d : D)  :
    (OkT tab 8 43 d) = (
 ∃ (l : List Int), d = D.arr IntKind.u8 (32 : Nat) l ∧ l.length = (32 : Nat) ∧ ∀ (z : Int), z ∈ l → (0 : Int) ≤ z ∧ z ≤ IntKind.u8.max) := by kernel_rfl

theorem num_of {d : D} (h : OkT tab 8 42 d) : ∃ l, d = num4 l ∧ okw l ∧ l.length = 4 := by
  rw [ok42] at h
  obtain ⟨l, rfl, h1, h2⟩ := h
  exact ⟨l, rfl, fun x hx => ⟨(h2 x hx).1, Int.lt_of_le_of_lt (h2 x hx).2 (by decide)⟩, h1⟩
theorem b32_of {d : D} (h : OkT tab 8 43 d) : ∃ l, d = b32 l ∧ okb l ∧ l.length = 32 := by
  rw [ok43] at h
  obtain ⟨l, rfl, h1, h2⟩ := h
  exact ⟨l, rfl, fun x hx => ⟨(h2 x hx).1, Int.lt_of_le_of_lt (h2 x hx).2 (by decide)⟩, h1⟩


theorem wv_lt {l : List Int} (h : okw l) (hl : l.length = 4) : wv l < 2 ^ 256 := by
  have := vB_lt (b := 18446744073709551616) h
  rw [hl] at this
  exact this

theorem dg_lenB {n k : Nat} (h : n < 65536 ^ k) : (dg n).length ≤ k := dg_len k n h

theorem want_step {l : List Int} (x : Nat) (hx : x < 256) :
    (nB 256 32 (wv l % 2 ^ x)).set (x / 8) (IntKind.u8.wrap ((nB 256 32 (wv l % 2 ^ x)).getD (x / 8) 0 + IntKind.u8.wrap (ishl IntKind.i64 ((wv l / 2 ^ x % 2 : Nat) : Int) ((x % 8 : Nat) : Int)))) = nB 256 32 (wv l % 2 ^ (x + 1)) := by
  have hlt : wv l % 2 ^ x < 2 ^ x := Nat.mod_lt _ (Nat.pow_pos (by decide))
  have hb : wv l / 2 ^ x % 2 < 2 := Nat.mod_lt _ (by decide)
  obtain ⟨g1, g2, g3⟩ := nB_grow 2 8 32 (wv l % 2 ^ x) x (wv l / 2 ^ x % 2) (by decide) (by decide) hlt hb (by omega)
  rw [show (2 ^ 8 : Nat) = 256 by decide] at g1 g2 g3
  have e1 : wv l % 2 ^ (x + 1) = wv l % 2 ^ x + 2 ^ x * (wv l / 2 ^ x % 2) := by rw [Nat.pow_succ, Nat.mod_mul]
  rw [e1, g1, nB_get _ _ _ _ (by omega)]
  generalize wv l % 2 ^ x / 256 ^ (x / 8) % 256 = o at g2 g3 ⊢
  generalize wv l / 2 ^ x % 2 = b at hb g3 ⊢
  have g4 : 2 ^ (x % 8 + 1) ≤ 2 ^ 8 := Nat.pow_le_pow_right (by decide) (by omega)
  rw [show (2 ^ 8 : Nat) = 256 by decide] at g4
  have e2 : ishl IntKind.i64 (b : Int) ((x % 8 : Nat) : Int) = ((2 ^ (x % 8) * b : Nat) : Int) := by
    unfold ishl
    rw [Int.toNat_natCast, show min (x % 8) IntKind.i64.bits = x % 8 by simp only [IntKind.bits]; omega]
    have e3 : (b : Int) * 2 ^ (x % 8) = ((2 ^ (x % 8) * b : Nat) : Int) := by
      rw [Nat.mul_comm _ b]
      simp
    rw [e3]
    generalize 2 ^ (x % 8) * b = q at g3 ⊢
    exact wi (by omega) (by omega)
  rw [e2]
  generalize 2 ^ (x % 8) * b = q at g3 ⊢
  congr 1
  rw [w8, w8]
  omega

theorem len_ok {n k : Nat} (h : n < 65536 ^ k) (hk : k ≤ 65536) : lenS (dg n) ∧ lenOk (dg n) := by
  have := dg_len k n h
  exact ⟨by unfold lenS; omega, by unfold lenOk; omega⟩

theorem vB_dropS (b : Nat) {l : List Int} (i : Nat) (h : i < l.length) : vB b (l.drop i) = (l.getD i 0).toNat + b * vB b (l.drop (i + 1)) := by
  rw [List.drop_eq_getElem_cons h, vB]
  simp [h]

theorem bd_lt {s : List Int} (h : okb s) (hl : s.length = 32) (i : Nat) : vB 256 (s.drop i) < 65536 ^ 16 := by
  have := vB_lt (b := 256) (l := s.drop i) fun y hy => h y (List.mem_of_mem_drop hy)
  have h2 : 256 ^ (s.drop i).length ≤ 256 ^ 32 := Nat.pow_le_pow_right (by decide) (by rw [List.length_drop]; omega)
  rw [show (65536 : Nat) ^ 16 = 256 ^ 32 by decide]
  omega

set_option maxRecDepth 100000 in
theorem m6 : Meets Try.prog 6 (lawSpec tab Try.f6.params.toList) := by
  refine meets_of_owed (C := c6) ⟨tab_ok, lkS_ok ⟨m18, m19, m20, m21, m22, m23, m24, m25, m26, m27, m28, m29, trivial⟩⟩ (by kernel_rfl) (by kernel_rfl : Try.prog.funcs[6]? = some Try.f6) (by kernel_rfl) (by kernel_rfl) (by kernel_rfl) _ ?_
  intro ds hds
  obtain ⟨l, m, s, rfl, hl, hl4, hm, hm4, hs, hs32⟩ : ∃ l m s, ds = [num4 l, num4 m, b32 s] ∧ okw l ∧ l.length = 4 ∧ okw m ∧ m.length = 4 ∧ okb s ∧ s.length = 32 := by
    match ds, hds with
    | [d, e, f], h =>
      obtain ⟨l, rfl, h1, h2⟩ := num_of h.1
      obtain ⟨m, rfl, h3, h4⟩ := num_of h.2.1
      obtain ⟨s, rfl, h5, h6⟩ := b32_of h.2.2.1
      exact ⟨l, m, s, rfl, h1, h2, h3, h4, h5, h6⟩
  refine ⟨fun _ => rfl, inv6 l s, ?_⟩
  show owed c6 (inv6 l s) Try.f6 [num4 l, num4 m, b32 s] (bl true)
  rw [vc6]
  have hlv := wv_lt hl hl4
  have hmv := wv_lt hm hm4
  have e16 : 2 ^ 256 = 65536 ^ 16 := by decide
  rw [e16] at hlv hmv
  simp (decide := true) only [eq_self, true_and, and_true, ne_eq, not_false_eq_true, Int.toNat_natCast, Nat.zero_add, List.drop_zero, nB_length, vl_dg]
  refine ⟨⟨l, rfl, hl, hl4⟩, ⟨_, 256, rfl, dg_ok _, (len_ok hlv (by decide)).2, by decide, by decide⟩, ⟨rfl, ?_⟩, ?_⟩
  · rw [Nat.mod_one]
    rfl
  intro x hx
  split
  · rename_i h
    have h := of_decide_eq_true h
    have h1 : (x : Int).tdiv 8 = ((x / 8 : Nat) : Int) := tdivN x 8
    have h2 : (x : Int).tmod 8 = ((x % 8 : Nat) : Int) := tmodN x 8
    rw [h1, h2, wi (n := ((x / 8 : Nat) : Int)) (by omega) (by omega), show ((x : Int) + 1) = ((x + 1 : Nat) : Int) by omega, wi (n := ((x + 1 : Nat) : Int)) (by omega) (by omega)]
    simp only [Int.toNat_natCast]
    rw [nB_get _ _ _ _ (show x < 256 by omega), want_step x (by omega)]
    and_intros <;> first | omega | rfl | trivial
  rename_i h
  have h := of_decide_eq_false h
  obtain rfl : x = 256 := by omega
  clear hx h
  refine ⟨?_, ?_⟩
  · rw [List.drop_of_length_le (by rw [hs32]; decide)]
    rfl
  intro y hy
  obtain ⟨z, rfl⟩ : ∃ z : Nat, y = (z : Int) - 1 := ⟨(y + 1).toNat, by omega⟩
  rw [show ((z : Int) - 1 + 1) = (z : Int) by omega]
  simp only [Int.toNat_natCast]
  have hz := bd_lt hs hs32 z
  split
  · rename_i h
    have h := of_decide_eq_true h
    obtain ⟨u, rfl⟩ : ∃ u, z = u + 1 := ⟨z - 1, by omega⟩
    have hb := hs _ (getD_mem (l := s) (n := u) (by omega))
    have hu := bd_lt hs hs32 u
    have hd := vB_dropS 256 (l := s) u (by omega)
    rw [show ((u + 1 : Nat) : Int) - 1 = (u : Int) by omega, wi (n := (u : Int) - 1) (by omega) (by omega), show ((u : Int) - 1 + 1) = (u : Int) by omega]
    simp only [Int.toNat_natCast]
    generalize s.getD u 0 = t at hb hd ⊢
    rw [wi (n := t) (by omega) (by omega)]
    have e256 : vB 65536 [256] = 256 := rfl
    have et : vB 65536 [t] = t.toNat := by simp [vB]
    rw [e256, et]
    have hm256 : vB 256 (List.drop (u + 1) s) * 256 < 65536 ^ 17 := by
      rw [Nat.pow_succ]
      exact Nat.lt_of_le_of_lt (Nat.mul_le_mul_right 256 (Nat.le_of_lt hz)) (by decide)
    refine ⟨⟨_, _, rfl, ⟨dg_ok _, (len_ok hz (by decide)).1⟩, ?_, ?_⟩, ?_, ⟨_, _, rfl, ⟨dg_ok _, (len_ok hm256 (by decide)).1⟩, ?_, ?_⟩, ?_, ?_, ?_⟩
    · intro x hx
      simp at hx
      omega
    · unfold lenS
      decide
    · omega
    · intro x hx
      simp at hx
      omega
    · unfold lenS
      simp
    · rw [hd, Nat.add_comm, Nat.mul_comm 256]
    · omega
    · omega
  rename_i h
  have h := of_decide_eq_false h
  obtain rfl : z = 0 := by omega
  clear hy h
  rw [List.drop_zero] at hz
  have ed : dgP 256 = dg (2 ^ 256) := opq_eq _
  have ew : vB 65536 (dgP 256) = 2 ^ 256 := by rw [ed, vl_dg]
  have elm : vB 18446744073709551616 l + vB 18446744073709551616 m * vB 65536 (dgP 256) = vB 18446744073709551616 (l ++ m) := by
    rw [ew, vB_append, hl4, Nat.mul_comm]
  have h17 : 2 ^ 256 < 65536 ^ 17 := by decide
  have hok : okd (dgP 256) ∧ lenS (dgP 256) := by
    rw [ed]
    exact ⟨dg_ok _, (len_ok h17 (by decide)).1⟩
  rw [elm, ew]
  have hmm : vB 18446744073709551616 m * 2 ^ 256 < 65536 ^ 33 := by
    refine Nat.lt_of_le_of_lt (Nat.mul_le_mul_right _ (Nat.le_of_lt hmv)) ?_
    decide
  have hlm : vB 18446744073709551616 (l ++ m) < 65536 ^ 32 := by
    have := vB_lt (b := 18446744073709551616) (l := l ++ m) fun x hx => (List.mem_append.mp hx).elim (hl x) (hm x)
    rw [List.length_append, hl4, hm4] at this
    exact this
  have elm2 : nB 18446744073709551616 8 (vB 18446744073709551616 (l ++ m)) = l ++ m := by
    have := nB_vB (b := 18446744073709551616) (l := l ++ m) fun x hx => (List.mem_append.mp hx).elim (hl x) (hm x)
    rwa [List.length_append, hl4, hm4] at this
  have e8 : (l ++ m).length = 8 := by rw [List.length_append, hl4, hm4]
  rw [elm2, List.drop_zero, List.take_left' hl4, List.drop_left' hl4, Nat.mod_eq_of_lt (by rw [e16]; exact hlv)]
  have eqs : ∀ a : List Int, eqB a a = true := fun a => eqB_iff.mpr rfl
  simp only [eqs]
  exact ⟨⟨l, m, rfl, hl4, hm4⟩, ⟨l, rfl, hl, hl4⟩, ⟨s, rfl, hs, hs32⟩, ⟨_, rfl, dg_ok _, (len_ok hz (by decide)).2⟩, ⟨l, rfl, hl, hl4⟩, ⟨m, rfl, hm, hm4⟩, ⟨256, rfl, by decide, by decide⟩,
    ⟨_, _, rfl, ⟨dg_ok _, (len_ok hmv (by decide)).1⟩, hok⟩, ⟨_, _, rfl, ⟨dg_ok _, (len_ok hlv (by decide)).1⟩, dg_ok _, (len_ok hmm (by decide)).1⟩, ⟨_, rfl, dg_ok _, (len_ok hlm (by decide)).2⟩, ⟨_, rfl, e8⟩, ⟨_, rfl, e8⟩, trivial⟩

end Go.Proofs.Ytcdjhhepgkcabaa
