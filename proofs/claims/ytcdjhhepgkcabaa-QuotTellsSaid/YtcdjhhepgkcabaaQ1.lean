import Derived.Test.YtcdjhhepgkcabaaLh
import Derived.Test.YtcdjhhepgkcabaaVgX
/- QuotTells: the numbers of package limb: what Sub, Cmp and Shift compute. -/
namespace Go.Proofs.Ytcdjhhepgkcabaa
open Go Go.Vg

abbrev u64n (n : Nat) : D := .val (.int .u64 (n : Int))
abbrev B64 : Nat := 18446744073709551616
def nn (d : D) : Nat := (numOf d).toNat

def sbd (x y b : Nat) : Nat := (x + B64 - y - b) % B64
def sbb (x y b : Nat) : Nat := if x < y + b then 1 else 0
def dif (a b : Nat) : Nat := (a + 2 ^ 256 - b) % 2 ^ 256
def bor (a b : Nat) : Nat := if a < b then 1 else 0
def cmpN (a b : Nat) : Int := if a < b then -1 else if a > b then 1 else 0
def shf (v : Nat) (n : Int) : Nat := if 0 ≤ n then v * 2 ^ n.toNat else v / 2 ^ (-n).toNat
def i64ok (n : Int) : Prop := -9223372036854775808 ≤ n ∧ n ≤ 9223372036854775807

def sp79 : Go.Vg.Spec := ⟨fun ds => ∃ x y b, ds = [u64n x, u64n y, u64n b] ∧ x < B64 ∧ y < B64 ∧ b ≤ 1,
  fun ds => .tup [u64n (sbd (nn (ds.headD default)) (nn (ds.getD 1 default)) (nn (ds.getD 2 default))), u64n (sbb (nn (ds.headD default)) (nn (ds.getD 1 default)) (nn (ds.getD 2 default)))], true, [40, 40, 40]⟩
def sp72 : Go.Vg.Spec := ⟨fun ds => ∃ l m, ds = [num4 l, num4 m] ∧ (okw l ∧ l.length = 4) ∧ okw m ∧ m.length = 4,
  fun ds => .tup [num4 (nB 18446744073709551616 4 (dif (wv (arrOf (ds.headD default))) (wv (arrOf (ds.getD 1 default))))), u64n (bor (wv (arrOf (ds.headD default))) (wv (arrOf (ds.getD 1 default))))], true, [42, 42]⟩
def sp73 : Go.Vg.Spec := ⟨fun ds => ∃ l m, ds = [num4 l, num4 m] ∧ (okw l ∧ l.length = 4) ∧ okw m ∧ m.length = 4, fun ds => i64 (cmpN (wv (arrOf (ds.headD default))) (wv (arrOf (ds.getD 1 default)))), true, [42, 42]⟩
def sp71 : Go.Vg.Spec := ⟨fun ds => ∃ l n, ds = [num4 l, i64 n] ∧ (okw l ∧ l.length = 4) ∧ i64ok n, fun ds => num4 (nB 18446744073709551616 4 (shf (wv (arrOf (ds.headD default))) (numOf (ds.getD 1 default)))), true, [42, 3]⟩
def c72 : Ctx := ⟨tab, lkS [(79, sp79)], [], []⟩
def subL (l m : List Int) (i : Nat) : List Int := nB 18446744073709551616 i ((vB 18446744073709551616 (l.take i) + 18446744073709551616 ^ i - vB 18446744073709551616 (m.take i)) % 18446744073709551616 ^ i) ++ l.drop i
def inv72 (l m : List Int) : Nat → Option Inv
  | 3 => some ⟨Nat, fun i => [(8, .d (i64 i)), (6, .d (u64n (bor (vB 18446744073709551616 (l.take i)) (vB 18446744073709551616 (m.take i)))))], fun i => [(2, .fix (num4 (subL l m i)))], fun s => (slotN s 8).toNat, fun _ i => i ≤ 4, fun i => 4 - i⟩
  | _ => none
def inv73 (l m : List Int) : Nat → Option Inv
  | 2 => some ⟨Int, fun i => [(5, .d (i64 i))], fun _ => [], fun s => slotN s 5, fun _ i => (-1 ≤ i ∧ i ≤ 3) ∧ l.drop (i + 1).toNat = m.drop (i + 1).toNat, fun i => (i + 1).toNat⟩
  | _ => none
def inv71 (l : List Int) (n : Int) : Nat → Option Inv
  | 13 => some ⟨Nat, fun i => [(8, .d (i64 i))], fun i => [(5, .fix (num4 (nB 18446744073709551616 i (shf (wv l) n) ++ List.replicate (4 - i) 0)))], fun s => (slotN s 8).toNat, fun _ i => n.toNat / 64 ≤ i ∧ i ≤ 4, fun i => 4 - i⟩
  | 4 => some ⟨Nat, fun i => [(11, .d (i64 i))], fun i => [(5, .fix (num4 (nB 18446744073709551616 (i - (-n).toNat / 64) (shf (wv l) n) ++ List.replicate (4 - (i - (-n).toNat / 64)) 0)))], fun s => (slotN s 11).toNat, fun _ i => (-n).toNat / 64 ≤ i ∧ i ≤ 4, fun i => 4 - i⟩
  | _ => none
--KEEP Go.Vg.eqB Go.Vg.vB Go.Vg.nB Go.Vg.okd Go.Vg.okw Go.Vg.dg okb lenOk lenS sbd sbb dif bor cmpN shf i64ok subL
set_option maxRecDepth 100000 in
theorem vc72  (l m : List Int) (F : D)  :
    (owed c72 (inv72 l m) Try.f72 [num4 l, num4 m] F) = (
 (True ∧ false = false) ∧
   (True ∧ false = false) ∧
    (True ∧ (4 : Nat) ≠ (0 : Nat)) ∧
     True ∧
      True ∧
       True ∧
        (((AV.d (D.val (Value.int IntKind.i64 (0 : Int))) = AV.d (D.val (Value.int IntKind.i64 (↑(Int.toNat (0 : Int)) : Int))) ∧ AV.d (D.val (Value.int IntKind.u64 (0 : Int))) = AV.d (D.val (Value.int IntKind.u64 (↑(bor (vB (18446744073709551616 : Nat) (List.take (Int.toNat (0 : Int)) l)) (vB (18446744073709551616 : Nat) (List.take (Int.toNat (0 : Int)) m))) : Int))) ∧ True) ∧
           (some (Blk.fix (D.arr IntKind.u64 (4 : Nat) l)) = some (Blk.fix (D.arr IntKind.u64 (4 : Nat) (subL l m (Int.toNat (0 : Int))))) ∧
             some (Blk.fix (D.arr IntKind.u64 (4 : Nat) m)) = some (Blk.fix (D.arr IntKind.u64 (4 : Nat) m)) ∧ some (Blk.fix (D.arr IntKind.u64 (4 : Nat) [(0 : Int), (0 : Int), (0 : Int), (0 : Int)])) = some (Blk.fix (D.arr IntKind.u64 (4 : Nat) [(0 : Int), (0 : Int), (0 : Int), (0 : Int)])) ∧ True) ∧
            true = true) ∧
          Int.toNat (0 : Int) ≤ (4 : Nat)) ∧
         ∀ (x : Nat),
          x ≤ (4 : Nat) →
           true = true ∧
            True ∧
             match decide ((↑x : Int) < (4 : Int)) with
             | true =>
              True ∧
               True ∧
                True ∧
                 True ∧
                  ((0 : Int) ≤ (↑x : Int) ∧ (↑x : Int) < (↑(4 : Nat) : Int) ∧ (4 : Nat) = (4 : Nat) ∧ (1 : Nat) = (1 : Nat)) ∧
                   ((1 : Nat) ≠ (0 : Nat) ∧ (1 : Nat) = (1 : Nat) ∧ false = false) ∧
                    True ∧
                     ((0 : Int) ≤ (↑x : Int) ∧ (↑x : Int) < (↑(4 : Nat) : Int) ∧ (4 : Nat) = (4 : Nat) ∧ (1 : Nat) = (1 : Nat)) ∧
                      ((1 : Nat) ≠ (0 : Nat) ∧ (1 : Nat) = (1 : Nat) ∧ false = false) ∧
                       True ∧
                        (∃ (x_1 : Nat),
                          ∃ (y : Nat),
                           ∃ (b : Nat),
                            [D.val (Value.int IntKind.u64 ((subL l m x).getD (↑x : Int).toNat (0 : Int))), D.val (Value.int IntKind.u64 (m.getD (↑x : Int).toNat (0 : Int))), D.val (Value.int IntKind.u64 (↑(bor (vB (18446744073709551616 : Nat) (List.take x l)) (vB (18446744073709551616 : Nat) (List.take x m))) : Int))] =
                              [D.val (Value.int IntKind.u64 (↑x_1 : Int)), D.val (Value.int IntKind.u64 (↑y : Int)), D.val (Value.int IntKind.u64 (↑b : Int))] ∧
                             x_1 < (18446744073709551616 : Nat) ∧ y < (18446744073709551616 : Nat) ∧ b ≤ (1 : Nat)) ∧
                         True ∧
                          ((0 : Nat) < (2 : Nat) ∧ false = false) ∧
                           ((1 : Nat) < (2 : Nat) ∧ false = false) ∧
                            ((0 : Int) ≤ (↑x : Int) ∧ (↑x : Int) < (↑(4 : Nat) : Int) ∧ (4 : Nat) = (4 : Nat) ∧ (1 : Nat) = (1 : Nat)) ∧
                             (((↑x : Int).toNat < (4 : Nat) ∧ ([] : List Nat) = [] ∧ true = true) ∧ (1 : Nat) ≠ (0 : Nat) ∧ (1 : Nat) = (1 : Nat) ∧ false = false) ∧
                              True ∧
                               True ∧
                                True ∧
                                 ((AV.d (D.val (Value.int IntKind.i64 (IntKind.i64.wrap ((↑x : Int) + (1 : Int))))) = AV.d (D.val (Value.int IntKind.i64 (↑(IntKind.i64.wrap ((↑x : Int) + (1 : Int))).toNat : Int))) ∧
                                    AV.d (D.val (Value.int IntKind.u64 (↑(sbb ((subL l m x).getD (↑x : Int).toNat (0 : Int)).toNat (m.getD (↑x : Int).toNat (0 : Int)).toNat (↑(bor (vB (18446744073709551616 : Nat) (List.take x l)) (vB (18446744073709551616 : Nat) (List.take x m))) : Int).toNat) : Int))) =
                                      AV.d (D.val (Value.int IntKind.u64 (↑(bor (vB (18446744073709551616 : Nat) (List.take (IntKind.i64.wrap ((↑x : Int) + (1 : Int))).toNat l)) (vB (18446744073709551616 : Nat) (List.take (IntKind.i64.wrap ((↑x : Int) + (1 : Int))).toNat m))) : Int))) ∧
                                     True) ∧
                                   (some (Blk.fix (D.arr IntKind.u64 (4 : Nat) ((subL l m x).set (↑x : Int).toNat (↑(sbd ((subL l m x).getD (↑x : Int).toNat (0 : Int)).toNat (m.getD (↑x : Int).toNat (0 : Int)).toNat (↑(bor (vB (18446744073709551616 : Nat) (List.take x l)) (vB (18446744073709551616 : Nat) (List.take x m))) : Int).toNat) : Int)))) =
                                      some (Blk.fix (D.arr IntKind.u64 (4 : Nat) (subL l m (IntKind.i64.wrap ((↑x : Int) + (1 : Int))).toNat))) ∧
                                     some (Blk.fix (D.arr IntKind.u64 (4 : Nat) m)) = some (Blk.fix (D.arr IntKind.u64 (4 : Nat) m)) ∧ some (Blk.fix (D.arr IntKind.u64 (4 : Nat) [(0 : Int), (0 : Int), (0 : Int), (0 : Int)])) = some (Blk.fix (D.arr IntKind.u64 (4 : Nat) [(0 : Int), (0 : Int), (0 : Int), (0 : Int)])) ∧ True) ∧
                                    true = true) ∧
                                  (IntKind.i64.wrap ((↑x : Int) + (1 : Int))).toNat ≤ (4 : Nat) ∧ (4 : Nat) - (IntKind.i64.wrap ((↑x : Int) + (1 : Int))).toNat < (4 : Nat) - x
             | false =>
              ((4 : Nat) ≠ (0 : Nat) ∧ (4 : Nat) = (4 : Nat) ∧ true = true) ∧
               True ∧
                (Sk.arr (4 : Nat) = Sk.arr (4 : Nat) ∧ (4 : Nat) ≠ (0 : Nat) ∧ (4 : Nat) = (4 : Nat) ∧ false = false) ∧
                 True ∧ (((4 : Nat) ≠ (0 : Nat) ∧ (4 : Nat) = (4 : Nat) ∧ true = true) ∧ false = false ∧ True) ∧ D.tup [D.arr IntKind.u64 (4 : Nat) (subL l m x), D.val (Value.int IntKind.u64 (↑(bor (vB (18446744073709551616 : Nat) (List.take x l)) (vB (18446744073709551616 : Nat) (List.take x m))) : Int))] = F) := by kernel_rfl
set_option maxRecDepth 100000 in
theorem vc73  (l m : List Int) (F : D)  :
    (owed c60 (inv73 l m) Try.f73 [num4 l, num4 m] F) = (
 (True ∧ false = false) ∧
   (True ∧ false = false) ∧
    True ∧
     True ∧
      (((AV.d (D.val (Value.int IntKind.i64 (3 : Int))) = AV.d (D.val (Value.int IntKind.i64 (3 : Int))) ∧ True) ∧ (some (Blk.fix (D.arr IntKind.u64 (4 : Nat) l)) = some (Blk.fix (D.arr IntKind.u64 (4 : Nat) l)) ∧ some (Blk.fix (D.arr IntKind.u64 (4 : Nat) m)) = some (Blk.fix (D.arr IntKind.u64 (4 : Nat) m)) ∧ True) ∧ true = true) ∧
        ((-1 : Int) ≤ (3 : Int) ∧ (3 : Int) ≤ (3 : Int)) ∧ List.drop ((3 : Int) + (1 : Int)).toNat l = List.drop ((3 : Int) + (1 : Int)).toNat m) ∧
       ∀ (x : Int),
        ((-1 : Int) ≤ x ∧ x ≤ (3 : Int)) ∧ List.drop (x + (1 : Int)).toNat l = List.drop (x + (1 : Int)).toNat m →
         true = true ∧
          True ∧
           True ∧
            match decide (x ≥ (0 : Int)) with
            | true =>
             True ∧
              ((0 : Int) ≤ x ∧ x < (↑(4 : Nat) : Int) ∧ (4 : Nat) = (4 : Nat) ∧ (1 : Nat) = (1 : Nat)) ∧
               ((1 : Nat) ≠ (0 : Nat) ∧ (1 : Nat) = (1 : Nat) ∧ false = false) ∧
                True ∧
                 ((0 : Int) ≤ x ∧ x < (↑(4 : Nat) : Int) ∧ (4 : Nat) = (4 : Nat) ∧ (1 : Nat) = (1 : Nat)) ∧
                  ((1 : Nat) ≠ (0 : Nat) ∧ (1 : Nat) = (1 : Nat) ∧ false = false) ∧
                   True ∧
                    True ∧
                     match decide (l.getD x.toNat (0 : Int) < m.getD x.toNat (0 : Int)) with
                     | true => True ∧ (false = false ∧ True) ∧ D.val (Value.int IntKind.i64 (-1 : Int)) = F
                     | false =>
                      True ∧
                       ((0 : Int) ≤ x ∧ x < (↑(4 : Nat) : Int) ∧ (4 : Nat) = (4 : Nat) ∧ (1 : Nat) = (1 : Nat)) ∧
                        ((1 : Nat) ≠ (0 : Nat) ∧ (1 : Nat) = (1 : Nat) ∧ false = false) ∧
                         True ∧
                          ((0 : Int) ≤ x ∧ x < (↑(4 : Nat) : Int) ∧ (4 : Nat) = (4 : Nat) ∧ (1 : Nat) = (1 : Nat)) ∧
                           ((1 : Nat) ≠ (0 : Nat) ∧ (1 : Nat) = (1 : Nat) ∧ false = false) ∧
                            True ∧
                             True ∧
                              match decide (l.getD x.toNat (0 : Int) > m.getD x.toNat (0 : Int)) with
                              | true => True ∧ (false = false ∧ True) ∧ D.val (Value.int IntKind.i64 (1 : Int)) = F
                              | false =>
                               True ∧
                                True ∧
                                 True ∧
                                  ((AV.d (D.val (Value.int IntKind.i64 (IntKind.i64.wrap (x - (1 : Int))))) = AV.d (D.val (Value.int IntKind.i64 (IntKind.i64.wrap (x - (1 : Int))))) ∧ True) ∧
                                    (some (Blk.fix (D.arr IntKind.u64 (4 : Nat) l)) = some (Blk.fix (D.arr IntKind.u64 (4 : Nat) l)) ∧ some (Blk.fix (D.arr IntKind.u64 (4 : Nat) m)) = some (Blk.fix (D.arr IntKind.u64 (4 : Nat) m)) ∧ True) ∧ true = true) ∧
                                   (((-1 : Int) ≤ IntKind.i64.wrap (x - (1 : Int)) ∧ IntKind.i64.wrap (x - (1 : Int)) ≤ (3 : Int)) ∧ List.drop (IntKind.i64.wrap (x - (1 : Int)) + (1 : Int)).toNat l = List.drop (IntKind.i64.wrap (x - (1 : Int)) + (1 : Int)).toNat m) ∧ (IntKind.i64.wrap (x - (1 : Int)) + (1 : Int)).toNat < (x + (1 : Int)).toNat
            | false => True ∧ (false = false ∧ True) ∧ D.val (Value.int IntKind.i64 (0 : Int)) = F) := by kernel_rfl
set_option maxRecDepth 100000 in
theorem vc71  (l : List Int) (n : Int) (F : D)  :
    (owed c60 (inv71 l n) Try.f71 [num4 l, i64 n] F) = (
 (True ∧ false = false) ∧
   (True ∧ (4 : Nat) ≠ (0 : Nat)) ∧
    (True ∧ (4 : Nat) ≠ (0 : Nat)) ∧
     True ∧
      True ∧
       True ∧
        match decide (n > (255 : Int)) with
        | true => True ∧ True ∧ ((4 : Nat) ≠ (0 : Nat) ∧ (4 : Nat) = (4 : Nat) ∧ true = true) ∧ (Sk.arr (4 : Nat) = Sk.arr (4 : Nat) ∧ (4 : Nat) ≠ (0 : Nat) ∧ (4 : Nat) = (4 : Nat) ∧ false = false) ∧ (((4 : Nat) ≠ (0 : Nat) ∧ (4 : Nat) = (4 : Nat) ∧ true = true) ∧ True) ∧ D.arr IntKind.u64 (4 : Nat) [(0 : Int), (0 : Int), (0 : Int), (0 : Int)] = F
        | false =>
         True ∧
          True ∧
           True ∧
            True ∧
             match decide (n < (-255 : Int)) with
             | true => ((4 : Nat) ≠ (0 : Nat) ∧ (4 : Nat) = (4 : Nat) ∧ true = true) ∧ (Sk.arr (4 : Nat) = Sk.arr (4 : Nat) ∧ (4 : Nat) ≠ (0 : Nat) ∧ (4 : Nat) = (4 : Nat) ∧ false = false) ∧ (((4 : Nat) ≠ (0 : Nat) ∧ (4 : Nat) = (4 : Nat) ∧ true = true) ∧ True) ∧ D.arr IntKind.u64 (4 : Nat) [(0 : Int), (0 : Int), (0 : Int), (0 : Int)] = F
             | false =>
              True ∧
               True ∧
                True ∧
                 match decide (n ≥ (0 : Int)) with
                 | true =>
                  True ∧
                   (64 : Int) ≠ (0 : Int) ∧
                    True ∧
                     (64 : Int) ≠ (0 : Int) ∧
                      True ∧
                       True ∧
                        True ∧
                         True ∧
                          True ∧
                           (((AV.d (D.val (Value.int IntKind.i64 (IntKind.i64.wrap (n.tdiv (64 : Int))))) = AV.d (D.val (Value.int IntKind.i64 (↑(IntKind.i64.wrap (n.tdiv (64 : Int))).toNat : Int))) ∧ True) ∧
                              (some (Blk.fix (D.arr IntKind.u64 (4 : Nat) l)) = some (Blk.fix (D.arr IntKind.u64 (4 : Nat) l)) ∧
                                some (Blk.fix (D.arr IntKind.u64 (4 : Nat) [(0 : Int), (0 : Int), (0 : Int), (0 : Int)])) = some (Blk.fix (D.arr IntKind.u64 (4 : Nat) [(0 : Int), (0 : Int), (0 : Int), (0 : Int)])) ∧
                                 some (Blk.fix (D.arr IntKind.u64 (4 : Nat) [(0 : Int), (0 : Int), (0 : Int), (0 : Int)])) =
                                   some (Blk.fix (D.arr IntKind.u64 (4 : Nat) (nB (18446744073709551616 : Nat) (IntKind.i64.wrap (n.tdiv (64 : Int))).toNat (shf (vB (18446744073709551616 : Nat) l) n) ++ List.replicate ((4 : Nat) - (IntKind.i64.wrap (n.tdiv (64 : Int))).toNat) (0 : Int)))) ∧
                                  True) ∧
                               true = true) ∧
                             n.toNat / (64 : Nat) ≤ (IntKind.i64.wrap (n.tdiv (64 : Int))).toNat ∧ (IntKind.i64.wrap (n.tdiv (64 : Int))).toNat ≤ (4 : Nat)) ∧
                            ∀ (x : Nat),
                             n.toNat / (64 : Nat) ≤ x ∧ x ≤ (4 : Nat) →
                              true = true ∧
                               True ∧
                                True ∧
                                 match decide ((↑x : Int) < (4 : Int)) with
                                 | true =>
                                  True ∧
                                   True ∧
                                    True ∧
                                     True ∧
                                      ((0 : Int) ≤ IntKind.i64.wrap ((↑x : Int) - IntKind.i64.wrap (n.tdiv (64 : Int))) ∧ IntKind.i64.wrap ((↑x : Int) - IntKind.i64.wrap (n.tdiv (64 : Int))) < (↑(4 : Nat) : Int) ∧ (4 : Nat) = (4 : Nat) ∧ (1 : Nat) = (1 : Nat)) ∧
                                       ((1 : Nat) ≠ (0 : Nat) ∧ (1 : Nat) = (1 : Nat) ∧ false = false) ∧
                                        True ∧
                                         (0 : Int) ≤ IntKind.u64.wrap (n.tmod (64 : Int)) ∧
                                          ((0 : Int) ≤ (↑x : Int) ∧ (↑x : Int) < (↑(4 : Nat) : Int) ∧ (4 : Nat) = (4 : Nat) ∧ (1 : Nat) = (1 : Nat)) ∧
                                           (((↑x : Int).toNat < (4 : Nat) ∧ ([] : List Nat) = [] ∧ true = true) ∧ (1 : Nat) ≠ (0 : Nat) ∧ (1 : Nat) = (1 : Nat) ∧ false = false) ∧
                                            True ∧
                                             True ∧
                                              True ∧
                                               match decide ((↑x : Int) > IntKind.i64.wrap (n.tdiv (64 : Int))) with
                                               | true =>
                                                True ∧
                                                 ((0 : Int) ≤ (↑x : Int) ∧ (↑x : Int) < (↑(4 : Nat) : Int) ∧ (4 : Nat) = (4 : Nat) ∧ (1 : Nat) = (1 : Nat)) ∧
                                                  ((1 : Nat) ≠ (0 : Nat) ∧ (1 : Nat) = (1 : Nat) ∧ false = false) ∧
                                                   True ∧
                                                    True ∧
                                                     True ∧
                                                      True ∧
                                                       ((0 : Int) ≤ IntKind.i64.wrap (IntKind.i64.wrap ((↑x : Int) - IntKind.i64.wrap (n.tdiv (64 : Int))) - (1 : Int)) ∧ IntKind.i64.wrap (IntKind.i64.wrap ((↑x : Int) - IntKind.i64.wrap (n.tdiv (64 : Int))) - (1 : Int)) < (↑(4 : Nat) : Int) ∧ (4 : Nat) = (4 : Nat) ∧ (1 : Nat) = (1 : Nat)) ∧
                                                        ((1 : Nat) ≠ (0 : Nat) ∧ (1 : Nat) = (1 : Nat) ∧ false = false) ∧
                                                         True ∧
                                                          True ∧
                                                           (0 : Int) ≤ IntKind.u64.wrap ((64 : Int) - IntKind.u64.wrap (n.tmod (64 : Int))) ∧
                                                            True ∧
                                                             ((0 : Int) ≤ (↑x : Int) ∧ (↑x : Int) < (↑(4 : Nat) : Int) ∧ (4 : Nat) = (4 : Nat) ∧ (1 : Nat) = (1 : Nat)) ∧
                                                              (((↑x : Int).toNat < (4 : Nat) ∧ ([] : List Nat) = [] ∧ true = true) ∧ (1 : Nat) ≠ (0 : Nat) ∧ (1 : Nat) = (1 : Nat) ∧ false = false) ∧
                                                               True ∧
                                                                True ∧
                                                                 True ∧
                                                                  ((AV.d (D.val (Value.int IntKind.i64 (IntKind.i64.wrap ((↑x : Int) + (1 : Int))))) = AV.d (D.val (Value.int IntKind.i64 (↑(IntKind.i64.wrap ((↑x : Int) + (1 : Int))).toNat : Int))) ∧ True) ∧
                                                                    (some (Blk.fix (D.arr IntKind.u64 (4 : Nat) l)) = some (Blk.fix (D.arr IntKind.u64 (4 : Nat) l)) ∧
                                                                      some (Blk.fix (D.arr IntKind.u64 (4 : Nat) [(0 : Int), (0 : Int), (0 : Int), (0 : Int)])) = some (Blk.fix (D.arr IntKind.u64 (4 : Nat) [(0 : Int), (0 : Int), (0 : Int), (0 : Int)])) ∧
                                                                       some
                                                                          (Blk.fix
                                                                           (D.arr IntKind.u64 (4 : Nat)
                                                                            (((nB (18446744073709551616 : Nat) x (shf (vB (18446744073709551616 : Nat) l) n) ++ List.replicate ((4 : Nat) - x) (0 : Int)).set (↑x : Int).toNat
                                                                               (ishl IntKind.u64 (l.getD (IntKind.i64.wrap ((↑x : Int) - IntKind.i64.wrap (n.tdiv (64 : Int)))).toNat (0 : Int)) (IntKind.u64.wrap (n.tmod (64 : Int))))).set
                                                                             (↑x : Int).toNat
                                                                             (ior IntKind.u64
                                                                              (((nB (18446744073709551616 : Nat) x (shf (vB (18446744073709551616 : Nat) l) n) ++ List.replicate ((4 : Nat) - x) (0 : Int)).set (↑x : Int).toNat
                                                                                 (ishl IntKind.u64 (l.getD (IntKind.i64.wrap ((↑x : Int) - IntKind.i64.wrap (n.tdiv (64 : Int)))).toNat (0 : Int)) (IntKind.u64.wrap (n.tmod (64 : Int))))).getD
                                                                               (↑x : Int).toNat (0 : Int))
                                                                              (ishr IntKind.u64 (l.getD (IntKind.i64.wrap (IntKind.i64.wrap ((↑x : Int) - IntKind.i64.wrap (n.tdiv (64 : Int))) - (1 : Int))).toNat (0 : Int)) (IntKind.u64.wrap ((64 : Int) - IntKind.u64.wrap (n.tmod (64 : Int))))))))) =
                                                                         some
                                                                          (Blk.fix
                                                                           (D.arr IntKind.u64 (4 : Nat) (nB (18446744073709551616 : Nat) (IntKind.i64.wrap ((↑x : Int) + (1 : Int))).toNat (shf (vB (18446744073709551616 : Nat) l) n) ++ List.replicate ((4 : Nat) - (IntKind.i64.wrap ((↑x : Int) + (1 : Int))).toNat) (0 : Int)))) ∧
                                                                        True) ∧
                                                                     true = true) ∧
                                                                   (n.toNat / (64 : Nat) ≤ (IntKind.i64.wrap ((↑x : Int) + (1 : Int))).toNat ∧ (IntKind.i64.wrap ((↑x : Int) + (1 : Int))).toNat ≤ (4 : Nat)) ∧ (4 : Nat) - (IntKind.i64.wrap ((↑x : Int) + (1 : Int))).toNat < (4 : Nat) - x
                                               | false =>
                                                True ∧
                                                 True ∧
                                                  True ∧
                                                   ((AV.d (D.val (Value.int IntKind.i64 (IntKind.i64.wrap ((↑x : Int) + (1 : Int))))) = AV.d (D.val (Value.int IntKind.i64 (↑(IntKind.i64.wrap ((↑x : Int) + (1 : Int))).toNat : Int))) ∧ True) ∧
                                                     (some (Blk.fix (D.arr IntKind.u64 (4 : Nat) l)) = some (Blk.fix (D.arr IntKind.u64 (4 : Nat) l)) ∧
                                                       some (Blk.fix (D.arr IntKind.u64 (4 : Nat) [(0 : Int), (0 : Int), (0 : Int), (0 : Int)])) = some (Blk.fix (D.arr IntKind.u64 (4 : Nat) [(0 : Int), (0 : Int), (0 : Int), (0 : Int)])) ∧
                                                        some
                                                           (Blk.fix
                                                            (D.arr IntKind.u64 (4 : Nat)
                                                             ((nB (18446744073709551616 : Nat) x (shf (vB (18446744073709551616 : Nat) l) n) ++ List.replicate ((4 : Nat) - x) (0 : Int)).set (↑x : Int).toNat
                                                              (ishl IntKind.u64 (l.getD (IntKind.i64.wrap ((↑x : Int) - IntKind.i64.wrap (n.tdiv (64 : Int)))).toNat (0 : Int)) (IntKind.u64.wrap (n.tmod (64 : Int))))))) =
                                                          some (Blk.fix (D.arr IntKind.u64 (4 : Nat) (nB (18446744073709551616 : Nat) (IntKind.i64.wrap ((↑x : Int) + (1 : Int))).toNat (shf (vB (18446744073709551616 : Nat) l) n) ++ List.replicate ((4 : Nat) - (IntKind.i64.wrap ((↑x : Int) + (1 : Int))).toNat) (0 : Int)))) ∧
                                                         True) ∧
                                                      true = true) ∧
                                                    (n.toNat / (64 : Nat) ≤ (IntKind.i64.wrap ((↑x : Int) + (1 : Int))).toNat ∧ (IntKind.i64.wrap ((↑x : Int) + (1 : Int))).toNat ≤ (4 : Nat)) ∧ (4 : Nat) - (IntKind.i64.wrap ((↑x : Int) + (1 : Int))).toNat < (4 : Nat) - x
                                 | false =>
                                  ((4 : Nat) ≠ (0 : Nat) ∧ (4 : Nat) = (4 : Nat) ∧ true = true) ∧
                                   (Sk.arr (4 : Nat) = Sk.arr (4 : Nat) ∧ (4 : Nat) ≠ (0 : Nat) ∧ (4 : Nat) = (4 : Nat) ∧ false = false) ∧ (((4 : Nat) ≠ (0 : Nat) ∧ (4 : Nat) = (4 : Nat) ∧ true = true) ∧ True) ∧ D.arr IntKind.u64 (4 : Nat) (nB (18446744073709551616 : Nat) x (shf (vB (18446744073709551616 : Nat) l) n) ++ List.replicate ((4 : Nat) - x) (0 : Int)) = F
                 | false =>
                  True ∧
                   True ∧
                    (64 : Int) ≠ (0 : Int) ∧
                     True ∧
                      True ∧
                       (64 : Int) ≠ (0 : Int) ∧
                        True ∧
                         True ∧
                          True ∧
                           True ∧
                            True ∧
                             (((AV.d (D.val (Value.int IntKind.i64 (IntKind.i64.wrap ((IntKind.i64.wrap ((0 : Int) - n)).tdiv (64 : Int))))) = AV.d (D.val (Value.int IntKind.i64 (↑(IntKind.i64.wrap ((IntKind.i64.wrap ((0 : Int) - n)).tdiv (64 : Int))).toNat : Int))) ∧ True) ∧
                                (some (Blk.fix (D.arr IntKind.u64 (4 : Nat) l)) = some (Blk.fix (D.arr IntKind.u64 (4 : Nat) l)) ∧
                                  some (Blk.fix (D.arr IntKind.u64 (4 : Nat) [(0 : Int), (0 : Int), (0 : Int), (0 : Int)])) = some (Blk.fix (D.arr IntKind.u64 (4 : Nat) [(0 : Int), (0 : Int), (0 : Int), (0 : Int)])) ∧
                                   some (Blk.fix (D.arr IntKind.u64 (4 : Nat) [(0 : Int), (0 : Int), (0 : Int), (0 : Int)])) =
                                     some
                                      (Blk.fix
                                       (D.arr IntKind.u64 (4 : Nat)
                                        (nB (18446744073709551616 : Nat) ((IntKind.i64.wrap ((IntKind.i64.wrap ((0 : Int) - n)).tdiv (64 : Int))).toNat - (-n).toNat / (64 : Nat)) (shf (vB (18446744073709551616 : Nat) l) n) ++
                                         List.replicate ((4 : Nat) - ((IntKind.i64.wrap ((IntKind.i64.wrap ((0 : Int) - n)).tdiv (64 : Int))).toNat - (-n).toNat / (64 : Nat))) (0 : Int)))) ∧
                                    True) ∧
                                 true = true) ∧
                               (-n).toNat / (64 : Nat) ≤ (IntKind.i64.wrap ((IntKind.i64.wrap ((0 : Int) - n)).tdiv (64 : Int))).toNat ∧ (IntKind.i64.wrap ((IntKind.i64.wrap ((0 : Int) - n)).tdiv (64 : Int))).toNat ≤ (4 : Nat)) ∧
                              ∀ (x : Nat),
                               (-n).toNat / (64 : Nat) ≤ x ∧ x ≤ (4 : Nat) →
                                true = true ∧
                                 True ∧
                                  True ∧
                                   match decide ((↑x : Int) < (4 : Int)) with
                                   | true =>
                                    True ∧
                                     True ∧
                                      True ∧
                                       True ∧
                                        ((0 : Int) ≤ (↑x : Int) ∧ (↑x : Int) < (↑(4 : Nat) : Int) ∧ (4 : Nat) = (4 : Nat) ∧ (1 : Nat) = (1 : Nat)) ∧
                                         ((1 : Nat) ≠ (0 : Nat) ∧ (1 : Nat) = (1 : Nat) ∧ false = false) ∧
                                          True ∧
                                           (0 : Int) ≤ IntKind.u64.wrap ((IntKind.i64.wrap ((0 : Int) - n)).tmod (64 : Int)) ∧
                                            ((0 : Int) ≤ IntKind.i64.wrap ((↑x : Int) - IntKind.i64.wrap ((IntKind.i64.wrap ((0 : Int) - n)).tdiv (64 : Int))) ∧ IntKind.i64.wrap ((↑x : Int) - IntKind.i64.wrap ((IntKind.i64.wrap ((0 : Int) - n)).tdiv (64 : Int))) < (↑(4 : Nat) : Int) ∧ (4 : Nat) = (4 : Nat) ∧ (1 : Nat) = (1 : Nat)) ∧
                                             (((IntKind.i64.wrap ((↑x : Int) - IntKind.i64.wrap ((IntKind.i64.wrap ((0 : Int) - n)).tdiv (64 : Int)))).toNat < (4 : Nat) ∧ ([] : List Nat) = [] ∧ true = true) ∧ (1 : Nat) ≠ (0 : Nat) ∧ (1 : Nat) = (1 : Nat) ∧ false = false) ∧
                                              True ∧
                                               True ∧
                                                match decide ((↑x : Int) < (3 : Int)) with
                                                | true =>
                                                 True ∧
                                                  True ∧
                                                   True ∧
                                                    ((0 : Int) ≤ IntKind.i64.wrap ((↑x : Int) - IntKind.i64.wrap ((IntKind.i64.wrap ((0 : Int) - n)).tdiv (64 : Int))) ∧ IntKind.i64.wrap ((↑x : Int) - IntKind.i64.wrap ((IntKind.i64.wrap ((0 : Int) - n)).tdiv (64 : Int))) < (↑(4 : Nat) : Int) ∧ (4 : Nat) = (4 : Nat) ∧ (1 : Nat) = (1 : Nat)) ∧
                                                     ((1 : Nat) ≠ (0 : Nat) ∧ (1 : Nat) = (1 : Nat) ∧ false = false) ∧
                                                      True ∧
                                                       True ∧
                                                        ((0 : Int) ≤ IntKind.i64.wrap ((↑x : Int) + (1 : Int)) ∧ IntKind.i64.wrap ((↑x : Int) + (1 : Int)) < (↑(4 : Nat) : Int) ∧ (4 : Nat) = (4 : Nat) ∧ (1 : Nat) = (1 : Nat)) ∧
                                                         ((1 : Nat) ≠ (0 : Nat) ∧ (1 : Nat) = (1 : Nat) ∧ false = false) ∧
                                                          True ∧
                                                           True ∧
                                                            (0 : Int) ≤ IntKind.u64.wrap ((64 : Int) - IntKind.u64.wrap ((IntKind.i64.wrap ((0 : Int) - n)).tmod (64 : Int))) ∧
                                                             True ∧
                                                              ((0 : Int) ≤ IntKind.i64.wrap ((↑x : Int) - IntKind.i64.wrap ((IntKind.i64.wrap ((0 : Int) - n)).tdiv (64 : Int))) ∧
                                                                IntKind.i64.wrap ((↑x : Int) - IntKind.i64.wrap ((IntKind.i64.wrap ((0 : Int) - n)).tdiv (64 : Int))) < (↑(4 : Nat) : Int) ∧ (4 : Nat) = (4 : Nat) ∧ (1 : Nat) = (1 : Nat)) ∧
                                                               (((IntKind.i64.wrap ((↑x : Int) - IntKind.i64.wrap ((IntKind.i64.wrap ((0 : Int) - n)).tdiv (64 : Int)))).toNat < (4 : Nat) ∧ ([] : List Nat) = [] ∧ true = true) ∧ (1 : Nat) ≠ (0 : Nat) ∧ (1 : Nat) = (1 : Nat) ∧ false = false) ∧
                                                                True ∧
                                                                 True ∧
                                                                  True ∧
                                                                   ((AV.d (D.val (Value.int IntKind.i64 (IntKind.i64.wrap ((↑x : Int) + (1 : Int))))) = AV.d (D.val (Value.int IntKind.i64 (↑(IntKind.i64.wrap ((↑x : Int) + (1 : Int))).toNat : Int))) ∧ True) ∧
                                                                     (some (Blk.fix (D.arr IntKind.u64 (4 : Nat) l)) = some (Blk.fix (D.arr IntKind.u64 (4 : Nat) l)) ∧
                                                                       some (Blk.fix (D.arr IntKind.u64 (4 : Nat) [(0 : Int), (0 : Int), (0 : Int), (0 : Int)])) = some (Blk.fix (D.arr IntKind.u64 (4 : Nat) [(0 : Int), (0 : Int), (0 : Int), (0 : Int)])) ∧
                                                                        some
                                                                           (Blk.fix
                                                                            (D.arr IntKind.u64 (4 : Nat)
                                                                             (((nB (18446744073709551616 : Nat) (x - (-n).toNat / (64 : Nat)) (shf (vB (18446744073709551616 : Nat) l) n) ++ List.replicate ((4 : Nat) - (x - (-n).toNat / (64 : Nat))) (0 : Int)).set
                                                                                (IntKind.i64.wrap ((↑x : Int) - IntKind.i64.wrap ((IntKind.i64.wrap ((0 : Int) - n)).tdiv (64 : Int)))).toNat (ishr IntKind.u64 (l.getD (↑x : Int).toNat (0 : Int)) (IntKind.u64.wrap ((IntKind.i64.wrap ((0 : Int) - n)).tmod (64 : Int))))).set
                                                                              (IntKind.i64.wrap ((↑x : Int) - IntKind.i64.wrap ((IntKind.i64.wrap ((0 : Int) - n)).tdiv (64 : Int)))).toNat
                                                                              (ior IntKind.u64
                                                                               (((nB (18446744073709551616 : Nat) (x - (-n).toNat / (64 : Nat)) (shf (vB (18446744073709551616 : Nat) l) n) ++ List.replicate ((4 : Nat) - (x - (-n).toNat / (64 : Nat))) (0 : Int)).set
                                                                                  (IntKind.i64.wrap ((↑x : Int) - IntKind.i64.wrap ((IntKind.i64.wrap ((0 : Int) - n)).tdiv (64 : Int)))).toNat
                                                                                  (ishr IntKind.u64 (l.getD (↑x : Int).toNat (0 : Int)) (IntKind.u64.wrap ((IntKind.i64.wrap ((0 : Int) - n)).tmod (64 : Int))))).getD
                                                                                (IntKind.i64.wrap ((↑x : Int) - IntKind.i64.wrap ((IntKind.i64.wrap ((0 : Int) - n)).tdiv (64 : Int)))).toNat (0 : Int))
                                                                               (ishl IntKind.u64 (l.getD (IntKind.i64.wrap ((↑x : Int) + (1 : Int))).toNat (0 : Int)) (IntKind.u64.wrap ((64 : Int) - IntKind.u64.wrap ((IntKind.i64.wrap ((0 : Int) - n)).tmod (64 : Int))))))))) =
                                                                          some
                                                                           (Blk.fix
                                                                            (D.arr IntKind.u64 (4 : Nat)
                                                                             (nB (18446744073709551616 : Nat) ((IntKind.i64.wrap ((↑x : Int) + (1 : Int))).toNat - (-n).toNat / (64 : Nat)) (shf (vB (18446744073709551616 : Nat) l) n) ++
                                                                              List.replicate ((4 : Nat) - ((IntKind.i64.wrap ((↑x : Int) + (1 : Int))).toNat - (-n).toNat / (64 : Nat))) (0 : Int)))) ∧
                                                                         True) ∧
                                                                      true = true) ∧
                                                                    ((-n).toNat / (64 : Nat) ≤ (IntKind.i64.wrap ((↑x : Int) + (1 : Int))).toNat ∧ (IntKind.i64.wrap ((↑x : Int) + (1 : Int))).toNat ≤ (4 : Nat)) ∧ (4 : Nat) - (IntKind.i64.wrap ((↑x : Int) + (1 : Int))).toNat < (4 : Nat) - x
                                                | false =>
                                                 True ∧
                                                  True ∧
                                                   True ∧
                                                    ((AV.d (D.val (Value.int IntKind.i64 (IntKind.i64.wrap ((↑x : Int) + (1 : Int))))) = AV.d (D.val (Value.int IntKind.i64 (↑(IntKind.i64.wrap ((↑x : Int) + (1 : Int))).toNat : Int))) ∧ True) ∧
                                                      (some (Blk.fix (D.arr IntKind.u64 (4 : Nat) l)) = some (Blk.fix (D.arr IntKind.u64 (4 : Nat) l)) ∧
                                                        some (Blk.fix (D.arr IntKind.u64 (4 : Nat) [(0 : Int), (0 : Int), (0 : Int), (0 : Int)])) = some (Blk.fix (D.arr IntKind.u64 (4 : Nat) [(0 : Int), (0 : Int), (0 : Int), (0 : Int)])) ∧
                                                         some
                                                            (Blk.fix
                                                             (D.arr IntKind.u64 (4 : Nat)
                                                              ((nB (18446744073709551616 : Nat) (x - (-n).toNat / (64 : Nat)) (shf (vB (18446744073709551616 : Nat) l) n) ++ List.replicate ((4 : Nat) - (x - (-n).toNat / (64 : Nat))) (0 : Int)).set
                                                               (IntKind.i64.wrap ((↑x : Int) - IntKind.i64.wrap ((IntKind.i64.wrap ((0 : Int) - n)).tdiv (64 : Int)))).toNat (ishr IntKind.u64 (l.getD (↑x : Int).toNat (0 : Int)) (IntKind.u64.wrap ((IntKind.i64.wrap ((0 : Int) - n)).tmod (64 : Int))))))) =
                                                           some
                                                            (Blk.fix
                                                             (D.arr IntKind.u64 (4 : Nat)
                                                              (nB (18446744073709551616 : Nat) ((IntKind.i64.wrap ((↑x : Int) + (1 : Int))).toNat - (-n).toNat / (64 : Nat)) (shf (vB (18446744073709551616 : Nat) l) n) ++
                                                               List.replicate ((4 : Nat) - ((IntKind.i64.wrap ((↑x : Int) + (1 : Int))).toNat - (-n).toNat / (64 : Nat))) (0 : Int)))) ∧
                                                          True) ∧
                                                       true = true) ∧
                                                     ((-n).toNat / (64 : Nat) ≤ (IntKind.i64.wrap ((↑x : Int) + (1 : Int))).toNat ∧ (IntKind.i64.wrap ((↑x : Int) + (1 : Int))).toNat ≤ (4 : Nat)) ∧ (4 : Nat) - (IntKind.i64.wrap ((↑x : Int) + (1 : Int))).toNat < (4 : Nat) - x
                                   | false =>
                                    ((4 : Nat) ≠ (0 : Nat) ∧ (4 : Nat) = (4 : Nat) ∧ true = true) ∧
                                     (Sk.arr (4 : Nat) = Sk.arr (4 : Nat) ∧ (4 : Nat) ≠ (0 : Nat) ∧ (4 : Nat) = (4 : Nat) ∧ false = false) ∧
                                      (((4 : Nat) ≠ (0 : Nat) ∧ (4 : Nat) = (4 : Nat) ∧ true = true) ∧ True) ∧ D.arr IntKind.u64 (4 : Nat) (nB (18446744073709551616 : Nat) (x - (-n).toNat / (64 : Nat)) (shf (vB (18446744073709551616 : Nat) l) n) ++ List.replicate ((4 : Nat) - (x - (-n).toNat / (64 : Nat))) (0 : Int)) = F) := by kernel_rfl

theorem m79 : Meets Try.prog 79 sp79 := by
  refine meets_extern Try.func79 (by kernel_rfl) (by kernel_rfl) (by kernel_rfl) (e := (Go.Extern.MathBitsCarry.rows.getD 1 ("", fun _ => default)).2) (by kernel_rfl) ?_
  rintro _ ⟨x, y, b, rfl, hx, hy, hb⟩
  refine ⟨rfl, fun X w vs h => ?_⟩
  obtain ⟨v1, v2, v3, rfl, h1, h2, h3⟩ := all2_3 h
  obtain rfl := vr_num h1
  obtain rfl := vr_num h2
  obtain rfl := vr_num h3
  refine ⟨_, ?_, pair_vr w X .u64 .u64 ((sbd x y b : Nat) : Int) ((sbb x y b : Nat) : Int)⟩
  obtain rfl | rfl : b = 0 ∨ b = 1 := by omega
  · rfl
  · rfl

end Go.Proofs.Ytcdjhhepgkcabaa
